/- Joins: ways that meet again with the values of some slots. -/
import Derived.Test.YtimoepajidnmjaaVcS
namespace Go.Vc
open Go
set_option linter.unusedSimpArgs false
set_option linter.unusedVariables false

abbrev Js := List (Nat × SK)
def ksJ (js : Js) : List CK := ksOf (js.map (·.2))
/-- The cells of the slots of a join. -/
def valsJ (ρ : Env) : Js → Option (List Value)
  | [] => some []
  | (i, .one _) :: js => match ρ i, valsJ ρ js with | some v, some vs => some (v :: vs) | _, _ => none
  | (i, .agg cs) :: js => match ρ i, valsJ ρ js with
    | some (.agg a), some vs => bif a.size == cs.length then some (a.toList ++ vs) else none
    | _, _ => none
def apJ (js : Js) (ρ : Env) (J : Fam (ksJ js)) (h : Hp) : Prop := match valsJ ρ js with
  | some vs => apF (ksJ js) J vs h
  | none => False
def putJ : Env → Js → List Value → Env
  | ρ, [], _ => ρ
  | ρ, (i, .one _) :: js, v :: vs => putJ (ρ.put i v) js vs
  | ρ, (i, .one _) :: js, [] => putJ ρ js []
  | ρ, (i, .agg cs) :: js, vs => putJ (ρ.put i (.agg (vs.take cs.length).toArray)) js (vs.drop cs.length)

/-- Ways that meet again. -/
def Jn (ks : List CK) (K : Fam ks) (body : Fam ks → Prop) : Prop := ∃ J : Fam ks, Fam.le ks J K ∧ body J
theorem Fam.le_refl : ∀ (ks : List CK) (R : Fam ks), Fam.le ks R R
  | [], _ => fun _ h => h
  | _ :: cs, _ => fun _ => Fam.le_refl cs _
theorem Jn.intro {ks : List CK} {K : Fam ks} {body : Fam ks → Prop} (h : body K) : Jn ks K body := ⟨K, Fam.le_refl ks K, h⟩

def isIn (ds : List Nat) (i : Nat) : Bool := ds.contains i

def KeepsL (ds : List Nat) (ρ ρ' : Env) : Prop := ∀ i, ds.contains i = false → ∀ v, ρ i = some v → ρ' i = some v

theorem KeepsL.trans {d1 d2 : List Nat} {a b c : Env} (h : KeepsL d1 a b) (k : KeepsL d2 b c) : KeepsL (d1 ++ d2) a c := by
  intro i hi v hv
  simp only [List.contains_eq_mem, List.mem_append, decide_eq_false_iff_not, not_or] at hi
  exact k i (by simpa using hi.2) v (h i (by simpa using hi.1) v hv)
theorem KeepsL.mono {d1 d2 : List Nat} {a b : Env} (h : KeepsL d1 a b) (hs : ∀ i, i ∈ d1 → i ∈ d2) : KeepsL d2 a b := by
  intro i hi v hv
  refine h i ?_ v hv
  simp only [List.contains_eq_mem, decide_eq_false_iff_not] at hi ⊢
  exact fun hm => hi (hs i hm)
theorem KeepsL.refl (ds : List Nat) (a : Env) : KeepsL ds a a := fun _ _ _ h => h

theorem putJ_keeps (ds : List Nat) : ∀ (js : Js) (ρ : Env) (vs : List Value), (js.all fun s => isIn ds s.1) = true → KeepsL ds ρ (putJ ρ js vs)
  | [], ρ, vs, _ => by simp only [putJ]; exact .refl _ _
  | (i, .one c) :: js, ρ, [], h => by
    simp only [List.all_cons, Bool.and_eq_true] at h
    simp only [putJ]; exact putJ_keeps ds js ρ [] h.2
  | (i, .one c) :: js, ρ, v :: vs, h => by
    simp only [List.all_cons, Bool.and_eq_true] at h
    simp only [putJ]
    intro j hj u hu
    refine putJ_keeps ds js _ vs h.2 j hj u ?_
    simp only [Env.put]
    cases hb : Nat.beq j i
    · exact hu
    · have e : j = i := Nat.eq_of_beq_eq_true hb
      subst e
      simp only [isIn] at h
      rw [hj] at h; cases h.1
  | (i, .agg cs) :: js, ρ, vs, h => by
    simp only [List.all_cons, Bool.and_eq_true] at h
    simp only [putJ]
    intro j hj u hu
    refine putJ_keeps ds js _ _ h.2 j hj u ?_
    simp only [Env.put]
    cases hb : Nat.beq j i
    · exact hu
    · have e : j = i := Nat.eq_of_beq_eq_true hb
      subst e
      simp only [isIn] at h
      rw [hj] at h; cases h.1

theorem putJ_fits {N : Nat} : ∀ (js : Js) {ρ ρ' : Env} {a : Act} {vs : List Value}, Fits N ρ a → Fits N ρ' a → valsJ ρ' js = some vs → Fits N (putJ ρ js vs) a
  | [], ρ, ρ', a, vs, h, _, _ => h
  | (i, .one c) :: js, ρ, ρ', a, vs, h, h', hv => by
    simp only [valsJ] at hv
    split at hv
    · rename_i v vs' h1 h2
      cases hv
      simp only [putJ]
      refine putJ_fits js ⟨h.defers, h.size, fun j u hu => ?_⟩ h' h2
      simp only [Env.put] at hu
      cases hb : Nat.beq j i
      · rw [hb] at hu; exact h.at_ j u hu
      · have e : j = i := Nat.eq_of_beq_eq_true hb
        subst e
        rw [hb] at hu
        simp only [cond_true, Option.some.injEq] at hu
        subst hu
        exact h'.at_ j _ h1
    · cases hv
  | (i, .agg cs) :: js, ρ, ρ', a, vs, h, h', hv => by
    simp only [valsJ] at hv
    split at hv
    · rename_i ar vs' h1 h2
      cases hs : (ar.size == cs.length)
      · rw [hs] at hv; cases hv
      · rw [hs] at hv
        simp only [cond_true, Option.some.injEq] at hv
        subst hv
        have hlen : ar.toList.length = cs.length := by simpa using hs
        simp only [putJ]
        rw [← hlen, List.take_left, List.drop_left]
        refine putJ_fits js ⟨h.defers, h.size, fun j u hu => ?_⟩ h' h2
        simp only [Env.put] at hu
        cases hb : Nat.beq j i
        · rw [hb] at hu; exact h.at_ j u hu
        · have e : j = i := Nat.eq_of_beq_eq_true hb
          subst e
          rw [hb] at hu
          simp only [cond_true, Option.some.injEq] at hu
          subst hu
          simpa using h'.at_ j _ h1
    · cases hv

theorem apJ_inv {js : Js} {ρ : Env} {J : Fam (ksJ js)} {h : Hp} (hj : apJ js ρ J h) : ∃ vs, valsJ ρ js = some vs ∧ Sat (ksJ js) J vs h := by
  unfold apJ at hj
  split at hj
  · exact ⟨_, by assumption, apF_sat hj⟩
  · exact hj.elim

theorem keeps_fits {N : Nat} {ds : List Nat} {ρ ρ' : Env} {a : Act} (h : Fits N ρ' a) (k : KeepsL ds ρ ρ') : Fits N (ρ.hide ds) a := by
  refine h.weaken fun i v hv => ?_
  simp only [Env.hide] at hv
  cases hc : ds.contains i
  · rw [hc] at hv; exact k i hc v hv
  · rw [hc] at hv; cases hv
theorem keeps_hide (ds : List Nat) (ρ : Env) : KeepsL ds ρ (ρ.hide ds) := by
  intro i hi v hv
  simp only [Env.hide, hi]; exact hv
theorem keeps_from_hide {ds : List Nat} {ρ ρ' : Env} (h : KeepsL ds (ρ.hide ds) ρ') : KeepsL ds ρ ρ' := by
  intro i hi v hv
  exact h i hi v (by simp only [Env.hide, hi]; exact hv)


end Go.Vc
