/- Functions: a call's contract out of its body's verification condition. -/
import Derived.Test.YtimoepajidnmjaaVcH
namespace Go.Vc
open Go
set_option linter.unusedSimpArgs false
set_option linter.unusedVariables false

/-- One result variable's cells. -/
def res1 (P : Program) (r : ResultVar) (s : SK) (ρ : Env) (h : Hp) (K : List Value → Prop) : Prop :=
  match r, s with
  | .tmp t, .one _ => wv (ρ t) fun v => K [v]
  | .tmp t, .agg cs => wv (ρ t) fun v => match v with
    | .agg a => chk (a.size == cs.length) (K a.toList)
    | _ => False
  | .cell a t, .one c => wv (ρ a) fun v => match v, skOf P t with
    | .pointer (some ad), some (.one _) => Ld1 c ad h fun x => K [c.v x]
    | _, _ => False
  | .cell a t, .agg cs => wv (ρ a) fun v => match v, skOf P t with
    | .pointer (some ad), some (.agg _) => chk (P.cellsOf t == cs.length && (P.info? t).isSome) (LdN cs ad 0 h fun vs => K vs)
    | _, _ => False

def resK (P : Program) : List ResultVar → List SK → Env → Hp → (List Value → Prop) → Prop
  | [], [], _, _, K => K []
  | r :: rs, s :: ss, ρ, h, K => res1 P r s ρ h fun vs => resK P rs ss ρ h fun us => K (vs ++ us)
  | _, _, _, _, _ => False

def retQ (P : Program) (fn : Func) (rs : List SK) (R : Fam (ksOf rs)) : Exit → Env → Hp → Prop
  | .normal, ρ, h => resK P fn.results.toList rs ρ h fun vs => apF (ksOf rs) R vs h
  | .ret, ρ, h => resK P fn.results.toList rs ρ h fun vs => apF (ksOf rs) R vs h
  | _, _, _ => False

def argEnv (vs : List Value) : Env := fun i => vs[i]?

def fnK (P : Program) (fn : Func) (x : Hn) (args : List Value) (rs : List SK) (R : Fam (ksOf rs)) (h : Hp) : Prop :=
  match fn.body with
  | some c => chk (Nat.ble args.length fn.ntmps) (cwp P fn.ntmps c x (retQ P fn rs R) (argEnv args) h)
  | none => False

/-- The value of a result out of its cells. -/
def packOne : SK → List Value → Value
  | .one _, [v] => v
  | .one _, _ => undef
  | .agg _, vs => .agg vs.toArray

def resSem (tmps : Array Value) : ResultVar → Sem Value
  | .tmp t => pure (tmps.getD t undef)
  | .cell b t => do loadVar t (← asAddr (tmps.getD b undef))
theorem results_eq (fn : Func) (tmps : Array Value) : results fn tmps = (do
    let vs ← fn.results.mapM (resSem tmps)
    pure (if h : vs.size = 1 then vs[0] else .tuple vs)) := by
  unfold results
  congr 1

theorem res1_sound {P : Program} {r : ResultVar} {s : SK} {ρ : Env} {K : List Value → Prop} {a : Act} {N : Nat} {w : World} (hf : Fits N ρ a) (h : res1 P r s ρ w.heap K) :
    ∃ vs, vs.length = s.ks.length ∧ K vs ∧ (resSem a.tmps r).run P w = .ok (packOne s vs) w := by
  unfold res1 at h
  split at h
  · rename_i t c
    obtain ⟨v, hv, hK⟩ := wv_sound h
    refine ⟨[v], rfl, hK, ?_⟩
    simp [resSem, Array.getD_eq_getD_getElem?, hf.at_ _ _ hv, packOne]
  · rename_i t cs
    obtain ⟨v, hv, hK⟩ := wv_sound h
    split at hK
    · rename_i ar
      rw [chk_iff] at hK
      refine ⟨ar.toList, by simpa [SK.ks] using hK.1, hK.2, ?_⟩
      simp [resSem, Array.getD_eq_getD_getElem?, hf.at_ _ _ hv, packOne]
    · exact hK.elim
  · rename_i b t c
    obtain ⟨v, hv, hK⟩ := wv_sound h
    split at hK
    · rename_i ad c' hs
      obtain ⟨d, hd, hag⟩ := skOf_one hs
      obtain ⟨x, hx, hK⟩ := ld1_sound hK
      refine ⟨[c.v x], rfl, hK, ?_⟩
      simp only [resSem, Array.getD_eq_getD_getElem?, hf.at_ _ _ hv, Option.getD_some, asAddr, Sem.run_bind, Sem.run_pure, Result.andThen_ok, loadVar, isAgg_run hd, hag, packOne]
      simpa using load_run hx
    · exact hK.elim
  · rename_i b t cs
    obtain ⟨v, hv, hK⟩ := wv_sound h
    split at hK
    · rename_i ad cs' hs
      rw [chk_iff] at hK
      obtain ⟨hc, hK⟩ := hK
      simp only [Bool.and_eq_true, beq_iff_eq] at hc
      obtain ⟨d, hd, hag⟩ := skOf_agg hs
      obtain ⟨vs, hl, hK, hr⟩ := ldN_sound (P := P) hK
      refine ⟨vs, hl, hK, ?_⟩
      simp only [resSem, Array.getD_eq_getD_getElem?, hf.at_ _ _ hv, Option.getD_some, asAddr, Sem.run_bind, Sem.run_pure, Result.andThen_ok, loadVar, isAgg_run hd, hag, if_true, sizeOf_run hc.2, loadCells, hc.1, hr, packOne]
      simp
    · exact hK.elim

theorem resK_sound {P : Program} {ρ : Env} {a : Act} {N : Nat} {w : World} (hf : Fits N ρ a) : ∀ {rv : List ResultVar} {rs : List SK} {K : List Value → Prop}, resK P rv rs ρ w.heap K →
    ∃ vs, K vs ∧ (rv.mapM (resSem a.tmps)).run P w = .ok (packs rs vs) w
  | [], [], K, h => ⟨[], h, by simp [packs]⟩
  | r :: rv, s :: rs, K, h => by
    obtain ⟨v1, hl, hK, hr⟩ := res1_sound hf h
    obtain ⟨v2, hK2, hr2⟩ := resK_sound hf hK
    refine ⟨v1 ++ v2, hK2, ?_⟩
    simp only [List.mapM_cons, Sem.run_bind, hr, Result.andThen_ok, hr2, Sem.run_pure]
    cases s with
    | one c =>
      match v1, hl with
      | [v], _ => simp [packs, packOne]
    | agg cs =>
      simp only [SK.ks] at hl
      simp only [packs, packOne, ← hl, List.take_left, List.drop_left]
  | [], _ :: _, K, h => h.elim
  | _ :: _, [], K, h => h.elim

theorem results_run {P : Program} {fn : Func} {ρ : Env} {a : Act} {N : Nat} {w : World} {rs : List SK} {K : List Value → Prop} (hf : Fits N ρ a) (h : resK P fn.results.toList rs ρ w.heap K) :
    ∃ vs, K vs ∧ (results fn a.tmps).run P w = .ok (pack rs vs) w := by
  obtain ⟨vs, hK, hr⟩ := resK_sound hf h
  refine ⟨vs, hK, ?_⟩
  rw [results_eq, Array.mapM_eq_mapM_toList]
  simp only [Sem.run_bind, Sem.run_map, hr, Result.andThen_ok, Sem.run_pure, pack]
  split
  · rename_i h1
    match hp : packs rs vs, h1 with
    | [v], _ => simp
  · rename_i h1
    match hp : packs rs vs, h1 with
    | [], _ => rfl
    | [v], h1 => simp at h1
    | _ :: _ :: _, _ => rfl

theorem fnK_sound {P : Program} {f : Nat} {fn : Func} {x : Hn} {args : List Value} {rs : List SK} {R : Fam (ksOf rs)} {h : Hp} (hfn : P.funcs[f]? = some fn) (hk : fnK P fn x args rs R h) : CallK P f args.toArray rs h R := by
  intro w hw
  subst hw
  unfold fnK at hk
  split at hk
  case h_2 => exact hk.elim
  rename_i c hb
  rw [chk_iff] at hk
  obtain ⟨hle, hk⟩ := hk
  have hle' : args.length ≤ fn.ntmps := Nat.le_of_ble_eq_true hle
  refine calls_of_wp hfn hb ?_
  refine cwp_sound c hk (ρ := argEnv args) ⟨rfl, by simp; omega, fun i v hv => ?_⟩ fun e ρ' a' w' hf io ke hq => ?_
  · simp only [argEnv] at hv
    have hlt : i < args.length := (List.getElem?_eq_some_iff.1 hv).1
    rw [Array.getElem?_append_left (by simpa using hlt)]
    simpa using hv
  · cases e <;> simp only [retQ] at hq
    case normal =>
      obtain ⟨vs, hK, hr⟩ := results_run hf hq
      exact ⟨hf.defers, _, hr, io, vs, rfl, apF_sat hK⟩
    case ret =>
      obtain ⟨vs, hK, hr⟩ := results_run hf hq
      exact ⟨hf.defers, _, hr, io, vs, rfl, apF_sat hK⟩

end Go.Vc
