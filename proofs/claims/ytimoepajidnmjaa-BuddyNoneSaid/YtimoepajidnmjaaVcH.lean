/- Code: branches, blocks, loops; functions; the calculus is sound. -/
import Derived.Test.YtimoepajidnmjaaVcG
namespace Go.Vc
open Go
set_option linter.unusedSimpArgs false
set_option linter.unusedVariables false

def dsts : Code → List Nat
  | .region _ ops _ => rdsts ops
  | .seq a b => dsts a ++ dsts b
  | .cond _ a b => dsts a ++ dsts b
  | .block _ b => dsts b
  | .loop b => dsts b
  | _ => []

def famAnd : (ks : List CK) → Fam ks → FamN ks → (Nat → Prop) → Fam ks
  | [], I, μ, p => fun h => I h ∧ p (μ h)
  | c :: cs, I, μ, p => fun x => famAnd cs (I x) (μ x) p

/-- A loop: an invariant and a measure. -/
def LoopK (ks : List CK) (start : Fam ks → Prop) (round : Fam ks → Fam ks) : Prop :=
  ∃ (I : Fam ks) (μ : FamN ks), start I ∧ ∀ m : Nat, Fam.le ks (famAnd ks I μ (· = m)) (round (famAnd ks I μ (· < m)))

inductive Hn where
  | leaf
  | reg (r : RH)
  | seq (a b : Hn)
  | sjn (js : Js) (a b : Hn)
  | cond (a b : Hn)
  | block (b : Hn)
  | loop (js : Js) (b : Hn)

def thenK (next : Env → Hp → Prop) (Q : Exit → Env → Hp → Prop) : Exit → Env → Hp → Prop
  | .normal, ρ, h => next ρ h
  | e, ρ, h => Q e ρ h
def inBlk (id : Nat) (Q : Exit → Env → Hp → Prop) : Exit → Env → Hp → Prop
  | .exit i, ρ, h => match Nat.beq i id with
    | true => Q .normal ρ h
    | false => Q (.exit i) ρ h
  | e, ρ, h => Q e ρ h

def cwp (P : Program) (N : Nat) : Code → Hn → (Exit → Env → Hp → Prop) → Env → Hp → Prop
  | .skip, _, Q, ρ, h => Q .normal ρ h
  | .ret, _, Q, ρ, h => Q .ret ρ h
  | .exit id, _, Q, ρ, h => Q (.exit id) ρ h
  | .region _ ops d, .reg r, Q, ρ, h => regK P N r ops d ρ h fun ρ' h' => Q .normal ρ' h'
  | .seq a b, .seq x y, Q, ρ, h => cwp P N a x (thenK (fun ρ' h' => cwp P N b y Q ρ' h') Q) ρ h
  | .seq a b, .sjn js x y, Q, ρ, h => chk (js.all fun s => isIn (dsts a) s.1)
      (Jn (ksJ js) (lam (ksJ js) fun vs h' => cwp P N b y Q (putJ (ρ.hide (dsts a)) js vs) h') fun J => cwp P N a x (thenK (fun ρ' h' => apJ js ρ' J h') Q) ρ h)
  | .cond c a b, .cond x y, Q, ρ, h => boolAt ρ c fun t => If t (cwp P N a x Q ρ h) (cwp P N b y Q ρ h)
  | .block id b, .block x, Q, ρ, h => cwp P N b x (inBlk id Q) ρ h
  | .loop b, .loop js x, Q, ρ, h => chk (js.all fun s => isIn (dsts b) s.1)
      (LoopK (ksJ js) (fun I => apJ js ρ I h) fun J => lam (ksJ js) fun vs h' => cwp P N b x (thenK (fun ρ' h'' => apJ js ρ' J h'') Q) (putJ (ρ.hide (dsts b)) js vs) h')
  | _, _, _, _, _ => False

/-! ## Soundness -/
theorem sat_famAnd : ∀ {ks : List CK} {I : Fam ks} {μ : FamN ks} {p : Nat → Prop} {vs : List Value} {h : Hp}, Sat ks (famAnd ks I μ p) vs h → ∃ n, p n ∧ Sat ks (famAnd ks I μ (· = n)) vs h
  | [], I, μ, p, [], h, hs => ⟨μ h, hs.2, hs.1, rfl⟩
  | c :: cs, I, μ, p, v :: vs, h, ⟨x, e, hs⟩ => by
    obtain ⟨n, hp, hn⟩ := sat_famAnd (I := I x) (μ := μ x) hs
    exact ⟨n, hp, x, e, hn⟩
  | [], I, μ, p, _ :: _, h, hs => hs.elim
  | _ :: _, I, μ, p, [], h, hs => hs.elim
theorem sat_measure : ∀ {ks : List CK} {I : Fam ks} (μ : FamN ks) {vs : List Value} {h : Hp}, Sat ks I vs h → ∃ n, Sat ks (famAnd ks I μ (· = n)) vs h
  | [], I, μ, [], h, hs => ⟨μ h, hs, rfl⟩
  | c :: cs, I, μ, v :: vs, h, ⟨x, e, hs⟩ => by
    obtain ⟨n, hn⟩ := sat_measure (I := I x) (μ x) hs
    exact ⟨n, x, e, hn⟩
  | [], I, μ, _ :: _, h, hs => hs.elim
  | _ :: _, I, μ, [], h, hs => hs.elim

theorem least_of {p : Nat → Prop} (h : ∃ n, p n) : ∃ n, p n ∧ ∀ m, p m → n ≤ m := by
  obtain ⟨n, hn⟩ := h
  induction n using Nat.strongRecOn with
  | _ n ih =>
    by_cases hm : ∃ m, m < n ∧ p m
    · obtain ⟨m, hlt, hp⟩ := hm
      exact ih m hlt hp
    · exact ⟨n, hn, fun m hp => Nat.le_of_not_lt fun hlt => hm ⟨m, hlt, hp⟩⟩
open Classical in
noncomputable def leastN (p : Nat → Prop) : Nat := if h : ∃ n, p n then (least_of h).choose else 0
theorem leastN_spec {p : Nat → Prop} (h : ∃ n, p n) : p (leastN p) := by
  unfold leastN; rw [dif_pos h]; exact (least_of h).choose_spec.1
theorem leastN_le {p : Nat → Prop} {n : Nat} (h : p n) : leastN p ≤ n := by
  unfold leastN; rw [dif_pos ⟨n, h⟩]; exact (least_of ⟨n, h⟩).choose_spec.2 n h

theorem wp_loop_n {P : Program} {c : Code} {Q : Exit → Act → World → Prop} {a : Act} {w : World} (I : Nat → Act → World → Prop) (h0 : ∃ n, I n a w)
    (round : ∀ n a w, I n a w → c.wp P (Exit.then (fun a' w' => ∃ m, m < n ∧ I m a' w') Q) a w) : (Code.loop c).wp P Q a w := by
  refine wp_loop (fun a w => ∃ n, I n a w) (fun a w => leastN fun n => I n a w) h0 fun a w hI => ?_
  refine wp_mono (round _ a w (leastN_spec hI)) fun e a' w' hq => ?_
  cases e <;> try exact hq
  obtain ⟨m, hm, hI'⟩ := hq
  exact ⟨⟨m, hI'⟩, Nat.lt_of_le_of_lt (leastN_le hI') hm⟩

theorem cwp_sound {P : Program} {N : Nat} : ∀ (c : Code) {x : Hn} {Q : Exit → Env → Hp → Prop} {Q' : Exit → Act → World → Prop} {ρ : Env} {a : Act} {w : World},
    cwp P N c x Q ρ w.heap → Fits N ρ a → (∀ e ρ' a' w', Fits N ρ' a' → IOsame w w' → KeepsL (dsts c) ρ ρ' → Q e ρ' w'.heap → Q' e a' w') → c.wp P Q' a w
  | .skip, x, Q, Q', ρ, a, w, h, hf, hq => by
    have h' : Q .normal ρ w.heap := by cases x <;> exact h
    exact wp_skip (hq _ ρ a w hf (.refl _) (.refl _ _) h')
  | .ret, x, Q, Q', ρ, a, w, h, hf, hq => by
    have h' : Q .ret ρ w.heap := by cases x <;> exact h
    exact wp_ret (hq _ ρ a w hf (.refl _) (.refl _ _) h')
  | .exit id, x, Q, Q', ρ, a, w, h, hf, hq => by
    have h' : Q (.exit id) ρ w.heap := by cases x <;> exact h
    exact wp_exit (hq _ ρ a w hf (.refl _) (.refl _ _) h')
  | .region id ops d, x, Q, Q', ρ, a, w, h, hf, hq => by
    cases x <;> simp only [cwp] at h
    exact regK_sound h hf fun ρ' a' w' hf' io ke hk => hq _ ρ' a' w' hf' io ke hk
  | .seq c1 c2, x, Q, Q', ρ, a, w, h, hf, hq => by
    cases x <;> simp only [cwp] at h
    case seq x y =>
      refine wp_seq (cwp_sound c1 h hf fun e ρ' a' w' hf' io ke hk => ?_)
      cases e
      case normal => exact cwp_sound c2 hk hf' fun e ρ'' a'' w'' hf'' io' ke' hk' => hq e ρ'' a'' w'' hf'' (io.trans io') (ke.trans ke') hk'
      all_goals exact hq _ ρ' a' w' hf' io (ke.mono fun i hi => List.mem_append_left _ hi) hk
    case sjn js x y =>
      rw [chk_iff] at h
      obtain ⟨hjs, J, hJ, h⟩ := h
      refine wp_seq (cwp_sound c1 h hf fun e ρ' a' w' hf' io ke hk => ?_)
      cases e
      case normal =>
        obtain ⟨vs, hv, hs⟩ := apJ_inv hk
        have hs' := sat_lam (hs.mono hJ)
        have hfe := putJ_fits js (keeps_fits hf' ke) hf' hv
        refine cwp_sound c2 hs' hfe fun e ρ'' a'' w'' hf'' io' ke' hk' => hq e ρ'' a'' w'' hf'' (io.trans io') ?_ hk'
        have k1 := (keeps_hide (dsts c1) ρ).trans (putJ_keeps (dsts c1) js (ρ.hide (dsts c1)) vs hjs)
        exact (k1.trans ke').mono fun i hi => by
          simp only [dsts, List.mem_append] at hi ⊢
          rcases hi with (h | h) | h
          · exact Or.inl h
          · exact Or.inl h
          · exact Or.inr h
      all_goals exact hq _ ρ' a' w' hf' io (ke.mono fun i hi => List.mem_append_left _ hi) hk
  | .cond c c1 c2, x, Q, Q', ρ, a, w, h, hf, hq => by
    cases x <;> simp only [cwp] at h
    obtain ⟨t, ht, h⟩ := boolAt_inv h
    refine wp_cond_split (hf.ev _ _ ht) (fun e => ?_) (fun e => ?_)
    · exact cwp_sound c1 (h.t e) hf fun e ρ' a' w' hf' io ke hk => hq e ρ' a' w' hf' io (ke.mono fun i hi => List.mem_append_left _ hi) hk
    · exact cwp_sound c2 (h.f e) hf fun e ρ' a' w' hf' io ke hk => hq e ρ' a' w' hf' io (ke.mono fun i hi => List.mem_append_right _ hi) hk
  | .block id c1, x, Q, Q', ρ, a, w, h, hf, hq => by
    cases x <;> simp only [cwp] at h
    refine wp_block (cwp_sound c1 h hf fun e ρ' a' w' hf' io ke hk => ?_)
    cases e
    case exit i =>
      simp only [inBlk] at hk
      simp only [Exit.inBlock]
      split at hk
      · rename_i e
        have e' : i = id := Nat.eq_of_beq_eq_true e
        rw [if_pos e']; exact hq _ ρ' a' w' hf' io ke hk
      · rename_i e
        have e' : i ≠ id := fun h => by subst h; simp at e
        rw [if_neg e']; exact hq _ ρ' a' w' hf' io ke hk
    all_goals exact hq _ ρ' a' w' hf' io ke hk
  | .loop c1, x, Q, Q', ρ, a, w, h, hf, hq => by
    cases x <;> simp only [cwp] at h
    rename_i js x
    rw [chk_iff] at h
    obtain ⟨hjs, I, μ, hs, hr⟩ := h
    refine wp_loop_n (fun n a' w' => ∃ vs, Fits N (putJ (ρ.hide (dsts c1)) js vs) a' ∧ IOsame w w' ∧ Sat (ksJ js) (famAnd (ksJ js) I μ (· = n)) vs w'.heap) ?_ ?_
    · obtain ⟨vs, hv, hs⟩ := apJ_inv hs
      obtain ⟨n, hn⟩ := sat_measure μ hs
      exact ⟨n, vs, putJ_fits js (hf.weaken (hide_le _ _)) hf hv, .refl _, hn⟩
    · rintro n a' w' ⟨vs, hf', io, hn⟩
      have := sat_lam (hn.mono (hr n))
      have kJ := (keeps_hide (dsts c1) ρ).trans (putJ_keeps (dsts c1) js (ρ.hide (dsts c1)) vs hjs)
      refine cwp_sound c1 this hf' fun e ρ'' a'' w'' hf'' io' ke hk => ?_
      have kall : KeepsL (dsts c1) ρ ρ'' := (kJ.trans ke).mono fun i hi => by
          simp only [List.mem_append] at hi
          rcases hi with (h | h) | h <;> exact h
      cases e
      case normal =>
        obtain ⟨vs', hv', hs'⟩ := apJ_inv hk
        obtain ⟨m, hm, hs''⟩ := sat_famAnd hs'
        exact ⟨m, hm, vs', putJ_fits js (keeps_fits hf'' kall) hf'' hv', io.trans io', hs''⟩
      all_goals exact hq _ ρ'' a'' w'' hf'' (io.trans io') kall hk
  | .rangeFunc .., x, Q, Q', ρ, a, w, h, hf, hq => (by cases x <;> simp only [cwp] at h)
  | .scope .., x, Q, Q', ρ, a, w, h, hf, hq => (by cases x <;> simp only [cwp] at h)
  | .label .., x, Q, Q', ρ, a, w, h, hf, hq => (by cases x <;> simp only [cwp] at h)
  | .goto .., x, Q, Q', ρ, a, w, h, hf, hq => (by cases x <;> simp only [cwp] at h)
  | .refuse .., x, Q, Q', ρ, a, w, h, hf, hq => (by cases x <;> simp only [cwp] at h)

end Go.Vc
