/- Regions that draw their order: what is loaded holds in every world that meets a condition, until an operation has come that waits for all loads. -/
import Derived.Test.YtimoepajidnmjaaVcF
import Derived.OrdersHeld
namespace Go.Vc
open Go
set_option linter.unusedSimpArgs false
set_option linter.unusedVariables false

variable {P : Program} {ops : Array Oper} {Q : Exit → Act → World → Prop}

/-- Does operation `k` wait for operation `i`? -/
def waits (ops : Array Oper) (k i : Nat) : Bool := match ops[k]? with
  | none => false
  | some o => o.after.toList.any fun e => Region.binds .any e && Nat.beq e.on i

/-- The condition holds, or one of the closing operations has come. -/
def TS (S : World → Prop) (C : List Nat) (listed : Array Bool) (w : World) : Prop := S w ∨ ∃ k ∈ C, listed.getD k false = true

/-- Whatever order is drawn; the condition holds behind each operation, or one that closes has come. -/
def anyS (P : Program) (ops : Array Oper) (Q : Exit → Act → World → Prop) (S : World → Prop) (C : List Nat) : Nat → Array Bool → Act → World → Prop
  | 0, listed, a, w => Region.ready .any ops listed = [] ∧ Q .normal a w
  | m + 1, listed, a, w => (Region.ready .any ops listed = [] → Q .normal a w) ∧
      ∀ i, i ∈ Region.ready .any ops listed → wpOp P ops Q i (fun a' w' => TS S C (listed.setIfInBounds i true) w' ∧ anyS P ops Q S C m (listed.setIfInBounds i true) a' w') a w

theorem any_of_anyS {S : World → Prop} {C : List Nat} : ∀ (m : Nat) (listed : Array Bool) (a : Act) (w : World), anyS P ops Q S C m listed a w → wpAny P .any ops Q m listed a w
  | 0, _, _, _, h => h
  | m + 1, _, _, _, h => ⟨h.1, fun i hi => wpOp_mono (fun _ _ h' => any_of_anyS m _ _ _ h'.2) (h.2 i hi)⟩

theorem TS.out {S : World → Prop} {C : List Nat} {listed : Array Bool} {w : World} (h : TS S C listed w) (hn : ∀ k ∈ C, listed.getD k false = false) : S w := by
  rcases h with h | ⟨k, hk, hl⟩
  · exact h
  · rw [hn k hk] at hl; cases hl

theorem waits_no {k i : Nat} {o : Oper} (ho : ops[k]? = some o) (hno : ∀ e ∈ o.after, Region.binds .any e = true → e.on ≠ i) : waits ops k i = false := by
  unfold waits
  rw [ho]
  simp only
  rw [List.any_eq_false]
  intro e he hb
  simp only [Bool.and_eq_true] at hb
  exact hno e (by simpa using he) hb.1 (Nat.eq_of_beq_eq_true hb.2)

theorem TS.drop {S : World → Prop} {C : List Nat} {listed : Array Bool} {w : World} {i j : Nat} (hij : i ≠ j) (hi : ∀ k ∈ C, k ≠ i) (h : TS S C ((listed.setIfInBounds i true).setIfInBounds j true) w) : TS S C (listed.setIfInBounds j true) w := by
  refine h.imp id ?_
  rintro ⟨k, hk, hl⟩
  refine ⟨k, hk, ?_⟩
  rw [Array.setIfInBounds_comm _ _ hij, getD_set_ne false (Ne.symm (hi k hk))] at hl
  exact hl

/-- An operation that yields its value in every world that meets `T` may be taken first. `T` is: anything; or the condition, where all closing operations wait for this one. -/
theorem anyS_first {S T : World → Prop} {C : List Nat} {i : Nat} {oi : Oper} {v : Value} (hi : ops[i]? = some oi) (hsel : ∀ (j : Nat) (o : Oper) cs b, ops[j]? = some o → o.op ≠ .select cs b)
    (hQ : ∀ c a w, Q (.panic c) (a.put oi.dst v) w → Q (.panic c) a w) (hiC : ∀ k ∈ C, k ≠ i) (hT : (∀ w, T w) ∨ ((∀ w, S w → T w) ∧ ∀ k ∈ C, waits ops k i = true)) :
    ∀ (m : Nat) (listed : Array Bool) (a : Act) (w : World),
      (∀ j oj, ops[j]? = some oj → j ≠ i → listed.getD j true = false → (∀ e ∈ oj.after, Region.binds .any e = true → e.on ≠ i) → oi.apart ops oj = true) →
      i ∈ Region.ready .any ops listed → ((∀ w, T w) ∨ ∀ k ∈ C, listed.getD k false = false) → YieldsIf P ops T oi v a → TS S C listed w →
      anyS P ops Q S C m (listed.setIfInBounds i true) (a.put oi.dst v) w → anyS P ops Q S C (m + 1) listed a w := by
  have here : ∀ {listed : Array Bool} {a : Act} {w : World} {K : Act → World → Prop}, ((∀ w, T w) ∨ ∀ k ∈ C, listed.getD k false = false) → YieldsIf P ops T oi v a → TS S C listed w → K (a.put oi.dst v) w →
      wpOp P ops Q i (fun a' w' => TS S C (listed.setIfInBounds i true) w' ∧ K a' w') a w := by
    intro listed a w K hn hy hS hK
    refine hy.wpOp hi ?_ ⟨?_, hK⟩
    · rcases hT with hT | ⟨hT, _⟩
      · exact hT w
      · rcases hn with hn | hn
        · exact hn w
        · exact hT w (hS.out hn)
    · refine hS.imp id ?_
      rintro ⟨k, hk, hl⟩
      exact ⟨k, hk, by rw [getD_set_ne false (Ne.symm (hiC k hk))]; exact hl⟩
  intro m
  induction m with
  | zero =>
    intro listed a w _ hr hn hy hS H
    refine ⟨fun h => by rw [h] at hr; simp at hr, fun j hj => ?_⟩
    by_cases hji : j = i
    · rw [hji]; exact here hn hy hS H
    · have h1 := ready_mono hj hji
      rw [H.1] at h1
      simp at h1
  | succ m ih =>
    intro listed a w hfree hr hn hy hS H
    refine ⟨fun h => by rw [h] at hr; simp at hr, fun j hj => ?_⟩
    by_cases hji : j = i
    · rw [hji]; exact here hn hy hS H
    · obtain ⟨hun, oj, hoj, hdep⟩ := mem_ready.1 hj
      have hiun := (mem_ready.1 hr).1
      have hno : ∀ e ∈ oj.after, Region.binds .any e = true → e.on ≠ i := by
        intro e he hb heq
        have h1 := hdep e he hb
        rw [heq] at h1
        rw [Array.getD_eq_getD_getElem?] at h1 hiun
        cases hg : listed[i]? with
        | none => rw [hg] at h1; cases h1
        | some b => rw [hg] at h1 hiun; simp only [Option.getD_some] at h1 hiun; rw [hiun] at h1; cases h1
      have h2 := wpOp_putIf hoj (hfree j oj hoj hji hun hno) (fun cs b => hsel i oi cs b hi) (fun cs b => hsel j oj cs b hoj) hQ hy (H.2 j (ready_mono hj hji))
      refine wpOp_mono (fun a' w' h3 => ?_) h2
      have hTS := h3.2.1.drop (Ne.symm hji) hiC
      refine ⟨hTS, ih _ a' w' (fun k ok hk hki hku hkn => ?_) (ready_mono hr (Ne.symm hji)) ?_ h3.1 hTS ?_⟩
      · refine hfree k ok hk hki ?_ hkn
        by_cases hjk : j = k
        · rw [← hjk]; exact hun
        · rwa [getD_set_ne true hjk] at hku
      · rcases hT with hT | ⟨_, hw⟩
        · exact .inl hT
        refine hn.imp id fun hn k hk => ?_
        by_cases hjk : j = k
        · exfalso
          have := hw k hk
          rw [← hjk, waits_no hoj hno] at this
          cases this
        · rw [getD_set_ne false hjk]; exact hn k hk
      · rw [Array.setIfInBounds_comm _ _ hji]
        exact h3.2.2

theorem anyS_take {S T : World → Prop} {C : List Nat} {i m : Nat} {oi : Oper} {v : Value} {listed : Array Bool} {a : Act} {w : World} (hi : ops[i]? = some oi) (hs : Region.noSelect ops = true) (hf : Region.free .any ops listed i = true)
    (hr : i ∈ Region.ready .any ops listed) (hQ : ∀ c a w, Q (.panic c) (a.put oi.dst v) w → Q (.panic c) a w) (hiC : C.contains i = false)
    (hT : (∀ w, T w) ∨ ((∀ w, S w → T w) ∧ ∀ k ∈ C, waits ops k i = true)) (hn : (∀ w, T w) ∨ ∀ k ∈ C, listed.getD k false = false) (hy : YieldsIf P ops T oi v a) (hS : TS S C listed w)
    (h : anyS P ops Q S C m (listed.setIfInBounds i true) (a.put oi.dst v) w) : anyS P ops Q S C (m + 1) listed a w :=
  anyS_first hi (Region.noSelect_spec hs) hQ (fun k hk e => by subst e; rw [List.contains_iff_mem.2 hk] at hiC; cases hiC) hT m listed a w (Region.free_spec hi hf) hr hn hy hS h

theorem anyS_all {S : World → Prop} {C : List Nat} {rs : List Nat} {m : Nat} {listed : Array Bool} {a : Act} {w : World} (hr : Region.ready .any ops listed = rs) (hne : rs ≠ [])
    (h : ∀ i ∈ rs, wpOp P ops Q i (fun a' w' => TS S C (listed.setIfInBounds i true) w' ∧ anyS P ops Q S C m (listed.setIfInBounds i true) a' w') a w) : anyS P ops Q S C (m + 1) listed a w :=
  ⟨fun h0 => absurd (hr ▸ h0) hne, hr ▸ h⟩
theorem anyS_done {S : World → Prop} {C : List Nat} {listed : Array Bool} {a : Act} {w : World} (hr : Region.ready .any ops listed = []) (h : Q .normal a w) : ∀ m, anyS P ops Q S C m listed a w
  | 0 => ⟨hr, h⟩
  | _ + 1 => ⟨fun _ => h, by rw [hr]; simp⟩
theorem wp_region_anyS {S : World → Prop} {C : List Nat} {id : Nat} {a : Act} {w : World} (hm : P.follows .mixedOrders = true)
    (h : anyS P ops Q S C ops.size (Array.replicate ops.size false) a { w with drawn := w.drawn + 1 }) : (Code.region id ops true).wp P Q a w :=
  wp_region_any hm (any_of_anyS _ _ _ _ h)

end Go.Vc
