/- Contracts of the buddy heap's functions, II: Give, TakeRun, Free, Order. -/
import Derived.Test.YtimoepajidnmjaaBuC
namespace Go.Bu
open Go Go.Vc Go.Proofs
set_option linter.unusedSimpArgs false
set_option linter.unusedVariables false

variable {σ : Hp} {p n sb : Nat} {S : Nat → Bool} {ms : List Nat}

/-- No page of the run (all of them) is free. -/
def noneF (S : Nat → Bool) (a m : Nat) : Bool := (List.range m).all fun i => !S (a + i)
def allF (S : Nat → Bool) (a m : Nat) : Bool := (List.range m).all fun i => S (a + i)
theorem noneF_iff {S : Nat → Bool} {a m : Nat} : noneF S a m = true ↔ ∀ x, a ≤ x → x < a + m → S x = false := by
  simp only [noneF, List.all_eq_true, List.mem_range, Bool.not_eq_true']
  exact ⟨fun h x h1 h2 => by have := h (x - a) (by omega); rwa [show a + (x - a) = x by omega] at this, fun h i hi => h _ (by omega) (by omega)⟩
theorem allF_iff {S : Nat → Bool} {a m : Nat} : allF S a m = true ↔ ∀ x, a ≤ x → x < a + m → S x = true := by
  simp only [allF, List.all_eq_true, List.mem_range]
  exact ⟨fun h x h1 h2 => by have := h (x - a) (by omega); rwa [show a + (x - a) = x by omega] at this, fun h i hi => h _ (by omega) (by omega)⟩
theorem noneF_no {S : Nat → Bool} {a m x : Nat} (h1 : a ≤ x) (h2 : x < a + m) (h : S x = true) : noneF S a m = false := by
  cases e : noneF S a m
  · rfl
  · rw [noneF_iff.1 e x h1 h2] at h; cases h
theorem allF_no {S : Nat → Bool} {a m x : Nat} (h1 : a ≤ x) (h2 : x < a + m) (h : S x = false) : allF S a m = false := by
  cases e : allF S a m
  · rfl
  · rw [allF_iff.1 e x h1 h2] at h; cases h

/-- What Give returns, and the free pages behind it. -/
def giveE (n : Nat) (S : Nat → Bool) (a m : Int) : Int := if runOk n a m then (if noneF S a.toNat m.toNat then 0 else 9) else 1
def giveS (n : Nat) (S : Nat → Bool) (a m : Int) : Nat → Bool := if runOk n a m && noneF S a.toNat m.toNat then give S a.toNat (a.toNat + m.toNat) else S
def runE (n : Nat) (S : Nat → Bool) (a m : Int) : Int := if runOk n a m then (if allF S a.toNat m.toNat then 0 else 4) else 1
def runS (n : Nat) (S : Nat → Bool) (a m : Int) : Nat → Bool := if runOk n a m && allF S a.toNat m.toNat then take S a.toNat (a.toNat + m.toNat) else S

theorem runOk_nat {n : Nat} {a m : Int} (h : runOk n a m = true) : ∃ x y : Nat, a = (x : Int) ∧ m = (y : Int) ∧ 1 ≤ y ∧ x + y ≤ n := by
  simp only [runOk, Bool.and_eq_true, decide_eq_true_eq] at h
  exact ⟨a.toNat, m.toNat, by omega, by omega, by omega, by omega⟩

theorem Give_ok (h : BH σ p n S sb ms) (a m : Int) {R : Int → Hp → Prop}
    (hR : ∀ σ', Ext (· ∈ ms) σ σ' → BH σ' p n (giveS n S a m) sb ms → R (giveE n S a m) σ') : buddy_Heap_Give.call (some ⟨p, 0, none⟩) a m σ R := by
  refine buddy_Heap_Give.of_vc ?_
  unfold buddy_Heap_Give.vc
  have hn2 := h.n2
  refine check_ok h a m (fun hok => ifF rfl ?_) (fun hok => ifT rfl ?_)
  · obtain ⟨x, y, rfl, rfl, hy, hxy⟩ := runOk_nat hok
    refine loop1 (a := .i .i64) (fun t h' => ∃ z : Nat, t = (z : Int) ∧ x ≤ z ∧ h' = σ ∧ ∀ u, x ≤ u → u < z → S u = false) (fun t _ => x + y - t.toNat) ⟨x, rfl, by omega, rfl, fun u _ _ => by omega⟩ ?_
    rintro t h' ⟨z, rfl, hz, rfl, hall⟩
    refine arN (m := x + y) (by omega) (by omega) ?_
    refine ifD (fun hlt => isFree_ok h _ ?_) (fun hge => ?_)
    · have e : isF S (z : Int) = S z := by simp [isF]
      rw [e]
      cases hs : S z
      · refine ifF rfl (arN (m := z + 1) (by omega) (by omega) ⟨⟨z + 1, rfl, by omega, rfl, fun u h1 h2 => ?_⟩, by omega⟩)
        by_cases e : u = z
        · rw [e]; exact hs
        · exact hall u h1 (by omega)
      · refine ifT rfl ?_
        have hno := noneF_no (m := y) hz (by omega) hs
        have := hR h' (Ext.refl _ _)
        simp only [giveE, giveS, hok, Int.toNat_natCast, hno, Bool.and_false, if_true, Bool.false_eq_true, if_false] at this
        exact this h
    · have hall' : ∀ u, x ≤ u → u < x + y → S u = false := fun u h1 h2 => hall u h1 (by omega)
      have hno := noneF_iff.2 hall'
      refine free_ok h hxy hall' fun h1 e1 hB => ?_
      have := hR h1 e1
      simp only [giveE, giveS, hok, Int.toNat_natCast, hno, Bool.and_true, if_true] at this
      exact this hB
  · have := hR σ (Ext.refl _ _)
    simp only [giveE, giveS, hok, Bool.false_and, Bool.false_eq_true, if_false] at this
    exact this h

theorem TakeRun_ok (h : BH σ p n S sb ms) (a m : Int) {R : Int → Hp → Prop}
    (hR : ∀ σ', Ext (· ∈ ms) σ σ' → BH σ' p n (runS n S a m) sb ms → R (runE n S a m) σ') : buddy_Heap_TakeRun.call (some ⟨p, 0, none⟩) a m σ R := by
  refine buddy_Heap_TakeRun.of_vc ?_
  unfold buddy_Heap_TakeRun.vc
  have hn2 := h.n2
  refine check_ok h a m (fun hok => ifF rfl ?_) (fun hok => ifT rfl ?_)
  · obtain ⟨x, y, rfl, rfl, hy, hxy⟩ := runOk_nat hok
    refine loop1 (a := .i .i64) (fun t h' => ∃ z : Nat, t = (z : Int) ∧ x ≤ z ∧ h' = σ ∧ ∀ u, x ≤ u → u < z → S u = true) (fun t _ => x + y - t.toNat) ⟨x, rfl, by omega, rfl, fun u _ _ => by omega⟩ ?_
    rintro t h' ⟨z, rfl, hz, rfl, hall⟩
    refine arN (m := x + y) (by omega) (by omega) ?_
    refine ifD (fun hlt => isFree_ok h _ ?_) (fun hge => ?_)
    · have e : isF S (z : Int) = S z := by simp [isF]
      rw [e]
      cases hs : S z
      · refine ifT rfl ?_
        have hno := allF_no (m := y) hz (by omega) hs
        have := hR h' (Ext.refl _ _)
        simp only [runE, runS, hok, Int.toNat_natCast, hno, Bool.and_false, if_true, Bool.false_eq_true, if_false] at this
        exact this h
      · refine ifF rfl (arN (m := z + 1) (by omega) (by omega) ⟨⟨z + 1, rfl, by omega, rfl, fun u h1 h2 => ?_⟩, by omega⟩)
        by_cases e : u = z
        · rw [e]; exact hs
        · exact hall u h1 (by omega)
    · have hall' : ∀ u, x ≤ u → u < x + y → S u = true := fun u h1 h2 => hall u h1 (by omega)
      have hno := allF_iff.2 hall'
      refine cut_ok h hxy hall' fun h1 e1 hB => ?_
      have := hR h1 e1
      simp only [runE, runS, hok, Int.toNat_natCast, hno, Bool.and_true, if_true] at this
      exact this hB
  · have := hR σ (Ext.refl _ _)
    simp only [runE, runS, hok, Bool.false_and, Bool.false_eq_true, if_false] at this
    exact this h

theorem sums_le {n : Nat} {S : Nat → Bool} (hb : Bounded S n) (K : Nat) : sums n S K ≤ n := by
  rw [sums_below hb]
  exact Nat.le_trans List.countP_le_length (by simp)

theorem Free_ok (h : BH σ p n S sb ms) {R : Int → Hp → Prop} (hR : R ((cnt n S : Nat) : Int) σ) : buddy_Heap_Free.call (some ⟨p, 0, none⟩) σ R := by
  refine buddy_Heap_Free.of_vc ?_
  unfold buddy_Heap_Free.vc
  have hn2 := h.n2
  have hl := h.len
  refine made_ok h (ifF rfl (nilP (h.rB fun cap => ?_)))
  refine loop2 (a := .i .i64) (bb := .i .i64) (fun c t h' => ∃ k : Nat, c = ((sums n S k : Nat) : Int) ∧ t = (k : Int) ∧ k ≤ ms.length ∧ h' = σ) (fun _ t _ => ms.length - t.toNat) ⟨0, rfl, rfl, by omega, rfl⟩ ?_
  rintro c t h' ⟨k, rfl, rfl, hk, rfl⟩
  have hs1 := sums_le h.bnd (k + 1)
  have hs : sums n S (k + 1) = sums n S k + many n S k * 2 ^ k := rfl
  refine ifD (fun hlt => ?_) (fun hge => ?_)
  · simp only at hlt
    obtain ⟨m, hm⟩ := h.get (k := k) (by omega)
    refine h.rM hm (h.mlen hm (nn (by omega) (shlA (by omega) (by omega) ?_)))
    refine arN (m := sums n S (k + 1)) (by omega) (by omega) (arN (m := k + 1) (by omega) (by omega) ⟨⟨k + 1, rfl, rfl, by omega, rfl⟩, by omega⟩)
  · simp only at hge
    have : k = ms.length := by omega
    subst this
    rw [sums_all h.bnd h.hi]
    exact hR

/-- The greatest order below `K` of a free block. -/
def top (n : Nat) (S : Nat → Bool) : Nat → Int
  | 0 => -1
  | k + 1 => if 0 < many n S k then (k : Int) else top n S k

theorem Order_ok (h : BH σ p n S sb ms) {R : Int → Hp → Prop} (hR : R (top n S ms.length) σ) : buddy_Heap_Order.call (some ⟨p, 0, none⟩) σ R := by
  refine buddy_Heap_Order.of_vc ?_
  unfold buddy_Heap_Order.vc
  have hl := h.len
  refine made_ok h (ifF rfl (nilP (h.rB fun cap => ar (by simp only; omega) (by simp only; omega) ?_)))
  refine loop1 (a := .i .i64) (fun t h' => ∃ k : Nat, t = (k : Int) - 1 ∧ k ≤ ms.length ∧ h' = σ ∧ top n S ms.length = top n S k) (fun t _ => (t + 1).toNat) ⟨ms.length, rfl, by omega, rfl, rfl⟩ ?_
  rintro t h' ⟨k, rfl, hk, rfl, htop⟩
  refine ifD (fun hge => ?_) (fun hlt => ?_)
  · obtain ⟨j, rfl⟩ : ∃ j, k = j + 1 := ⟨k - 1, by omega⟩
    obtain ⟨m, hm⟩ := h.get (k := j) (by omega)
    have e : ((j + 1 : Nat) : Int) - 1 = (j : Int) := by omega
    rw [e]
    refine nilP (h.rB fun cap => h.rM hm (h.mlen hm ?_))
    refine ifD (fun hpos => ?_) (fun hz => ?_)
    · rw [htop, top, if_pos (by omega)] at hR
      exact hR
    · refine ar (by omega) (by omega) ⟨⟨j, rfl, by omega, rfl, ?_⟩, by omega⟩
      rw [htop, top, if_neg (by omega)]
  · have : k = 0 := by omega
    subst this
    rw [htop] at hR
    exact hR

end Go.Bu
