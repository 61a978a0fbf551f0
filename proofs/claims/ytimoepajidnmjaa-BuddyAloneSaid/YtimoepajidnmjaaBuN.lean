/- The law BuddyAlone returns true. -/
import Derived.Test.YtimoepajidnmjaaBuK
namespace Go.Bu
open Go Go.Vc Go.Proofs
set_option linter.unusedSimpArgs false
set_option linter.unusedVariables false

variable {σ : Hp} {p n sb : Nat} {S : Nat → Bool} {ms : List Nat}

theorem mod_two {x n : Nat} (h : x < 2 * n) : x % n = if x < n then x else x - n := by
  split
  · exact Nat.mod_eq_of_lt (by assumption)
  · rw [Nat.mod_eq_sub_mod (by omega), Nat.mod_eq_of_lt (by omega)]
theorem mod_three {x n : Nat} (h : x < 3 * n) : x % n = if x < n then x else if x < 2 * n then x - n else x - 2 * n := by
  split
  · exact Nat.mod_eq_of_lt (by assumption)
  · rw [Nat.mod_eq_sub_mod (by omega), mod_two (by omega)]
    split <;> split <;> omega

/-- The page that comes at number `i`. -/
def pick (n f i : Nat) : Nat := if i % 2 = 1 then (f + n - 1 - i / 2) % n else (f + i / 2) % n
/-- Has the page come before number `i`? -/
def seen (n f i p : Nat) : Bool := decide ((p + n + i / 2 - f) % n < i)

theorem pick_lt {n f i : Nat} (hn : 0 < n) : pick n f i < n := by
  unfold pick
  split <;> exact Nat.mod_lt _ hn
theorem seen_new {n f i : Nat} (hf : f < n) (hi : i < n) : seen n f i (pick n f i) = false := by
  unfold seen pick
  rw [decide_eq_false]
  split
  · rw [mod_two (show f + n - 1 - i / 2 < 2 * n by omega)]
    split
    · rw [mod_three (by omega)]
      split
      · omega
      · split <;> omega
    · rw [mod_three (by omega)]
      split
      · omega
      · split <;> omega
  · rw [mod_two (show f + i / 2 < 2 * n by omega)]
    split
    · rw [mod_three (by omega)]
      split
      · omega
      · split <;> omega
    · rw [mod_three (by omega)]
      split
      · omega
      · split <;> omega
theorem seen_step {n f i p : Nat} (hf : f < n) (hi : i < n) (hp : p < n) : seen n f (i + 1) p = (seen n f i p || p == pick n f i) := by
  unfold seen pick
  rw [Bool.eq_iff_iff]
  simp only [Bool.or_eq_true, decide_eq_true_eq, beq_iff_eq]
  rw [mod_three (show p + n + (i + 1) / 2 - f < 3 * n by omega), mod_three (show p + n + i / 2 - f < 3 * n by omega)]
  by_cases hodd : i % 2 = 1
  · rw [if_pos hodd, mod_two (show f + n - 1 - i / 2 < 2 * n by omega)]
    (repeat' split) <;> omega
  · rw [if_neg hodd, mod_two (show f + i / 2 < 2 * n by omega)]
    (repeat' split) <;> omega
theorem seen_all {n f p : Nat} (hn : 0 < n) : seen n f n p = true := by
  unfold seen
  rw [decide_eq_true]
  exact Nat.mod_lt _ hn

/-- The free pages that have come. -/
def upTo (n f i : Nat) (S : Nat → Bool) : Nat → Bool := fun p => S p && seen n f i p

theorem Alone_yes {l : Sl} {xs : List (Int × Int × Int)} {pages from_ : Nat} (ha : Acts σ l xs) (hp : pages < 65536) (hf : from_ < 65536) : freeholdlaw03_BuddyAlone.call (pages : Int) l (from_ : Int) σ (Yes σ) := by
  refine freeholdlaw03_BuddyAlone.of_vc ?_
  unfold freeholdlaw03_BuddyAlone.vc
  refine great_ok (ifD (fun _ => alive_jn (Ext.refl _ _)) fun hg => ?_)
  refine made_use ha hp hg fun h1 q sb ms n S hn _ e1 hB hF => ?_
  have hnil : Acts h1 ⟨none, 0, 0⟩ [] := ⟨rfl, fun i x y z hx => by simp at hx⟩
  refine made_use hnil hp (by simp) fun h2 g sg mg n' T hn' hT e2 hG hFg => ?_
  have hnn : n' = n := by rw [hn, hn']
  subst hnn
  have hT0 : T = upTo n' (from_ % n') 0 S := by
    rw [hT]
    funext y
    simp [playS, emptyS, upTo, seen]
  clear hT
  have hB2 := hB.keep0 e2
  have n1 := hB.n1
  have n2 := hB.n2
  have bnd := hB.bnd
  refine JnB.intro (ifF rfl (ifF rfl ?_))
  have hmod : ((pages : Int).tmod 1024) = ((pages % 1024 : Nat) : Int) := by rw [tmod_nn (by omega)]; simp
  refine arN (m := pages) rfl (by omega) (nz (by decide) ?_)
  refine arN (m := n') (by rw [hmod]; omega) (by omega) ?_
  have hfl := Nat.mod_lt from_ (show 0 < n' by omega)
  have hfm : ((from_ : Int).tmod (n' : Int)) = ((from_ % n' : Nat) : Int) := by rw [tmod_nn (by omega)]; simp
  obtain ⟨f, hfe⟩ : ∃ f, from_ % n' = f := ⟨_, rfl⟩
  rw [hfe] at hfm hT0 hfl
  refine loop1 (a := .i .i64) (fun (t : Int) h => ∃ (i : Nat), t = (i : Int) ∧ i ≤ n' ∧ BH h g n' (upTo n' f i S) sg mg ∧ Ext (· ∈ mg) h2 h) (fun t _ => n' - t.toNat) ⟨0, rfl, by omega, by rw [← hT0]; exact hG, Ext.refl _ _⟩ ?_
  rintro t h ⟨i, rfl, hi, hGi, hE⟩
  have frg : ∀ b, b ∈ mg → h1.size ≤ b := fun b hb => hFg b (mem_fp hb)
  have hBh : BH h q n' S sb ms := hB2.keep hE fun b hb hm => by have := frg b hm; have := hB.fp_lt hb; omega
  have z1 := e1.1
  have kh : Ext0 σ h := Ext.fresh (e1.trans e2) hE fun b hb => by have := frg b hb; omega
  refine ifD (fun hlt => ?_) fun hge => ?_
  · have hin : i < n' := by omega
    have tw : ((i : Int).tdiv 2) = ((i / 2 : Nat) : Int) := by rw [tdiv_nn (by omega)]; simp
    have tm : ((i : Int).tmod 2) = ((i % 2 : Nat) : Int) := by rw [tmod_nn (by omega)]; simp
    refine arN (m := from_) rfl (by omega) (nz (by omega) (nz (by decide) ?_))
    refine arN (m := i / 2) tw (by omega) ?_
    refine arN (m := f + i / 2) (by rw [hfm]; omega) (by omega) (nz (by omega) (Jn.intro (nz (by decide) ?_)))
    have go : ∀ (v6 : Hp), v6 = h → buddy_Heap_IsFree.call (some ⟨q, 0, none⟩) ((pick n' f i : Nat) : Int) v6 fun t61 v7 =>
      JnB (fun r1 v8 =>
       If r1 (Yes σ false v8)
        (Ar .i64 ((i : Int) + 1) fun i1 =>
        (∃ (i : Nat), i1 = (i : Int) ∧ i ≤ n' ∧ BH v8 g n' (upTo n' f i S) sg mg ∧ Ext (· ∈ mg) h2 v8) ∧ n' - i1.toNat < n' - (i : Int).toNat)) fun J3 =>
      If t61 (buddy_Heap_Give.call (some ⟨g, 0, none⟩) ((pick n' f i : Nat) : Int) 1 v7 fun t65 v9 =>
       J3 (t65 != 0) v9)
       (J3 false v7) := by
      rintro v6 rfl
      have hpl : pick n' f i < n' := pick_lt (by omega)
      have hseen := seen_new (n := n') (f := f) (i := i) hfl hin
      refine isFree_ok hBh _ ?_
      have : isF S ((pick n' f i : Nat) : Int) = S (pick n' f i) := by simp [isF]
      rw [this]
      cases hs : S (pick n' f i)
      · have same : upTo n' f (i + 1) S = upTo n' f i S := by
          refine fun_eq fun y => ?_
          simp only [upTo, Bool.and_eq_true]
          constructor
          · rintro ⟨hy, hsn⟩
            refine ⟨hy, ?_⟩
            rw [seen_step hfl hin (bnd y hy)] at hsn
            simp only [Bool.or_eq_true, beq_iff_eq] at hsn
            rcases hsn with h5 | h5
            · exact h5
            · rw [h5, hs] at hy; cases hy
          · rintro ⟨hy, hsn⟩
            refine ⟨hy, ?_⟩
            rw [seen_step hfl hin (bnd y hy), hsn]; rfl
        refine JnB.intro (ifF rfl (ifF rfl (arN (m := i + 1) (by omega) (by omega) ⟨⟨i + 1, rfl, by omega, ?_, hE⟩, by omega⟩)))
        rw [same]; exact hGi
      · refine JnB.intro (ifT rfl (Give_ok hGi _ _ fun v9 e9 hG9 => ?_))
        have hok : runOk n' ((pick n' f i : Nat) : Int) 1 = true := by
          simp only [runOk, Bool.and_eq_true, decide_eq_true_eq]; omega
        have hTn : upTo n' f i S (pick n' f i) = false := by simp [upTo, hseen]
        have hno : noneF (upTo n' f i S) (pick n' f i) 1 = true := noneF_iff.2 fun y h5 h6 => by
          have : y = pick n' f i := by omega
          rw [this]; exact hTn
        have h1n : (1 : Int).toNat = 1 := rfl
        have hgE : giveE n' (upTo n' f i S) ((pick n' f i : Nat) : Int) 1 = 0 := by simp only [giveE, hok, Int.toNat_natCast, h1n, hno, if_true]
        have hgS : giveS n' (upTo n' f i S) ((pick n' f i : Nat) : Int) 1 = upTo n' f (i + 1) S := by
          simp only [giveS, hok, Int.toNat_natCast, h1n, hno, Bool.and_true, if_true]
          refine fun_eq fun y => ?_
          rw [give_iff]
          simp only [upTo, Bool.and_eq_true]
          constructor
          · rintro (⟨hy, hsn⟩ | h5)
            · exact ⟨hy, by rw [seen_step hfl hin (bnd y hy), hsn]; rfl⟩
            · have : y = pick n' f i := by omega
              rw [this]
              exact ⟨hs, by rw [seen_step hfl hin hpl]; simp⟩
          · rintro ⟨hy, hsn⟩
            rw [seen_step hfl hin (bnd y hy)] at hsn
            simp only [Bool.or_eq_true, beq_iff_eq] at hsn
            rcases hsn with h5 | h5
            · exact .inl ⟨hy, h5⟩
            · right; omega
        rw [hgS] at hG9
        rw [hgE]
        exact ifF rfl (arN (m := i + 1) (by omega) (by omega) ⟨⟨i + 1, rfl, by omega, hG9, hE.trans e9⟩, by omega⟩)
    rw [tm]
    refine iff_ (fun hodd => ?_) fun heven => ?_
    · have hodd' : i % 2 = 1 := by
        have : ((i % 2 : Nat) : Int) = 1 := by simpa using hodd
        omega
      refine arN (m := from_) rfl (by omega) (nz (by omega) ?_)
      refine arN (m := f + n') (by rw [hfm]; omega) (by omega) (arN (m := f + n' - 1) (by omega) (by omega) (nz (by decide) ?_))
      refine arN (m := i / 2) tw (by omega) (arN (m := f + n' - 1 - i / 2) (by omega) (by omega) (nz (by omega) ?_))
      have : (((f + n' - 1 - i / 2 : Nat) : Int).tmod (n' : Int)) = ((pick n' f i : Nat) : Int) := by
        rw [tmod_nn (by omega)]
        unfold pick
        rw [if_pos hodd']
        simp
      rw [this]
      exact go h rfl
    · have heven' : ¬ i % 2 = 1 := by
        intro hc
        rw [hc] at heven; simp at heven
      have : (((f + i / 2 : Nat) : Int).tmod (n' : Int)) = ((pick n' f i : Nat) : Int) := by
        rw [tmod_nn (by omega)]
        unfold pick
        rw [if_neg heven']
        simp
      rw [this]
      exact go h rfl
  · have : i = n' := by omega
    subst this
    have hSS : upTo i f i S = S := by
      funext y
      simp [upTo, seen_all (show 0 < i by omega)]
    rw [hSS] at hGi
    exact alike_ok hGi hBh fun h5 e5 => JnB.intro (ifT rfl (alive_jn (kh.trans e5)))

end Go.Bu
