/- The laws BuddyOrders, BuddyRefuses, BuddyBack, BuddyClones: each returns true. -/
import Derived.Test.YtimoepajidnmjaaBuJ
namespace Go.Bu
open Go Go.Vc Go.Proofs
set_option linter.unusedSimpArgs false
set_option linter.unusedVariables false

variable {σ : Hp} {p n sb : Nat} {S : Nat → Bool} {ms : List Nat}

theorem alive_yes {h : Hp} (e : Ext0 σ h) : freeholdlaw03_alive.call h (Yes σ) := alive_ok fun _ e' => ⟨rfl, e.trans e'⟩
theorem alive_jn {h : Hp} (e : Ext0 σ h) : freeholdlaw03_alive.call h fun r v => Yes σ r v := alive_yes e

theorem many_le (hb : Bounded S n) (k : Nat) : many n S k * 2 ^ k ≤ cnt n S := by
  have h1 := cnt_mul k n (can S k)
  have h2 : n ≤ n * 2 ^ k := Nat.le_mul_of_pos_right _ (Nat.two_pow_pos k)
  rw [cnt_ext h2 (fun p hp => hb p (can_free hp rfl))] at h1
  have h3 : (List.range n).countP (fun p => can S k (p / 2 ^ k)) ≤ cnt n S := List.countP_mono_left fun x _ hx => can_free hx rfl
  rw [h1] at h3
  unfold many
  rw [Nat.mul_comm]; exact h3
theorem cnt_le (n : Nat) (S : Nat → Bool) : cnt n S ≤ n := Nat.le_trans List.countP_le_length (by simp)

/-- A heap made and called, in memory. -/
theorem made_use {l : Sl} {xs : List (Int × Int × Int)} {pages : Nat} {v : Hp} (ha : Acts v l xs) (hp : pages < 65536) (hl : ¬ 40 < l.len) {R : Option Addr → Hp → Prop}
    (hR : ∀ σ' q sb ms n S, n = pages % 1024 + 1 → S = playS n emptyS xs → Ext0 v σ' → BH σ' q n S sb ms → (∀ b, fp q sb ms b → v.size ≤ b) → R (some ⟨q, 0, none⟩) σ') : freeholdlaw03_made.call (pages : Int) l v R :=
  madeLaw_ok ha hp (by have := ha.1; omega) fun σ' q sb ms e hB hF => hR σ' q sb ms _ _ rfl rfl e hB hF

theorem Orders_yes {l : Sl} {xs : List (Int × Int × Int)} {pages : Nat} (ha : Acts σ l xs) (hp : pages < 65536) (order : Int) : freeholdlaw03_BuddyOrders.call (pages : Int) l order σ (Yes σ) := by
  refine freeholdlaw03_BuddyOrders.of_vc ?_
  unfold freeholdlaw03_BuddyOrders.vc
  refine great_ok (ifD (fun _ => alive_jn (Ext.refl _ _)) fun hg => ?_)
  refine made_use ha hp hg fun h q sb ms n S _ _ e hB hF => ifF rfl ?_
  refine JnB.intro (ifD (fun h0 => ?_) fun h0 => ?_)
  · refine ifD (fun h1 => ?_) fun h1 => ?_
    · obtain ⟨k, rfl⟩ := Int.eq_ofNat_of_zero_le h0
      refine Blocks_ok hB _ fun s h2 e2 hs => Free_ok (hB.keep0 e2) (nn (by omega) (JnB.intro ?_))
      have hlen : s.len = many n S k := by
        rw [hs.1, ← blocks_len]
        simp [ints, blocksI]
      have hm := many_le hB.bnd k
      have hle : many n S k ≤ cnt n S / 2 ^ k := (Nat.le_div_iff_mul_le (Nat.two_pow_pos k)).2 hm
      rw [min_bits (by omega), fdiv_nat, hlen]
      refine ifDT ?_ (alive_jn (e.trans e2))
      have : ((cnt n S : Nat) : Int) / 2 ^ k = ((cnt n S / 2 ^ k : Nat) : Int) := by simp
      rw [this]; omega
    · refine Blocks_ok hB _ fun s h2 e2 hs => JnB.intro ?_
      have hnil : blocksI n S order = [] := by
        obtain ⟨k, rfl⟩ := Int.eq_ofNat_of_zero_le h0
        have := hB.len
        simp only [blocksI, h0, if_true]
        exact no_blocks hB (by simp only [ge_iff_le] at *; omega)
      rw [hnil] at hs
      have : s.len = 0 := by rw [hs.1]; rfl
      exact ifT (by simp [this]) (alive_jn (e.trans e2))
  · refine ifF rfl (Blocks_ok hB _ fun s h2 e2 hs => JnB.intro ?_)
    have hnil : blocksI n S order = [] := by unfold blocksI; rw [if_neg (by omega)]
    rw [hnil] at hs
    have : s.len = 0 := by rw [hs.1]; rfl
    exact ifT (by simp [this]) (alive_jn (e.trans e2))

/-! ## Refuses -/
theorem do_err (n : Nat) (S : Nat → Bool) (x : Int × Int × Int) (h : doE n S x ≠ 0) : doS n S x = S := by
  unfold doE at h
  unfold doS
  split at h
  · rename_i h0
    rw [if_pos h0]
    unfold giveE at h
    unfold giveS
    cases h1 : runOk n x.2.1 x.2.2
    · simp
    · rw [h1, if_pos rfl] at h
      cases h2 : noneF S x.2.1.toNat x.2.2.toNat
      · simp
      · rw [h2] at h; simp at h
  · rename_i h0
    rw [if_neg h0]
    split at h
    · rename_i h1
      rw [if_pos h1]
      unfold takeE at h
      unfold takeS
      split at h
      · rename_i h2
        rw [if_pos h2]
        split at h
        · exact absurd rfl h
        · rename_i h3; first | rfl | rw [h3]
      · rename_i h2; rw [if_neg h2]
    · rename_i h1
      rw [if_neg h1]
      split at h
      · rename_i h2
        rw [if_pos h2]
        unfold runE at h
        unfold runS
        cases h3 : runOk n x.2.1 x.2.2
        · simp
        · rw [h3, if_pos rfl] at h
          cases h4 : allF S x.2.1.toNat x.2.2.toNat
          · simp
          · rw [h4] at h; simp at h
      · rename_i h2; rw [if_neg h2]

theorem Refuses_yes {l : Sl} {xs : List (Int × Int × Int)} {pages : Nat} (ha : Acts σ l xs) (hp : pages < 65536) (x y z : Int) : freeholdlaw03_BuddyRefuses.call (pages : Int) l x y z σ (Yes σ) := by
  refine freeholdlaw03_BuddyRefuses.of_vc ?_
  unfold freeholdlaw03_BuddyRefuses.vc Nw
  have hb := Blk.push σ [.int .i64 x, .int .i64 y, .int .i64 z] 44
  have e0 := ext_push σ (.cells #[.int .i64 x, .int .i64 y, .int .i64 z] 44 (0, 0))
  refine great_ok (ifD (fun _ => alive_jn e0) fun hg => ?_)
  refine made_use (acts_keep0 ha e0) hp hg fun h q sb ms n S _ _ e hB hF => ifF rfl ?_
  refine Clone_ok hB fun h2 sb' ms' e2 hC hF' => ?_
  have hb2 := (e.trans e2).blk hb id
  refine ldI0 (hb2.cell (o := 0)) (ldI0 (hb2.cell (o := 1)) (ldI0 (hb2.cell (o := 2)) ?_))
  have hB2 := hB.keep0 e2
  have hsz : h.size ≤ h2.size := e2.1
  refine do_ok hB2 _ _ _ fun h3 e3 hB3 => ?_
  have k3 : Ext0 σ h3 := Ext.fresh ((e0.trans e).trans e2) e3 fun b hb => by
    have := hF b (mem_fp hb); have := e0.1; omega
  have hC3 : BH h3 h.size n S sb' ms' := hC.keep e3 fun b hb hm => by have := hF' b hb; have := hB.ms_lt b hm; omega
  refine JnB.intro (iff_ (fun h0 => ?_) fun h0 => ?_)
  · exact JnB.intro (ifT rfl (alive_jn k3))
  · have hne : doE n S (x, y, z) ≠ 0 := by simpa using h0
    rw [do_err n S _ hne] at hB3
    exact alike_ok hB3 hC3 fun h4 e4 => JnB.intro (ifT rfl (alive_jn (k3.trans e4)))

/-! ## Back -/
theorem takeFrom_spec {m a k x : Nat} (h : takeFrom n S m a k = some x) : ∃ j, j < k ∧ m ≤ 2 ^ j ∧ a ≤ 2 ^ j ∧ (blocks n S j).head? = some x ∧ ∀ i, i < j → m ≤ 2 ^ i → a ≤ 2 ^ i → blocks n S i = [] := by
  have before : ∀ k, takeFrom n S m a k = none → ∀ i, i < k → m ≤ 2 ^ i → a ≤ 2 ^ i → blocks n S i = [] := by
    intro k
    induction k with
    | zero => intro _ i hi; omega
    | succ k ih =>
      intro hn i hi h1 h2
      rw [takeFrom] at hn
      split at hn
      · cases hn
      · rename_i hn'
        by_cases e : i = k
        · subst e
          rw [if_pos ⟨h1, h2⟩] at hn
          simpa using hn
        · exact ih hn' i (by omega) h1 h2
  induction k with
  | zero => simp [takeFrom] at h
  | succ k ih =>
    rw [takeFrom] at h
    split at h
    · rename_i y hy
      cases h
      obtain ⟨j, h1, h2⟩ := ih hy
      exact ⟨j, by omega, h2⟩
    · rename_i hn
      split at h
      · rename_i hc
        exact ⟨k, by omega, hc.1, hc.2, h, before k hn⟩
      · cases h
theorem takeFrom_no {m a : Nat} : ∀ {k}, takeFrom n S m a k = none → ∀ i, i < k → m ≤ 2 ^ i → a ≤ 2 ^ i → blocks n S i = []
  | 0, _, i, hi, _, _ => by omega
  | k + 1, hn, i, hi, h1, h2 => by
    rw [takeFrom] at hn
    split at hn
    · cases hn
    · rename_i hn'
      by_cases e : i = k
      · subst e
        rw [if_pos ⟨h1, h2⟩] at hn
        simpa using hn
      · exact takeFrom_no hn' i (by omega) h1 h2

theorem take_in (hb : Bounded S n) {m a x : Nat} (h : takeAt n S m a = some x) : x + m ≤ n ∧ ∀ y, x ≤ y → y < x + m → S y = true := by
  obtain ⟨j, _, hm, _, hh, _⟩ := takeFrom_spec h
  have hmem : x ∈ blocks n S j := List.mem_of_head? hh
  obtain ⟨q, rfl, hc⟩ := (mem_blocks hb).1 hmem
  have := full_bound hb (can_iff.1 hc).1
  exact ⟨by omega, fun y h1 h2 => can_free hc (place_iff.2 (by omega))⟩

theorem give_take {a b : Nat} (h : ∀ y, a ≤ y → y < b → S y = true) : give (take S a b) a b = S := fun_eq fun y => by
  rw [give_iff, take_iff]
  constructor
  · rintro (h1 | h1)
    · exact h1.1
    · exact h y h1.1 h1.2
  · intro hs
    by_cases hy : a ≤ y ∧ y < b
    · exact .inr hy
    · exact .inl ⟨hs, hy⟩

theorem countP_range_in (n a m : Nat) (h : a + m ≤ n) : (List.range n).countP (fun y => decide (a ≤ y) && decide (y < a + m)) = m := by
  obtain ⟨d, rfl⟩ := Nat.exists_eq_add_of_le h
  rw [List.range_add, List.range_add, List.countP_append, List.countP_append, List.countP_map, List.countP_map]
  have h1 : (List.range a).countP (fun y => decide (a ≤ y) && decide (y < a + m)) = 0 := by
    rw [List.countP_eq_zero]; intro x hx; simp at hx ⊢; omega
  have h2 : (List.range m).countP ((fun y => decide (a ≤ y) && decide (y < a + m)) ∘ fun x => a + x) = m := by
    rw [List.countP_eq_length.2]
    · simp
    · intro x hx; simp at hx ⊢; omega
  have h3 : (List.range d).countP ((fun y => decide (a ≤ y) && decide (y < a + m)) ∘ fun x => a + m + x) = 0 := by
    rw [List.countP_eq_zero]; intro x hx; simp
  omega
theorem cnt_take {a m : Nat} (h : a + m ≤ n) (hs : ∀ y, a ≤ y → y < a + m → S y = true) : cnt n (take S a (a + m)) + m = cnt n S := by
  conv => lhs; rhs; rw [← countP_range_in n a m h]
  apply countP_add
  intro x _
  cases hx : S x
  · have : (decide (a ≤ x) && decide (x < a + m)) = false := by
      cases hd : (decide (a ≤ x) && decide (x < a + m))
      · rfl
      · simp only [Bool.and_eq_true, decide_eq_true_eq] at hd
        rw [hs x hd.1 hd.2] at hx; cases hx
    simp [take, hx, this]
  · cases hd : (decide (a ≤ x) && decide (x < a + m)) <;> simp [take, hx, hd]

theorem Back_yes {l : Sl} {xs : List (Int × Int × Int)} {pages : Nat} (ha : Acts σ l xs) (hp : pages < 65536) (mn al : Int) : freeholdlaw03_BuddyBack.call (pages : Int) l mn al σ (Yes σ) := by
  refine freeholdlaw03_BuddyBack.of_vc ?_
  unfold freeholdlaw03_BuddyBack.vc
  refine great_ok (ifD (fun _ => alive_jn (Ext.refl _ _)) fun hg => ?_)
  refine made_use ha hp hg fun h q sb ms n S _ _ e hB hF => ifF rfl ?_
  refine Clone_ok hB fun h2 sb' ms' e2 hC hF' => ?_
  have hB2 := hB.keep0 e2
  have hsz : h.size ≤ h2.size := e2.1
  refine Take_ok hB2 _ _ fun h3 e3 hB3 => ?_
  have fr : ∀ b, b ∈ ms → σ.size ≤ b := fun b hb => hF b (mem_fp hb)
  have k3 : Ext0 σ h3 := Ext.fresh (e.trans e2) e3 fr
  have keepC : ∀ {u v : Hp}, Ext (· ∈ ms) u v → BH u h.size n S sb' ms' → BH v h.size n S sb' ms' := fun ex hc => hc.keep ex fun b hb hm => by have := hF' b hb; have := hB.ms_lt b hm; omega
  have hC3 := keepC e3 hC
  by_cases hE : takeE n S mn al = 0
  · -- taken
    rw [hE]
    refine ifF rfl ?_
    have harg : takeArg mn al = true := by
      cases hh : takeArg mn al
      · simp [takeE, hh] at hE
      · rfl
    obtain ⟨x, hx⟩ : ∃ x, takeAt n S mn.toNat al.toNat = some x := by
      cases hh : takeAt n S mn.toNat al.toNat with
      | none => simp [takeE, harg, hh] at hE
      | some x => exact ⟨x, rfl⟩
    have h1 : 1 ≤ mn ∧ mn ≤ 1024 := by simp [takeArg] at harg; omega
    obtain ⟨m, rfl⟩ := Int.eq_ofNat_of_zero_le (show 0 ≤ mn by omega)
    simp only [Int.toNat_natCast] at hx
    obtain ⟨hin, hfree⟩ := take_in hB.bnd hx
    have hS : takeS n S (m : Int) al = take S x (x + m) := by simp [takeS, harg, hx]
    have hV : takeV n S (m : Int) al = x := by simp [takeV, harg, hx]
    rw [hS] at hB3
    rw [hV]
    refine Free_ok hB3 (Free_ok hC3 ?_)
    have hcnt := cnt_take hin hfree
    have := cnt_le n S
    have n2 := hB.n2
    refine arN (m := cnt n (take S x (x + m))) (by omega) (by omega) (JnB.intro ?_)
    refine ifT (by simp) ?_
    refine Give_ok hB3 _ _ fun h4 e4 hB4 => ?_
    have hok : runOk n (x : Int) (m : Int) = true := by
      simp only [runOk, Bool.and_eq_true, decide_eq_true_eq]; omega
    have hno : noneF (take S x (x + m)) x m = true := noneF_iff.2 fun y hy1 hy2 => by
      have : ¬ take S x (x + m) y = true := fun ht => (take_iff.1 ht).2 ⟨hy1, hy2⟩
      simpa using this
    have hgE : giveE n (take S x (x + m)) (x : Int) (m : Int) = 0 := by simp [giveE, hok, hno]
    have hgS : giveS n (take S x (x + m)) (x : Int) (m : Int) = S := by
      simp only [giveS, hok, Int.toNat_natCast, hno, Bool.and_true, if_true]
      exact give_take hfree
    rw [hgS] at hB4
    rw [hgE]
    refine JnB.intro (ifT rfl ?_)
    have k4 : Ext0 σ h4 := Ext.fresh k3 e4 fr
    exact alike_ok hB4 (keepC e4 hC3) fun h5 e5 => JnB.intro (ifT rfl (alive_jn (k4.trans e5)))
  · refine ifT (by simpa using hE) ?_
    have hS : takeS n S mn al = S := by
      have := do_err n S (1, mn, al) (by simpa [doE] using hE)
      simpa [doS] using this
    rw [hS] at hB3
    exact alike_ok hB3 hC3 fun h4 e4 => JnB.intro (ifT rfl (alive_jn (k3.trans e4)))

/-! ## Clones -/
theorem Clones_yes {l more : Sl} {xs ys : List (Int × Int × Int)} {pages : Nat} (ha : Acts σ l xs) (hm : Acts σ more ys) (hp : pages < 65536) (side : Bool) : freeholdlaw03_BuddyClones.call (pages : Int) l more side σ (Yes σ) := by
  refine freeholdlaw03_BuddyClones.of_vc ?_
  unfold freeholdlaw03_BuddyClones.vc
  refine great_ok (JnB.intro (ifD (fun _ => ifT rfl (alive_jn (Ext.refl _ _))) fun hg => ?_))
  refine great_ok (ifD (fun _ => alive_jn (Ext.refl _ _)) fun hg2 => ?_)
  refine made_use ha hp hg fun h1 qa sa ma n S hn hS e1 hA hFa => ?_
  refine made_use (acts_keep0 ha e1) hp hg fun h2 qu su mu n' S' hn' hS' e2 hU hFu => ?_
  subst hn; subst hn'
  have hSS : S' = S := by rw [hS, hS']
  subst hSS
  clear hS hS'
  generalize pages % 1024 + 1 = n at *
  have hA2 := hA.keep0 e2
  refine JnB.intro (ifF rfl (ifF rfl ?_))
  refine Clone_ok hA2 fun h3 sb' mb e3 hC hFc => ifF rfl ?_
  have hA3 := hA2.keep0 e3
  have hU3 := hU.keep0 e3
  have k3 : Ext0 σ h3 := (e1.trans e2).trans e3
  have hlen := hm.1
  have hy : ys.length < 1000000000 := by omega
  have la := hA.ms_lt
  have z1 := e1.1
  have z2 := e2.1
  have z3 := e3.1
  have lb := hC.ms_lt
  cases side
  · -- the clone goes on
    refine loop1 (a := .i .i64) (fun (t : Int) h => ∃ i : Nat, t = (i : Int) ∧ i ≤ ys.length ∧ Ext (· ∈ mb) h3 h ∧ ∃ T, BH h h2.size n T sb' mb) (fun t _ => ys.length - t.toNat) ⟨0, rfl, by omega, Ext.refl _ _, S', hC⟩ ?_
    rintro t h ⟨i, rfl, hi, hE, T, hT⟩
    have frb : ∀ b, b ∈ mb → h2.size ≤ b := fun b hb => hFc b (mem_fp hb)
    have kh : Ext0 σ h := Ext.fresh k3 hE fun b hb => by have := frb b hb; omega
    refine ifD (fun hlt => ifF rfl ?_) fun hge => ifF rfl ?_
    · have hi' : i < ys.length := by omega
      obtain ⟨⟨x, y, z⟩, hx⟩ : ∃ t, ys[i] = t := ⟨_, rfl⟩
      have hx' : ys[i]? = some (x, y, z) := by rw [List.getElem?_eq_getElem hi', hx]
      refine acts_rd (acts_keep0 hm kh) hx' (do_ok hT x y z fun h4 e4 hT4 => ?_)
      exact arN (m := i + 1) (by omega) (by omega) ⟨⟨i + 1, rfl, by omega, hE.trans e4, _, hT4⟩, by omega⟩
    · have hAh : BH h qa n S' sa ma := hA3.keep hE fun b hb hm => by have := frb b hm; have := hA2.fp_lt hb; omega
      have hUh : BH h qu n S' su mu := hU3.keep hE fun b hb hm => by have := frb b hm; have := hU.fp_lt hb; omega
      exact alike_ok hAh hUh fun h5 e5 => JnB.intro (ifT rfl (alive_jn (kh.trans e5)))
  · -- the heap goes on
    refine loop1 (a := .i .i64) (fun (t : Int) h => ∃ i : Nat, t = (i : Int) ∧ i ≤ ys.length ∧ Ext (· ∈ ma) h3 h ∧ ∃ T, BH h qa n T sa ma) (fun t _ => ys.length - t.toNat) ⟨0, rfl, by omega, Ext.refl _ _, S', hA3⟩ ?_
    rintro t h ⟨i, rfl, hi, hE, T, hT⟩
    have fra : ∀ b, b ∈ ma → σ.size ≤ b := fun b hb => hFa b (mem_fp hb)
    have kh : Ext0 σ h := Ext.fresh k3 hE fra
    refine ifD (fun hlt => ifT rfl ?_) fun hge => ifT rfl ?_
    · have hi' : i < ys.length := by omega
      obtain ⟨⟨x, y, z⟩, hx⟩ : ∃ t, ys[i] = t := ⟨_, rfl⟩
      have hx' : ys[i]? = some (x, y, z) := by rw [List.getElem?_eq_getElem hi', hx]
      refine acts_rd (acts_keep0 hm kh) hx' (do_ok hT x y z fun h4 e4 hT4 => ?_)
      exact arN (m := i + 1) (by omega) (by omega) ⟨⟨i + 1, rfl, by omega, hE.trans e4, _, hT4⟩, by omega⟩
    · have hCh : BH h h2.size n S' sb' mb := hC.keep hE fun b hb hm => by have := hFc b hb; have := la b hm; omega
      have hUh : BH h qu n S' su mu := hU3.keep hE fun b hb hm => by have := hFu b hb; have := la b hm; omega
      exact alike_ok hCh hUh fun h5 e5 => JnB.intro (ifT rfl (alive_jn (kh.trans e5)))

end Go.Bu
