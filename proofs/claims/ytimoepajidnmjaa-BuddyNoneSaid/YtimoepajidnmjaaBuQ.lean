/- The reference's heap: Take, Free, IsFree, Runs, Order, Clone, New; what a nil heap says. -/
import Derived.Test.YtimoepajidnmjaaBuP
namespace Go.Bu
open Go Go.Vc Go.Proofs
set_option linter.unusedSimpArgs false
set_option linter.unusedVariables false

variable {σ : Hp} {t rb n : Nat} {S : Nat → Bool}

theorem RTake_ok (h : RH σ t rb n S) (pages align : Int) {R : Int → Int → Hp → Prop}
    (hR : ∀ σ', Ext (· = rb) σ σ' → RH σ' t rb n (takeS n S pages align) → R ((takeV n S pages align : Nat) : Int) (takeE n S pages align) σ') : freeholdref03_Heap_Take.call (some ⟨t, 0, none⟩) pages align σ R := by
  refine freeholdref03_Heap_Take.of_vc ?_
  unfold freeholdref03_Heap_Take.vc
  have n2 := h.n2
  have bad : takeArg pages align = false → R 0 1 σ := fun e => by
    have := hR σ (Ext.refl _ _)
    simp only [takeS, takeV, takeE, e, Bool.false_eq_true, if_false] at this
    exact this h
  have badP : ¬ (1 ≤ pages ∧ pages ≤ 1024) → R 0 1 σ := fun hn => bad (by
    simp only [takeArg, ← Bool.and_assoc, ← Bool.decide_and]
    rw [decide_eq_false]; rfl
    omega)
  refine rmade_ok h (ifF rfl (JnB.intro ?_))
  refine ifD (fun h1 => JnB.intro (ifT rfl (ifT rfl (badP (by omega))))) fun h1 => ?_
  refine JnB.intro (ifD (fun h2 => ifT rfl (badP (by omega))) fun h2 => ?_)
  refine Power_ok align ?_
  cases hpw : isPow align
  · exact ifT rfl (bad (by simp [takeArg, hpw]))
  refine ifF rfl ?_
  obtain ⟨b, hb10, rfl⟩ := isPow_spec hpw
  obtain ⟨m, rfl⟩ := Int.eq_ofNat_of_zero_le (show 0 ≤ pages by omega)
  have hpb := Nat.two_pow_pos b
  have hb1024 := pow_le_1024 hb10
  have harg : takeArg (m : Int) ((2 ^ b : Nat) : Int) = true := by
    simp only [takeArg, hpw, Bool.and_true, Bool.and_eq_true, decide_eq_true_eq]; omega
  refine loop2 (a := .i .i64) (bb := .i .i64) (fun (s : Int) (c : Int) h' => ∃ j : Nat, c = (j : Int) ∧ j ≤ 11 ∧ s = ((2 ^ j : Nat) : Int) ∧ Ext0 σ h' ∧ takeFrom n S m (2 ^ b) j = none) (fun _ c _ => 11 - c.toNat) ⟨0, rfl, by omega, rfl, Ext.refl _ _, rfl⟩ ?_
  rintro s c h' ⟨j, rfl, hj, rfl, hE, hno⟩
  have hpj := Nat.two_pow_pos j
  have hj11 : 2 ^ j ≤ 2 ^ 11 := Nat.pow_le_pow_right (by decide) hj
  have h11 : (2 : Nat) ^ 11 = 2048 := rfl
  refine ifD (fun hle => ?_) fun hgt => ?_
  · have next : ∀ (v : Hp), Ext0 σ v → takeFrom n S m (2 ^ b) (j + 1) = none → Ar .i64 (2 * ((2 ^ j : Nat) : Int)) fun size1 => Ar .i64 ((j : Int) + 1) fun order1 =>
        (∃ j : Nat, order1 = (j : Int) ∧ j ≤ 11 ∧ size1 = ((2 ^ j : Nat) : Int) ∧ Ext0 σ v ∧ takeFrom n S m (2 ^ b) j = none) ∧ 11 - order1.toNat < 11 - (j : Int).toNat := fun v e hn =>
      arN (m := 2 ^ (j + 1)) (by rw [Nat.pow_succ]; omega) (by rw [Nat.pow_succ]; omega) (arN (m := j + 1) (by omega) (by omega) ⟨⟨j + 1, rfl, by omega, rfl, e, hn⟩, by omega⟩)
    have small : ¬ (m ≤ 2 ^ j ∧ 2 ^ b ≤ 2 ^ j) → takeFrom n S m (2 ^ b) (j + 1) = none := fun hc => by simp only [takeFrom, hno, if_neg hc]
    refine JnB.intro (ifD (fun h3 => ?_) fun h3 => ifF rfl (next h' hE (small (by omega))))
    refine ifD (fun h4 => ?_) fun h4 => next h' hE (small (by omega))
    have hbig : m ≤ 2 ^ j ∧ 2 ^ b ≤ 2 ^ j := by omega
    have hRH := h.keep0 hE
    refine RBlocks_ok hRH _ fun l h2 e2 hl => ?_
    have ebl : blocksI n S (j : Int) = blocks n S j := by simp [blocksI]
    rw [ebl] at hl
    have hlen : l.len = (blocks n S j).length := by rw [hl.1]; simp [ints]
    refine ifD (fun hpos => ?_) fun hz => next h2 (hE.trans e2) ?_
    · match hbk2 : blocks n S j with
      | [] => rw [hbk2] at hlen; simp at hlen; omega
      | x :: rest =>
        have hat : takeAt n S m (2 ^ b) = some x := by
          refine takeFrom_some (k := j + 1) ?_ 11 (by omega)
          simp only [takeFrom, hno, if_pos hbig, hbk2, List.head?_cons]
        obtain ⟨hin, _⟩ := take_in h.bnd hat
        have es : ints (blocks n S j) = ((blocks n S j).map fun (x : Nat) => (x : Int)).map (Value.int .i64) := by simp [ints, List.map_map, Function.comp_def]
        rw [es] at hl
        refine hl.ixI (i := 0) (x := (x : Int)) (by rw [hbk2]; rfl) ?_
        refine set_ok (hRH.keep0 e2) hin false fun h3 e3 hB3 => ?_
        have hl3 := hl.keep e3 fun b hb => by have := hRH.rb_lt; omega
        refine hl3.ixI (i := 0) (x := (x : Int)) (by rw [hbk2]; rfl) ?_
        have := hR h3 (Ext.trans (Ext0.to (Ext.trans hE e2)) e3)
        simp only [takeS, takeV, takeE, harg, Int.toNat_natCast, hat, if_true] at this
        exact this hB3
    · simp only [takeFrom, hno, if_pos hbig]
      have : blocks n S j = [] := List.eq_nil_of_length_eq_zero (by omega)
      rw [this]; rfl
  · have : j = 11 := by omega
    subst this
    have hat : takeAt n S m (2 ^ b) = none := hno
    have := hR h' hE.to
    simp only [takeS, takeV, takeE, harg, Int.toNat_natCast, hat, if_true] at this
    exact this (h.keep0 hE)

theorem RFree_ok (h : RH σ t rb n S) {R : Int → Hp → Prop} (hR : R ((cnt n S : Nat) : Int) σ) : freeholdref03_Heap_Free.call (some ⟨t, 0, none⟩) σ R := by
  refine freeholdref03_Heap_Free.of_vc ?_
  unfold freeholdref03_Heap_Free.vc
  have n2 := h.n2
  refine rmade_ok h (ifF rfl ?_)
  refine loop2 (a := .i .i64) (bb := .i .i64) (fun (c : Int) (p : Int) h' => ∃ x : Nat, p = (x : Int) ∧ x ≤ n ∧ c = (((List.range x).countP S : Nat) : Int) ∧ h' = σ) (fun _ p _ => n - p.toNat) ⟨0, rfl, by omega, rfl, rfl⟩ ?_
  rintro c p h' ⟨x, rfl, hx, rfl, rfl⟩
  have hcl : (List.range x).countP S ≤ x := Nat.le_trans List.countP_le_length (by simp)
  refine nilP (h.rS fun cap => ifD (fun hlt => ?_) fun hge => ?_)
  · simp only at hlt
    have hnext : (List.range (x + 1)).countP S = (List.range x).countP S + (if S x then 1 else 0) := by
      rw [List.range_succ, List.countP_append]
      simp [List.countP_cons]
    refine nilP (h.rS fun cap => h.rF (by omega) ?_)
    cases hs : S x
    · rw [hs] at hnext
      exact ifF rfl (arN (m := x + 1) (by omega) (by omega) ⟨⟨x + 1, rfl, by omega, by rw [hnext]; simp, rfl⟩, by omega⟩)
    · rw [hs] at hnext
      exact ifT rfl (arN (m := (List.range (x + 1)).countP S) (by rw [hnext]; simp) (by rw [hnext]; simp; omega) (arN (m := x + 1) (by omega) (by omega) ⟨⟨x + 1, rfl, by omega, rfl, rfl⟩, by omega⟩))
  · simp only at hge
    have : x = n := by omega
    subst this
    exact hR

theorem RIsFree_ok (h : RH σ t rb n S) (x : Int) {R : Bool → Hp → Prop} (hR : R (isF S x) σ) : freeholdref03_Heap_IsFree.call (some ⟨t, 0, none⟩) x σ R := by
  refine freeholdref03_Heap_IsFree.of_vc ?_
  unfold freeholdref03_Heap_IsFree.vc
  refine rmade_ok h (JnB.intro (ifT rfl (JnB.intro ?_)))
  refine ifD (fun h1 => ?_) fun h1 => ?_
  · obtain ⟨y, rfl⟩ := Int.eq_ofNat_of_zero_le (show 0 ≤ x by omega)
    have e : isF S (y : Int) = S y := by simp [isF]
    rw [e] at hR
    refine nilP (h.rS fun cap => JnB.intro (ifD (fun h2 => ?_) fun h2 => ?_))
    · simp only at h2
      exact nilP (h.rS fun cap => h.rF (by omega) hR)
    · simp only at h2
      have : S y = false := by
        cases hs : S y
        · rfl
        · have := h.bnd y hs; omega
      rw [this] at hR; exact hR
  · have : isF S x = false := by simp [isF]; intro; omega
    rw [this] at hR
    exact JnB.intro (ifF rfl hR)

theorem top_up (h : Bounded S n) {K : Nat} (hK : n < 2 ^ K) : ∀ j, K ≤ j → top n S j = top n S K := by
  intro j hj
  induction j with
  | zero => have : K = 0 := by omega
            subst this; rfl
  | succ j ih =>
    by_cases e : K = j + 1
    · rw [e]
    · rw [top, if_neg, ih (by omega)]
      have : many n S j = 0 := by
        unfold many
        rw [List.countP_eq_zero]
        intro x _ hc
        have h1 : 2 ^ K ≤ 2 ^ j := Nat.pow_le_pow_right (by decide) (by omega)
        rw [can_big h (by omega)] at hc; cases hc
      omega

theorem ROrder_ok (h : RH σ t rb n S) {R : Int → Hp → Prop} (hR : ∀ σ', Ext0 σ σ' → R (top n S 11) σ') : freeholdref03_Heap_Order.call (some ⟨t, 0, none⟩) σ R := by
  refine freeholdref03_Heap_Order.of_vc ?_
  unfold freeholdref03_Heap_Order.vc
  refine rmade_ok h (ifF rfl ?_)
  refine loop2 (a := .i .i64) (bb := .i .i64) (fun (mo : Int) (c : Int) h' => ∃ j : Nat, c = (j : Int) ∧ j ≤ 11 ∧ mo = top n S j ∧ Ext0 σ h') (fun _ c _ => 11 - c.toNat) ⟨0, rfl, by omega, rfl, Ext.refl _ _⟩ ?_
  rintro mo c h' ⟨j, rfl, hj, rfl, hE⟩
  refine ifD (fun hle => ?_) fun hgt => ?_
  · refine RBlocks_ok (h.keep0 hE) _ fun l h2 e2 hl => ?_
    have ebl : blocksI n S (j : Int) = blocks n S j := by simp [blocksI]
    rw [ebl] at hl
    have hlen : l.len = many n S j := by rw [hl.1, ← blocks_len]; simp [ints]
    refine ifD (fun hpos => ?_) fun hz => ?_
    · exact arN (m := j + 1) (by omega) (by omega) ⟨⟨j + 1, rfl, by omega, by rw [top, if_pos (by omega)], hE.trans e2⟩, by omega⟩
    · exact arN (m := j + 1) (by omega) (by omega) ⟨⟨j + 1, rfl, by omega, by rw [top, if_neg (by omega)], hE.trans e2⟩, by omega⟩
  · have : j = 11 := by omega
    subst this
    exact hR h' hE

theorem RRuns_ok (h : RH σ t rb n S) {R : Sl → Hp → Prop} (hR : ∀ s σ', Ext0 σ σ' → SlG σ.size σ' s 2 (runsV (runs S n)) → R s σ') : freeholdref03_Heap_Runs.call (some ⟨t, 0, none⟩) σ R := by
  refine freeholdref03_Heap_Runs.of_vc ?_
  unfold freeholdref03_Heap_Runs.vc
  have n2 := h.n2
  refine rmade_ok h (ifF rfl ?_)
  refine loop2 (a := .s) (bb := .i .i64) (fun (out : Sl) (c : Int) h' => ∃ x : Nat, c = (x : Int) ∧ x ≤ n ∧ Ext0 σ h' ∧ Own (fun b => σ.size ≤ b) h' out 2 (runsV (runs S x))) (fun _ c _ => n - c.toNat) ⟨0, rfl, by omega, Ext.refl _ _, Own.nil _ _ _⟩ ?_
  rintro out c h' ⟨x, rfl, hx, hE, hO⟩
  have hB := h.keep0 hE
  refine nilP (hB.rS fun cap => ifD (fun hlt => ?_) fun hge => ?_)
  · simp only at hlt
    have hlen : out.len = (runs S x).length := by have := hO.1; rw [runsV_len] at this; omega
    have hrl := runs_len S x
    refine nilP (hB.rS fun cap => hB.rF (by omega) ?_)
    cases hs : S x
    · refine ifT rfl (arN (m := x + 1) (by omega) (by omega) ⟨⟨x + 1, rfl, by omega, hE, ?_⟩, by omega⟩)
      rw [runs, if_neg (by simp [hs])]; exact hO
    · refine ifF rfl ?_
      have hmore : runs S (x + 1) = ext (runs S x) x 1 := by rw [runs, if_pos hs]
      have fin : ∀ (out1 : Sl) (v3 : Hp), Ext0 σ v3 → Own (fun b => σ.size ≤ b) v3 out1 2 (runsV (runs S (x + 1))) →
          Ar .i64 ((x : Int) + 1) fun p2 => (∃ x : Nat, p2 = (x : Int) ∧ x ≤ n ∧ Ext0 σ v3 ∧ Own (fun b => σ.size ≤ b) v3 out1 2 (runsV (runs S x))) ∧ n - p2.toNat < n - (x : Int).toNat := fun out1 v3 e3 hO3 =>
        arN (m := x + 1) (by omega) (by omega) ⟨⟨x + 1, rfl, by omega, e3, hO3⟩, by omega⟩
      have new : ext (runs S x) x 1 = runs S x ++ [(x, 1)] → (Nw (.cells #[.int .i64 (x : Int), .int .i64 1] 80 (0, 0)) h' fun n64 v6 =>
          App out 2 16 80 [.int .i64 0, .int .i64 0] ⟨(some n64), 1, 1⟩ v6 fun out2 v7 =>
          Ar .i64 ((x : Int) + 1) fun p2 => (∃ x : Nat, p2 = (x : Int) ∧ x ≤ n ∧ Ext0 σ v7 ∧ Own (fun b => σ.size ≤ b) v7 out2 2 (runsV (runs S x))) ∧ n - p2.toNat < n - (x : Int).toNat) := by
        intro hext
        unfold Nw
        have e1 := ext_push h' (.cells #[.int .i64 (x : Int), .int .i64 1] 80 (0, 0))
        refine (hO.keep0 e1).app (ys := [.int .i64 (x : Int), .int .i64 1]) (fun b hb => by have := hE.1; simp at hb; omega) rfl rfl rd_two (by simp [one1]) (by simp only; omega) (by simp only; omega) Nat.zero_lt_one fun s' h2 hl2 he2 hO2 _ => ?_
        refine fin s' h2 (Ext.fresh (hE.trans e1) he2 fun i hi => (hO.blk_lt hi).1) ?_
        rw [hmore, hext, runsV_app]
        exact hO2
      refine JnB.intro ?_
      rcases List.eq_nil_or_concat (runs S x) with hnil | ⟨init, ⟨a, c⟩, hcons⟩
      · rw [hnil] at hlen
        refine ifDF (by simp [hlen]) (ifF rfl (new (by rw [hnil]; rfl)))
      · rw [List.concat_eq_append] at hcons
        have hll : out.len = init.length + 1 := by rw [hlen, hcons]; simp
        have hlast : (runs S x)[init.length]? = some (a, c) := by rw [hcons]; simp
        obtain ⟨hv1, hv2⟩ := runsV_at hlast
        have hbel := runs_below S x (a, c) (by rw [hcons]; simp)
        simp only at hbel
        obtain ⟨b, hba, hc1⟩ := hO.cell hv1
        obtain ⟨b', hba', hc2⟩ := hO.cell hv2
        rw [hba] at hba'; cases hba'
        refine ifDT (by omega) ?_
        have e0 : 0 + ((init.length : Nat) : Int).toNat * 2 + 0 = init.length * 2 := by omega
        have e1 : 0 + ((init.length : Nat) : Int).toNat * 2 + 1 = init.length * 2 + 1 := by omega
        refine arN (m := init.length) (by omega) (by omega) ?_
        rw [hba]
        refine ix (by omega) (by omega) ?_
        rw [add_lit, add_lit]
        refine ldI (by rw [e0]; exact hc1) ?_
        refine arN (m := init.length) (by omega) (by omega) ?_
        refine ix (by omega) (by omega) ?_
        rw [add_lit, add_lit]
        refine ldI (by rw [e1]; exact hc2) ?_
        refine arN (m := a + c) (by omega) (by omega) ?_
        refine iff_ (fun he => ?_) (fun he => ?_)
        · have he' : a + c = x := by have := beq_iff_eq.1 he; omega
          refine arN (m := init.length) (by omega) (by omega) ?_
          refine ix (by omega) (by omega) ?_
          rw [add_lit, add_lit]
          refine ldI (by rw [e1]; exact hc2) ?_
          refine arN (m := c + 1) (by omega) (by omega) ?_
          refine ix (by omega) (by omega) ?_
          refine hO.st (j := init.length * 2 + 1) (by rw [runsV_len, hcons]; simp; omega) (fun b' hb' => ?_) fun h2 he2 hO2 => ?_
          · rw [hba] at hb'; cases hb'
            rw [add_lit, add_lit, e1]
          · refine fin out h2 (Ext.fresh hE he2 fun i hi => (hO.blk_lt hi).1) ?_
            have e : (runsV (runs S x)).set (init.length * 2 + 1) (.int .i64 ((c + 1 : Nat) : Int)) = runsV (runs S (x + 1)) := by
              rw [hmore, hcons, ext_snoc, if_pos he', runsV_app, runsV_app]
              have hil : (runsV init).length = init.length * 2 := runsV_len init
              rw [List.set_append_right _ _ (by omega), hil, show init.length * 2 + 1 - init.length * 2 = 1 by omega]
              rfl
            rw [e] at hO2
            exact hO2
        · refine new ?_
          rw [hcons, ext_snoc, if_neg]
          intro e; subst e
          simp at he
  · simp only at hge
    have : x = n := by omega
    subst this
    exact hR out h' hE (SlG.of_own hO fun b hb => hb)

theorem RClone_ok (h : RH σ t rb n S) {R : Option Addr → Hp → Prop} (hR : ∀ σ' t' rb', Ext0 σ σ' → RH σ' t' rb' n S → σ.size ≤ t' → σ.size ≤ rb' → R (some ⟨t', 0, none⟩) σ') : freeholdref03_Heap_Clone.call (some ⟨t, 0, none⟩) σ R := by
  refine freeholdref03_Heap_Clone.of_vc ?_
  unfold freeholdref03_Heap_Clone.vc Nw
  have n1 := h.n1
  have n2 := h.n2
  refine rmade_ok h (ifF rfl ?_)
  have e1 := ext_push σ (.cells #[] 4 (0, 0))
  have hb1 := Blk.push σ [] 4
  have hs1 : (σ.push (.cells #[] 4 (0, 0))).size = σ.size + 1 := by simp
  have h1 := h.keep0 e1
  refine nilP (h1.rS fun cap => ?_)
  have hown : Own (fun b => σ.size ≤ b) (σ.push (.cells #[] 4 (0, 0))) ⟨some ⟨σ.size, 0, none⟩, 0, 0⟩ 1 [] := ⟨by simp, .inr ⟨σ.size, [], Nat.le_refl _, rfl, hb1, Nat.le_refl _, rfl, rfl⟩⟩
  obtain ⟨rest, hrow⟩ := h1.row
  refine hown.app (ys := btab n S) (fun b hb => by omega) rfl (by rw [btab_len]; simp) ?_ ?_ (by simp only; omega) (by simp only; omega) (by simp only; omega) fun s' h2 hl2 he2 hO2 hne => ?_
  · intro j v hv
    have hj : j < n := by
      have := (List.getElem?_eq_some_iff.1 hv).1
      rwa [btab_len] at this
    rw [add_lit, Nat.zero_add, hrow.cell, List.getElem?_append_left (by rw [btab_len]; exact hj)]
    exact hv
  · intro v hv
    simp only [btab, List.mem_map] at hv
    obtain ⟨x, _, rfl⟩ := hv
    rfl
  · simp only [Nat.zero_add, List.nil_append] at hl2 hO2
    have k2 : Ext0 σ h2 := Ext.fresh e1 he2 fun b hb => (hown.blk_lt hb).1
    have e3 := ext_push h2 (.cells #[.slice s'.a s'.len s'.cap] 75 (0, 0))
    have hO3 := hO2.keep0 e3
    rcases hO3.2 with ⟨ha, _⟩ | ⟨rb', cs, hq, ha, hk, hle, hcl, ht⟩
    · exact (hne ha).elim
    · have hlt : rb' < h2.size := by
        have h4 := hO2.blk_lt (b := rb') ⟨0, ha⟩
        exact h4.2
      refine hR _ h2.size rb' (k2.trans e3) ⟨⟨s'.cap, ?_⟩, ⟨cs.drop (btab n S).length, ?_⟩, by omega, n1, n2, h.bnd⟩ (by have := k2.1; omega) hq
      · have e4 : [Value.slice s'.a s'.len s'.cap] = [Value.slice (some ⟨rb', 0, none⟩) n s'.cap] := by rw [ha, hl2]
        rw [← e4]
        exact Blk.push h2 [.slice s'.a s'.len s'.cap] 75
      · have : btab n S ++ cs.drop (btab n S).length = cs := by
          conv => lhs; lhs; rw [← ht]
          exact List.take_append_drop _ _
        rw [this]; exact hk

theorem RNew_ok (pages : Int) {R : Option Addr → Int → Hp → Prop} (hbad : ¬ (1 ≤ pages ∧ pages ≤ 1024) → R none 1 σ)
    (hR : ∀ (n : Nat), pages = (n : Int) → ∀ σ' t rb, Ext0 σ σ' → RH σ' t rb n emptyS → σ.size ≤ t → σ.size ≤ rb → R (some ⟨t, 0, none⟩) 0 σ') : freeholdref03_New.call pages σ R := by
  refine freeholdref03_New.of_vc ?_
  unfold freeholdref03_New.vc
  refine JnB.intro (ifD (fun h1 => ifT rfl (hbad (by omega))) fun h1 => ?_)
  refine ifD (fun h2 => hbad (by omega)) fun h2 => ?_
  obtain ⟨n, rfl⟩ := Int.eq_ofNat_of_zero_le (show 0 ≤ pages by omega)
  refine ⟨by omega, by omega, by omega, by omega, ?_⟩
  unfold Nw
  rw [Int.toNat_natCast, btab_zero]
  have hb1 := Blk.push σ (btab n emptyS) 4
  have e1 := ext_push σ (.cells (btab n emptyS).toArray 4 (0, 0))
  have hs1 : (σ.push (.cells (btab n emptyS).toArray 4 (0, 0))).size = σ.size + 1 := by simp
  generalize σ.push (.cells (btab n emptyS).toArray 4 (0, 0)) = h1 at *
  have e2 := ext_push h1 (.cells #[.slice (some ⟨σ.size, 0, none⟩) n n] 75 (0, 0))
  refine hR n rfl _ h1.size σ.size (e1.trans e2) ⟨⟨n, Blk.push _ _ _⟩, ⟨[], ?_⟩, by omega, by omega, by omega, fun x hx => by simp [emptyS] at hx⟩ (by omega) (Nat.le_refl _)
  rw [List.append_nil]
  exact e2.blk hb1 id

end Go.Bu
