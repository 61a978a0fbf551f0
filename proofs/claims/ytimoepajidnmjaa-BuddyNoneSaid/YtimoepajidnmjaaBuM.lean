/- The law BuddyTakes returns true. -/
import Derived.Test.YtimoepajidnmjaaBuK
namespace Go.Bu
open Go Go.Vc Go.Proofs
set_option linter.unusedSimpArgs false
set_option linter.unusedVariables false

variable {σ : Hp} {p n sb : Nat} {S : Nat → Bool} {ms : List Nat}

theorem takeFrom_none_of {m a : Nat} : ∀ {j}, (∀ i, i < j → m ≤ 2 ^ i → a ≤ 2 ^ i → blocks n S i = []) → takeFrom n S m a j = none
  | 0, _ => rfl
  | j + 1, h => by
    simp only [takeFrom, takeFrom_none_of (j := j) fun i hi => h i (by omega)]
    split
    · rename_i hc
      rw [h j (by omega) hc.1 hc.2]; rfl
    · rfl
theorem top_lt {least : Nat} : ∀ K, (∀ k, least ≤ k → k < K → many n S k = 0) → top n S K < (least : Int)
  | 0, _ => by simp only [top]; omega
  | K + 1, h => by
    rw [top]
    split
    · rename_i hp
      rcases Nat.lt_or_ge K least with h1 | h1
      · omega
      · have := h K h1 (by omega); omega
    · exact top_lt K fun k h1 h2 => h k h1 (by omega)
theorem pow_mono_le {i j m : Nat} (h : i ≤ j) (hm : m ≤ 2 ^ i) : m ≤ 2 ^ j := Nat.le_trans hm (Nat.pow_le_pow_right (by decide) h)
theorem isPow_spec {a : Int} (h : isPow a = true) : ∃ k, k ≤ 10 ∧ a = ((2 ^ k : Nat) : Int) := by
  unfold isPow at h
  rw [List.any_eq_true] at h
  obtain ⟨k, hk, he⟩ := h
  rw [List.mem_range] at hk
  exact ⟨k, by omega, by simpa using he⟩
theorem pow_le_1024 {k : Nat} (h : k ≤ 10) : 2 ^ k ≤ 1024 := Nat.pow_le_pow_right (n := 2) (by decide) h
theorem tmod_mul (q : Nat) {j k : Nat} (h : k ≤ j) : (((q * 2 ^ j : Nat) : Int)).tmod ((2 ^ k : Nat) : Int) = 0 := by
  rw [tmod_nn (by omega)]
  have : q * 2 ^ j = 2 ^ k * (q * 2 ^ (j - k)) := by
    rw [Nat.mul_left_comm, ← Nat.pow_add]; congr 2; omega
  rw [this]
  simp

theorem Takes_yes {l : Sl} {xs : List (Int × Int × Int)} {pages : Nat} (ha : Acts σ l xs) (hp : pages < 65536) (mn al : Int) : freeholdlaw03_BuddyTakes.call (pages : Int) l mn al σ (Yes σ) := by
  refine freeholdlaw03_BuddyTakes.of_vc ?_
  unfold freeholdlaw03_BuddyTakes.vc
  refine great_ok (ifD (fun _ => alive_jn (Ext.refl _ _)) fun hg => ?_)
  refine made_use ha hp hg fun h q sb ms n S hn _ e hB hF => ifF rfl ?_
  refine Clone_ok hB fun h2 sb' ms' e2 hC hF' => ?_
  have hB2 := hB.keep0 e2
  refine Take_ok hB2 _ _ fun h3 e3 hB3 => ?_
  have fr : ∀ b, b ∈ ms → σ.size ≤ b := fun b hb => hF b (mem_fp hb)
  have k3 : Ext0 σ h3 := Ext.fresh (e.trans e2) e3 fr
  have hC3 : BH h3 h.size n S sb' ms' := hC.keep e3 fun b hb hm => by have := hF' b hb; have := hB.ms_lt b hm; omega
  have hbnd := hB.bnd
  have hlen := hB.len
  have n2 := hB.n2
  have refuse : takeArg mn al = false → ∀ {A : Prop}, (JnB (fun r2 v7 => JnB (fun r3 v8 => JnB (fun r4 v9 => Yes σ r4 v9) fun J4 => If r3 (freeholdlaw03_alive.call v8 fun t59 v10 => J4 t59 v10) (J4 false v8)) fun J3 =>
        If r2 (freeholdlaw03_alike.call (some ⟨q, 0, none⟩) (some ⟨h.size, 0, none⟩) v7 fun t56 v11 => J3 t56 v11) (J3 false v7)) fun J2 => If (takeE n S mn al == 1) (J2 (((takeV n S mn al : Nat) : Int) == 0) h3) (J2 false h3)) := by
    intro harg A
    have hE : takeE n S mn al = 1 := by simp [takeE, harg]
    have hV : takeV n S mn al = 0 := by simp [takeV, harg]
    have hS : takeS n S mn al = S := by simp [takeS, harg]
    rw [hS] at hB3
    rw [hE, hV]
    refine JnB.intro (ifT rfl (JnB.intro (ifT rfl ?_)))
    exact alike_ok hB3 hC3 fun h4 e4 => JnB.intro (ifT rfl (alive_jn (k3.trans e4)))
  have badP : ¬ (1 ≤ mn ∧ mn ≤ 1024) → takeArg mn al = false := fun hn => by
    simp only [takeArg, ← Bool.and_assoc, ← Bool.decide_and]
    rw [decide_eq_false]; rfl
    omega
  refine JnB.intro (ifD (fun h1 => ?_) fun h1 => ?_)
  · exact JnB.intro (ifT rfl (ifT rfl (refuse (badP (by omega)) (A := True))))
  refine JnB.intro (ifD (fun h2 => ?_) fun h2 => ?_)
  · exact ifT rfl (refuse (badP (by omega)) (A := True))
  refine Power_ok al ?_
  cases hpw : isPow al
  · refine ifT rfl (refuse ?_ (A := True))
    simp [takeArg, hpw]
  refine ifF rfl ?_
  obtain ⟨b, hb10, rfl⟩ := isPow_spec hpw
  obtain ⟨m, rfl⟩ := Int.eq_ofNat_of_zero_le (show 0 ≤ mn by omega)
  have hpb := Nat.two_pow_pos b
  have hb1024 := pow_le_1024 hb10
  have harg : takeArg (m : Int) ((2 ^ b : Nat) : Int) = true := by
    simp only [takeArg, hpw, Bool.and_true, Bool.and_eq_true, decide_eq_true_eq]; omega
  have hm1024 : m ≤ 2 ^ 10 := by have : (2 : Nat) ^ 10 = 1024 := rfl; omega
  -- the least order
  refine loop1 (a := .i .i64) (fun (t : Int) h' => ∃ k : Nat, t = (k : Int) ∧ k ≤ 10 ∧ h' = h3 ∧ ∀ j, j < k → ¬ (m ≤ 2 ^ j ∧ 2 ^ b ≤ 2 ^ j)) (fun t _ => 10 - t.toNat) ⟨0, rfl, by omega, rfl, fun j hj => by omega⟩ ?_
  rintro t h' ⟨k, rfl, hk, rfl, hlow⟩
  have hpk := Nat.two_pow_pos k
  have hk1024 := pow_le_1024 hk
  have more : ¬ (m ≤ 2 ^ k ∧ 2 ^ b ≤ 2 ^ k) → Ar .i64 ((k : Int) + 1) fun least1 => (∃ k : Nat, least1 = (k : Int) ∧ k ≤ 10 ∧ h' = h' ∧ ∀ j, j < k → ¬ (m ≤ 2 ^ j ∧ 2 ^ b ≤ 2 ^ j)) ∧ 10 - least1.toNat < 10 - (k : Int).toNat := by
    intro hno
    have hk10 : k < 10 := by
      apply Classical.byContradiction
      intro hc
      have : k = 10 := by omega
      subst this
      exact hno ⟨hm1024, Nat.pow_le_pow_right (by decide) hb10⟩
    refine arN (m := k + 1) (by omega) (by omega) ⟨⟨k + 1, rfl, by omega, rfl, fun j hj => ?_⟩, by omega⟩
    by_cases hj' : j = k
    · subst hj'; exact hno
    · exact hlow j (by omega)
  refine shl1 (by omega) (JnB.intro (ifD (fun hsm => more (by omega)) fun hbig => ?_))
  refine shl1 (by omega) (ifD (fun hsm2 => more (by omega)) fun hbig2 => ?_)
  have hmk : m ≤ 2 ^ k := by omega
  have hbk : 2 ^ b ≤ 2 ^ k := by omega
  have hbk' : b ≤ k := by
    apply Classical.byContradiction
    intro hc
    have : 2 ^ (k + 1) ≤ 2 ^ b := Nat.pow_le_pow_right (by decide) (by omega)
    rw [Nat.pow_succ] at this; omega
  have lowB : ∀ i, i < k → ¬ (m ≤ 2 ^ i ∧ 2 ^ b ≤ 2 ^ i) := hlow
  -- the best block
  refine loop2 (a := .i .i64) (bb := .i .i64) (fun (best : Int) (o : Int) h'' => ∃ j : Nat, o = (j : Int) ∧ k ≤ j ∧ j ≤ 11 ∧ Ext0 h' h'' ∧
      ((best = -1 ∧ ∀ i, k ≤ i → i < j → blocks n S i = []) ∨ ∃ x : Nat, best = (x : Int) ∧ takeAt n S m (2 ^ b) = some x))
    (fun _ o _ => 11 - o.toNat) ⟨k, rfl, by omega, by omega, Ext.refl _ _, .inl ⟨rfl, fun i h1 h2 => by omega⟩⟩ ?_
  rintro best o h4 ⟨j, rfl, hkj, hj11, e4, hbest⟩
  have hC4 := hC3.keep0 e4
  have k4 : Ext0 σ h4 := k3.trans e4
  have done : (¬ j ≤ 10 ∨ ¬ best < 0) →
      If (decide (best < 0)) (JnB (fun r7 v17 => JnB (fun r8 v18 => JnB (fun r9 v19 => JnB (fun r10 v20 => Yes σ r10 v20) fun J12 => If r9 (freeholdlaw03_alive.call v19 fun t111 v21 => J12 t111 v21) (J12 false v19)) fun J11 =>
             If r8 (buddy_Heap_Order.call (some ⟨h.size, 0, none⟩) v18 fun t106 v22 => J11 (decide (t106 < (k : Int))) v22) (J11 false v18)) fun J10 =>
            If r7 (freeholdlaw03_alike.call (some ⟨q, 0, none⟩) (some ⟨h.size, 0, none⟩) v17 fun t102 v23 => J10 t102 v23) (J10 false v17)) fun J9 =>
           If (takeE n S (m : Int) ((2 ^ b : Nat) : Int) == 6) (J9 (((takeV n S (m : Int) ((2 ^ b : Nat) : Int) : Nat) : Int) == 0) h4) (J9 false h4))
        (JnB (fun r11 v24 => JnB (fun r12 v25 => JnB (fun r13 v26 =>
              If r13 (Yes σ false v26)
               (LoopK [(.i .i64)] (fun I2 => I2 0 v26) fun J16 (p : Int) v27 =>
               Ar .i64 (pages : Int) fun t135 =>
               Nz 1024 <|
               If (decide (p ≤ (t135.tmod 1024))) (JnB (fun r14 v28 =>
                 JnB (fun r15 v29 =>
                  JnB (fun r16 v30 =>
                   If r16 (Yes σ false v30)
                    (Ar .i64 (p + 1) fun p1 =>
                    J16 p1 v30)) fun J19 =>
                  If r15 (J19 true v29)
                   (JnB (fun r17 v31 =>
                    J19 r17 v31) fun J20 =>
                   If (!r14) (buddy_Heap_IsFree.call (some ⟨h.size, 0, none⟩) p v29 fun t168 v32 =>
                    buddy_Heap_IsFree.call (some ⟨q, 0, none⟩) p v32 fun t171 v33 =>
                    J20 (!(t168 == t171)) v33)
                    (J20 false v29))) fun J18 =>
                 If r14 (buddy_Heap_IsFree.call (some ⟨h.size, 0, none⟩) p v28 fun t154 v34 =>
                  JnB (fun r18 v35 =>
                   J18 r18 v35) fun J21 =>
                  If (!t154) (J21 true v34)
                   (buddy_Heap_IsFree.call (some ⟨q, 0, none⟩) p v34 fun t159 v36 =>
                   J21 t159 v36))
                  (J18 false v28)) fun J17 =>
                If (decide (p ≥ ((takeV n S (m : Int) ((2 ^ b : Nat) : Int) : Nat) : Int))) (Ar .i64 (((takeV n S (m : Int) ((2 ^ b : Nat) : Int) : Nat) : Int) + (m : Int)) fun t147 =>
                 J17 (decide (p < t147)) v27)
                 (J17 false v27))
                (freeholdlaw03_alive.call v27 fun t175 v37 =>
                Yes σ t175 v37))) fun J15 =>
             If r12 (J15 true v25)
              (Nn (k : Int) <| Ar .i64 (1 * 2 ^ (min (k : Int).toNat IntKind.i64.bits)) fun t129 =>
              Nz t129 <|
              J15 ((((takeV n S (m : Int) ((2 ^ b : Nat) : Int) : Nat) : Int).tmod t129) != 0) v25)) fun J14 =>
            If r11 (J14 true v24)
             (Nz ((2 ^ b : Nat) : Int) <|
             J14 ((((takeV n S (m : Int) ((2 ^ b : Nat) : Int) : Nat) : Int).tmod ((2 ^ b : Nat) : Int)) != 0) v24)) fun J13 =>
           If (takeE n S (m : Int) ((2 ^ b : Nat) : Int) != 0) (J13 true h4)
            (J13 (((takeV n S (m : Int) ((2 ^ b : Nat) : Int) : Nat) : Int) != best) h4)) := by
    intro hor
    rcases hbest with ⟨rfl, hempty⟩ | ⟨x, rfl, hat⟩
    · -- nothing is large enough
      have hj : j = 11 := by
        rcases hor with h6 | h6
        · omega
        · exact absurd (show (-1 : Int) < 0 by omega) h6
      subst hj
      have hall : ∀ i, i < 11 → m ≤ 2 ^ i → 2 ^ b ≤ 2 ^ i → blocks n S i = [] := fun i hi h1 h2 => by
        rcases Nat.lt_or_ge i k with h5 | h5
        · exact (lowB i h5 ⟨h1, h2⟩).elim
        · exact hempty i h5 hi
      have hat : takeAt n S m (2 ^ b) = none := takeFrom_none_of hall
      have hE : takeE n S (m : Int) ((2 ^ b : Nat) : Int) = 6 := by simp only [takeE, harg, Int.toNat_natCast, hat, if_true]
      have hV : takeV n S (m : Int) ((2 ^ b : Nat) : Int) = 0 := by simp only [takeV, harg, Int.toNat_natCast, hat, if_true]
      have hS : takeS n S (m : Int) ((2 ^ b : Nat) : Int) = S := by simp only [takeS, harg, Int.toNat_natCast, hat, if_true]
      rw [hE, hV]
      rw [hS] at hB3
      refine ifDT (show (-1 : Int) < 0 by omega) (JnB.intro (ifT rfl (JnB.intro (ifT rfl ?_))))
      refine alike_ok (hB3.keep0 e4) hC4 fun h5 e5 => JnB.intro (ifT rfl (Order_ok (hC4.keep0 e5) (JnB.intro (ifT ?_ (alive_jn (k4.trans e5))))))
      refine decide_eq_true (top_lt _ fun i h6 h7 => ?_)
      rw [← blocks_len, hempty i h6 (by have := hC4.len; omega)]; rfl
    · -- the block that was taken
      obtain ⟨j', hj', hmj, hbj, hhead, _⟩ := takeFrom_spec hat
      have hkj' : k ≤ j' := by
        apply Classical.byContradiction
        intro hc
        exact lowB j' (by omega) ⟨hmj, hbj⟩
      obtain ⟨q', hx, hcan⟩ := (mem_blocks hbnd).1 (List.mem_of_head? hhead)
      obtain ⟨hin, hfree⟩ := take_in hbnd hat
      have hE : takeE n S (m : Int) ((2 ^ b : Nat) : Int) = 0 := by simp only [takeE, harg, Int.toNat_natCast, hat, if_true]
      have hV : takeV n S (m : Int) ((2 ^ b : Nat) : Int) = x := by simp only [takeV, harg, Int.toNat_natCast, hat, if_true]
      have hS : takeS n S (m : Int) ((2 ^ b : Nat) : Int) = take S x (x + m) := by simp only [takeS, harg, Int.toNat_natCast, hat, if_true]
      rw [hE, hV]
      rw [hS] at hB3
      refine ifDF (show ¬ (x : Int) < 0 by omega) (JnB.intro (ifF rfl (JnB.intro (ifF (by simp) ?_))))
      refine nz (by omega) (JnB.intro (ifF (by rw [hx, tmod_mul q' (by omega)]; rfl) ?_))
      refine shl1 (by omega) (nz (by omega) (ifF (by rw [hx, tmod_mul q' (by omega)]; rfl) ?_))
      refine loop1 (a := .i .i64) (fun (t : Int) h5 => ∃ y : Nat, t = (y : Int) ∧ y ≤ n ∧ h5 = h4) (fun t _ => n - t.toNat) ⟨0, rfl, by omega, rfl⟩ ?_
      rintro t h5 ⟨y, rfl, hy, rfl⟩
      have hB5 := hB3.keep0 e4
      have hmod : ((pages : Int).tmod 1024) = ((pages % 1024 : Nat) : Int) := by rw [tmod_nn (by omega)]; simp
      refine arN (m := pages) rfl (by omega) (nz (by decide) ?_)
      rw [hmod]
      refine ifD (fun hle => ?_) fun hgt => alive_jn k4
      have hyn : y < n := by omega
      have next : Ar .i64 ((y : Int) + 1) fun p1 => (∃ y : Nat, p1 = (y : Int) ∧ y ≤ n ∧ h5 = h5) ∧ n - p1.toNat < n - (y : Int).toNat := arN (m := y + 1) (by omega) (by omega) ⟨⟨y + 1, rfl, by omega, rfl⟩, by omega⟩
      have iS : isF S (y : Int) = S y := by simp [isF]
      have iT : isF (take S x (x + m)) (y : Int) = take S x (x + m) y := by simp [isF]
      have out : ¬ (x ≤ y ∧ y < x + m) → JnB (fun r15 v29 =>
                  JnB (fun r16 v30 =>
                   If r16 (Yes σ false v30)
                    (Ar .i64 ((y : Int) + 1) fun p1 =>
                    (∃ y : Nat, p1 = (y : Int) ∧ y ≤ n ∧ v30 = h5) ∧ n - p1.toNat < n - (y : Int).toNat)) fun J19 =>
                  If r15 (J19 true v29)
                   (JnB (fun r17 v31 =>
                    J19 r17 v31) fun J20 =>
                   If (!false) (buddy_Heap_IsFree.call (some ⟨h.size, 0, none⟩) (y : Int) v29 fun t168 v32 =>
                    buddy_Heap_IsFree.call (some ⟨q, 0, none⟩) (y : Int) v32 fun t171 v33 =>
                    J20 (!(t168 == t171)) v33)
                    (J20 false v29))) fun J18 =>
                 If false (buddy_Heap_IsFree.call (some ⟨h.size, 0, none⟩) (y : Int) h5 fun t154 v34 =>
                  JnB (fun r18 v35 =>
                   J18 r18 v35) fun J21 =>
                  If (!t154) (J21 true v34)
                   (buddy_Heap_IsFree.call (some ⟨q, 0, none⟩) (y : Int) v34 fun t159 v36 =>
                   J21 t159 v36))
                  (J18 false h5) := by
        intro hno
        refine JnB.intro (ifF rfl (JnB.intro (ifF rfl (JnB.intro (ifT rfl ?_)))))
        refine isFree_ok hC4 _ (isFree_ok hB5 _ ?_)
        rw [iS, iT]
        have : take S x (x + m) y = S y := by
          have h6 := @take_iff S x (x + m) y
          cases hs : S y <;> cases ht : take S x (x + m) y <;> simp_all
        rw [this]
        exact ifF (by simp) next
      refine JnB.intro (ifD (fun hge => ?_) fun hlt => out (by omega))
      refine arN (m := x + m) (by omega) (by omega) ?_
      by_cases hlt : y < x + m
      · rw [decide_eq_true (show (y : Int) < ((x + m : Nat) : Int) by omega)]
        refine JnB.intro (ifT rfl (isFree_ok hC4 _ ?_))
        rw [iS, hfree y (by omega) hlt]
        refine JnB.intro (ifF rfl (isFree_ok hB5 _ ?_))
        rw [iT]
        have : take S x (x + m) y = false := by
          cases ht : take S x (x + m) y
          · rfl
          · exact ((take_iff.1 ht).2 ⟨by omega, hlt⟩).elim
        rw [this]
        exact JnB.intro (ifF rfl (JnB.intro (ifF rfl (ifF rfl next))))
      · rw [decide_eq_false (show ¬ (y : Int) < ((x + m : Nat) : Int) by omega)]
        exact out (by omega)
  refine JnB.intro (ifD (fun hle => ?_) fun hgt => ifF rfl (done (.inl (by omega))))
  refine ifD (fun hneg => ?_) fun hpos => done (.inr hpos)
  obtain ⟨rfl, hempty⟩ : best = -1 ∧ ∀ i, k ≤ i → i < j → blocks n S i = [] := by
    rcases hbest with h6 | ⟨x, rfl, _⟩
    · exact h6
    · omega
  refine Blocks_ok hC4 _ fun s h5 e5 hs => ?_
  have hbl : blocksI n S (j : Int) = blocks n S j := by simp [blocksI]
  rw [hbl] at hs
  have hlen2 : s.len = (blocks n S j).length := by rw [hs.1]; simp [ints]
  refine ifD (fun hpos => ?_) fun hz => ?_
  · match hbk2 : blocks n S j with
    | [] => rw [hbk2] at hlen2; simp at hlen2; omega
    | x :: rest =>
      have hs' := hs
      have es : ints (blocks n S j) = ((blocks n S j).map fun (x : Nat) => (x : Int)).map (Value.int .i64) := by simp [ints, List.map_map, Function.comp_def]
      rw [es] at hs'
      refine hs'.ixI (i := 0) (x := (x : Int)) (by rw [hbk2]; rfl) ?_
      refine arN (m := j + 1) (by omega) (by omega) ⟨⟨j + 1, rfl, by omega, by omega, e4.trans e5, .inr ⟨x, rfl, ?_⟩⟩, by omega⟩
      refine takeFrom_some (k := j + 1) ?_ 11 (by omega)
      simp only [takeFrom]
      rw [takeFrom_none_of fun i hi h1 h2 => ?_]
      · simp only
        rw [if_pos ⟨pow_mono_le hkj hmk, pow_mono_le hkj hbk⟩, hbk2]; rfl
      · rcases Nat.lt_or_ge i k with h6 | h6
        · exact (lowB i h6 ⟨h1, h2⟩).elim
        · exact hempty i h6 hi
  · refine arN (m := j + 1) (by omega) (by omega) ⟨⟨j + 1, rfl, by omega, by omega, e4.trans e5, .inl ⟨rfl, fun i h6 h7 => ?_⟩⟩, by omega⟩
    by_cases hij : i = j
    · subst hij
      exact List.eq_nil_of_length_eq_zero (by omega)
    · exact hempty i h6 (by omega)

end Go.Bu
