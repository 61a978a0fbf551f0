/- The reference's heap: contracts of its functions. -/
import Derived.Test.YtimoepajidnmjaaBuM
namespace Go.Bu
open Go Go.Vc Go.Proofs
set_option linter.unusedSimpArgs false
set_option linter.unusedVariables false

variable {σ : Hp} {t rb n : Nat} {S : Nat → Bool}

def btab (n : Nat) (S : Nat → Bool) : List Value := (List.range n).map fun p => Value.bool (S p)
theorem btab_len (n : Nat) (S : Nat → Bool) : (btab n S).length = n := by simp [btab]
theorem btab_at {n p : Nat} {S : Nat → Bool} (h : p < n) : (btab n S)[p]? = some (.bool (S p)) := by simp [btab, h]
theorem btab_set {n p : Nat} {U V : Nat → Bool} {v : Bool} (h : ∀ x, V x = if x = p then v else U x) : (btab n U).set p (.bool v) = btab n V := by
  apply List.ext_getElem
  · simp [btab]
  · intro i h1 h2
    rw [List.getElem_set]
    split
    · rename_i e; subst e; simp [btab, h]
    · rename_i e
      have e' : ¬ i = p := fun e2 => e e2.symm
      simp [btab, h, e']
theorem btab_zero (n : Nat) : (List.replicate n [Value.bool false]).flatten = btab n emptyS := by
  apply List.ext_getElem
  · simp [btab]
  · intro i h1 h2
    simp [btab, emptyS]

structure RH (σ : Hp) (t rb n : Nat) (S : Nat → Bool) : Prop where
  hd : ∃ cap, Blk σ t [.slice (some ⟨rb, 0, none⟩) n cap]
  row : ∃ rest, Blk σ rb (btab n S ++ rest)
  ne : t ≠ rb
  n1 : 1 ≤ n
  n2 : n ≤ 1024
  bnd : Bounded S n

theorem RH.keep {h' : Hp} (h : RH σ t rb n S) {F : Nat → Prop} (e : Ext F σ h') (h1 : ¬ F t) (h2 : ¬ F rb) : RH h' t rb n S := by
  obtain ⟨cap, hb⟩ := h.hd
  obtain ⟨rest, hr⟩ := h.row
  exact ⟨⟨cap, e.blk hb h1⟩, ⟨rest, e.blk hr h2⟩, h.ne, h.n1, h.n2, h.bnd⟩
theorem RH.keep0 {h' : Hp} (h : RH σ t rb n S) (e : Ext0 σ h') : RH h' t rb n S := h.keep e id id
theorem RH.t_lt (h : RH σ t rb n S) : t < σ.size := by obtain ⟨_, hb⟩ := h.hd; exact hb.lt
theorem RH.rb_lt (h : RH σ t rb n S) : rb < σ.size := by obtain ⟨_, hb⟩ := h.row; exact hb.lt
theorem RH.rS (h : RH σ t rb n S) {K : Sl → Prop} (hK : ∀ cap, K ⟨some ⟨rb, 0, none⟩, n, cap⟩) : LdS (Addr.add ⟨t, 0, none⟩ 0) σ K := by
  obtain ⟨cap, hb⟩ := h.hd
  rw [add_lit]
  exact ldS (by rw [hb.cell]; rfl) (hK cap)
theorem RH.rF (h : RH σ t rb n S) {x : Nat} (hx : x < n) {K : Bool → Prop} (hK : K (S x)) : Ix (some ⟨rb, 0, none⟩) n (x : Int) 1 fun a => LdB a σ K := by
  obtain ⟨rest, hb⟩ := h.row
  refine ix (by omega) (by omega) ?_
  rw [add_lit]
  refine ldB ?_ hK
  rw [hb.cell, show 0 + ((x : Nat) : Int).toNat * 1 = x by omega, List.getElem?_append_left (by rw [btab_len]; exact hx), btab_at hx]
theorem RH.sF (h : RH σ t rb n S) {x : Nat} (hx : x < n) {v : Bool} {V : Nat → Bool} (hV : ∀ y, V y = if y = x then v else S y) {K : Hp → Prop} (hK : ∀ h', OnlyB σ h' rb → RH h' t rb n V → K h') :
    Ix (some ⟨rb, 0, none⟩) n (x : Int) 1 fun a => St1 a (.bool v) σ K := by
  obtain ⟨rest, hb⟩ := h.row
  refine ix (by omega) (by omega) ?_
  rw [show ((x : Nat) : Int).toNat * 1 = x by omega]
  refine hb.st1 (by rw [List.length_append, btab_len]; omega) fun h' ho hb' => hK h' ho ?_
  obtain ⟨cap, hh⟩ := h.hd
  refine ⟨⟨cap, only_blk ho hh h.ne⟩, ⟨rest, ?_⟩, h.ne, h.n1, h.n2, fun y hy => ?_⟩
  · rw [List.set_append_left _ _ (by rw [btab_len]; exact hx), btab_set hV] at hb'
    exact hb'
  · rw [hV] at hy
    split at hy
    · omega
    · exact h.bnd y hy

/-! ## Small functions -/
theorem rmade_ok (h : RH σ t rb n S) {R : Bool → Hp → Prop} (hR : R true σ) : freeholdref03_Heap_made.call (some ⟨t, 0, none⟩) σ R := by
  refine freeholdref03_Heap_made.of_vc ?_
  unfold freeholdref03_Heap_made.vc
  refine JnB.intro (ifT rfl (nilP (h.rS fun cap => ?_)))
  have := h.n1
  rw [decide_eq_true (by simp only; omega)]
  exact hR
theorem rmade_nil {R : Bool → Hp → Prop} (hR : R false σ) : freeholdref03_Heap_made.call none σ R := by
  refine freeholdref03_Heap_made.of_vc ?_
  unfold freeholdref03_Heap_made.vc
  exact JnB.intro (ifF rfl hR)

theorem in_ok (h : RH σ t rb n S) (start pages : Int) {R : Bool → Hp → Prop} (hR : R (runOk n start pages) σ) : freeholdref03_Heap_in.call (some ⟨t, 0, none⟩) start pages σ R := by
  refine freeholdref03_Heap_in.of_vc ?_
  unfold freeholdref03_Heap_in.vc
  have n2 := h.n2
  have bad : ¬ (0 ≤ start ∧ 1 ≤ pages ∧ pages ≤ n - start) → R false σ := fun hn => by
    have : runOk n start pages = false := by simp only [runOk, ← Bool.decide_and]; exact decide_eq_false hn
    rw [this] at hR; exact hR
  refine JnB.intro (ifD (fun h1 => ?_) fun h1 => ?_)
  · refine JnB.intro (ifD (fun h2 => ?_) fun h2 => ?_)
    · refine nilP (h.rS fun cap => JnB.intro (ifD (fun h3 => ?_) fun h3 => ?_))
      · simp only at h3
        refine nilP (h.rS fun cap => ar (by simp only; omega) (by simp only; omega) ?_)
        have : runOk n start pages = decide (pages ≤ (n : Int) - start) := by
          simp only [runOk]
          rw [decide_eq_true (show 0 ≤ start from h1), decide_eq_true (show 1 ≤ pages by omega)]
          simp
        rw [this] at hR
        exact hR
      · simp only at h3
        exact bad (by omega)
    · exact JnB.intro (ifF rfl (bad (by omega)))
  · exact JnB.intro (ifF rfl (JnB.intro (ifF rfl (bad (by omega)))))

def allIs (S : Nat → Bool) (a m : Nat) (v : Bool) : Bool := if v then allF S a m else noneF S a m
theorem all_ok (h : RH σ t rb n S) {a m : Nat} (hf : a + m ≤ n) (v : Bool) {R : Bool → Hp → Prop} (hR : R (allIs S a m v) σ) : freeholdref03_Heap_all.call (some ⟨t, 0, none⟩) (a : Int) (m : Int) v σ R := by
  refine freeholdref03_Heap_all.of_vc ?_
  unfold freeholdref03_Heap_all.vc
  have n2 := h.n2
  refine loop1 (a := .i .i64) (fun (c : Int) h' => ∃ z : Nat, c = (z : Int) ∧ a ≤ z ∧ h' = σ ∧ ∀ u, a ≤ u → u < z → S u = v) (fun c _ => a + m - c.toNat) ⟨a, rfl, by omega, rfl, fun u _ _ => by omega⟩ ?_
  rintro c h' ⟨z, rfl, hz, rfl, hall⟩
  refine arN (m := a + m) (by omega) (by omega) (ifD (fun hlt => ?_) fun hge => ?_)
  · refine nilP (h.rS fun cap => h.rF (by omega) ?_)
    by_cases hv : S z = v
    · refine ifF (by rw [hv]; simp) (arN (m := z + 1) (by omega) (by omega) ⟨⟨z + 1, rfl, by omega, rfl, fun u h1 h2 => ?_⟩, by omega⟩)
      by_cases e : u = z
      · rw [e]; exact hv
      · exact hall u h1 (by omega)
    · refine ifT (by cases hs : S z <;> cases v <;> simp_all) ?_
      have : allIs S a m v = false := by
        unfold allIs
        cases v
        · exact noneF_no hz (by omega) (by simpa using hv)
        · exact allF_no hz (by omega) (by simpa using hv)
      rw [this] at hR; exact hR
  · have : allIs S a m v = true := by
      unfold allIs
      cases v
      · exact noneF_iff.2 fun u h1 h2 => hall u h1 (by omega)
      · exact allF_iff.2 fun u h1 h2 => hall u h1 (by omega)
    rw [this] at hR; exact hR

def setIs (S : Nat → Bool) (a b : Nat) (v : Bool) : Nat → Bool := if v then give S a b else take S a b
theorem set_ok (h : RH σ t rb n S) {a m : Nat} (hf : a + m ≤ n) (v : Bool) {R : Hp → Prop} (hR : ∀ σ', Ext (· = rb) σ σ' → RH σ' t rb n (setIs S a (a + m) v) → R σ') : freeholdref03_Heap_set.call (some ⟨t, 0, none⟩) (a : Int) (m : Int) v σ R := by
  refine freeholdref03_Heap_set.of_vc ?_
  unfold freeholdref03_Heap_set.vc
  have n2 := h.n2
  refine loop1 (a := .i .i64) (fun (c : Int) h' => ∃ z : Nat, c = (z : Int) ∧ a ≤ z ∧ z ≤ a + m ∧ Ext (· = rb) σ h' ∧ RH h' t rb n (setIs S a z v)) (fun c _ => a + m - c.toNat)
    ⟨a, rfl, by omega, by omega, Ext.refl _ _, by cases v <;> simp only [setIs, Bool.false_eq_true, if_false, if_true, give_nil, take_nil] <;> exact h⟩ ?_
  rintro c h' ⟨z, rfl, hz, hzm, hE, hB⟩
  refine arN (m := a + m) (by omega) (by omega) (ifD (fun hlt => ?_) fun hge => ?_)
  · refine nilP (hB.rS fun cap => hB.sF (x := z) (V := setIs S a (z + 1) v) (by omega) (fun y => ?_) fun h2 ho hB2 => ?_)
    · cases v
      · simp only [setIs, Bool.false_eq_true, if_false, take]
        by_cases e : y = z
        · subst e
          simp [hz]
        · have : decide (y < z + 1) = decide (y < z) := by rw [decide_eq_decide]; omega
          rw [this, if_neg e]
      · simp only [setIs, if_true, give]
        by_cases e : y = z
        · subst e
          simp [hz]
        · have : decide (y < z + 1) = decide (y < z) := by rw [decide_eq_decide]; omega
          rw [this, if_neg e]
    · exact arN (m := z + 1) (by omega) (by omega) ⟨⟨z + 1, rfl, by omega, by omega, hE.only ho (.inl rfl), hB2⟩, by omega⟩
  · have : z = a + m := by omega
    subst this
    exact hR h' hE hB

theorem RGive_ok (h : RH σ t rb n S) (a m : Int) {R : Int → Hp → Prop} (hR : ∀ σ', Ext (· = rb) σ σ' → RH σ' t rb n (giveS n S a m) → R (giveE n S a m) σ') : freeholdref03_Heap_Give.call (some ⟨t, 0, none⟩) a m σ R := by
  refine freeholdref03_Heap_Give.of_vc ?_
  unfold freeholdref03_Heap_Give.vc
  refine rmade_ok h (ifF rfl (in_ok h a m ?_))
  cases hok : runOk n a m
  · refine ifT rfl ?_
    have := hR σ (Ext.refl _ _)
    simp only [giveE, giveS, hok, Bool.false_and, Bool.false_eq_true, if_false] at this
    exact this h
  · obtain ⟨x, y, rfl, rfl, hy, hxy⟩ := runOk_nat hok
    refine ifF rfl (all_ok h hxy false ?_)
    simp only [allIs, Bool.false_eq_true, if_false]
    cases hno : noneF S x y
    · refine ifT rfl ?_
      have := hR σ (Ext.refl _ _)
      simp only [giveE, giveS, hok, Int.toNat_natCast, hno, Bool.and_false, if_true, Bool.false_eq_true, if_false] at this
      exact this h
    · refine ifF rfl (set_ok h hxy true fun h2 e2 hB2 => ?_)
      have := hR h2 e2
      simp only [giveE, giveS, hok, Int.toNat_natCast, hno, Bool.and_true, if_true] at this
      exact this hB2
theorem RTakeRun_ok (h : RH σ t rb n S) (a m : Int) {R : Int → Hp → Prop} (hR : ∀ σ', Ext (· = rb) σ σ' → RH σ' t rb n (runS n S a m) → R (runE n S a m) σ') : freeholdref03_Heap_TakeRun.call (some ⟨t, 0, none⟩) a m σ R := by
  refine freeholdref03_Heap_TakeRun.of_vc ?_
  unfold freeholdref03_Heap_TakeRun.vc
  refine rmade_ok h (ifF rfl (in_ok h a m ?_))
  cases hok : runOk n a m
  · refine ifT rfl ?_
    have := hR σ (Ext.refl _ _)
    simp only [runE, runS, hok, Bool.false_and, Bool.false_eq_true, if_false] at this
    exact this h
  · obtain ⟨x, y, rfl, rfl, hy, hxy⟩ := runOk_nat hok
    refine ifF rfl (all_ok h hxy true ?_)
    simp only [allIs, if_true]
    cases hno : allF S x y
    · refine ifT rfl ?_
      have := hR σ (Ext.refl _ _)
      simp only [runE, runS, hok, Int.toNat_natCast, hno, Bool.and_false, if_true, Bool.false_eq_true, if_false] at this
      exact this h
    · refine ifF rfl (set_ok h hxy false fun h2 e2 hB2 => ?_)
      have := hR h2 e2
      simp only [runE, runS, hok, Int.toNat_natCast, hno, Bool.and_true, if_true] at this
      exact this hB2

/-- A place, all free? -/
theorem place_ok (h : RH σ t rb n S) {k q : Nat} {x m : Nat} (hx : x = q * 2 ^ k) (hm : m = 2 ^ k) {R : Bool → Hp → Prop} (hR : R (full S k q) σ) : freeholdref03_Heap_place.call (some ⟨t, 0, none⟩) (x : Int) (m : Int) σ R := by
  refine freeholdref03_Heap_place.of_vc ?_
  unfold freeholdref03_Heap_place.vc
  subst hx; subst hm
  have hpk := Nat.two_pow_pos k
  refine in_ok h _ _ (JnB.intro ?_)
  cases hok : runOk n ((q * 2 ^ k : Nat) : Int) ((2 ^ k : Nat) : Int)
  · refine ifF rfl ?_
    have : full S k q = false := by
      cases hf : full S k q
      · rfl
      · have := full_bound h.bnd hf
        simp only [runOk, Bool.and_eq_false_iff, decide_eq_false_iff_not] at hok
        omega
    rw [this] at hR; exact hR
  · have hin : q * 2 ^ k + 2 ^ k ≤ n := by
      simp only [runOk, Bool.and_eq_true, decide_eq_true_eq] at hok
      omega
    exact ifT rfl (all_ok h hin true hR)

theorem can_big (hb : Bounded S n) {k q : Nat} (hk : n < 2 ^ k) : can S k q = false := by
  cases hc : can S k q
  · rfl
  · have := full_bound hb (can_iff.1 hc).1; omega
theorem filter_short (hb : Bounded S n) {k j : Nat} (hj : j ≤ n) (hn : n ≤ j * 2 ^ k) : (List.range n).filter (can S k) = (List.range j).filter (can S k) := by
  obtain ⟨d, rfl⟩ := Nat.exists_eq_add_of_le hj
  rw [List.range_add, List.filter_append]
  have : (List.map (fun x => j + x) (List.range d)).filter (can S k) = [] := by
    rw [List.filter_eq_nil_iff]
    intro x hx hc
    obtain ⟨y, _, rfl⟩ := List.mem_map.1 hx
    have h1 := full_bound hb (can_iff.1 hc).1
    have h2 : j * 2 ^ k ≤ (j + y) * 2 ^ k := Nat.mul_le_mul_right _ (by omega)
    have := Nat.two_pow_pos k
    omega
  rw [this, List.append_nil]

theorem own_slF {B : Nat} {h : Hp} {s : Sl} {xs : List Value} {Q : Nat → Prop} (ho : Own Q h s 1 xs) (hQ : ∀ b, Q b → B ≤ b) : SlF B h s xs := by
  have := SlG.of_own ho hQ
  exact ⟨by have := this.1; omega, this.2⟩

theorem RBlocks_ok (h : RH σ t rb n S) (k : Int) {R : Sl → Hp → Prop} (hR : ∀ s σ', Ext0 σ σ' → SlF σ.size σ' s (ints (blocksI n S k)) → R s σ') : freeholdref03_Heap_Blocks.call (some ⟨t, 0, none⟩) k σ R := by
  refine freeholdref03_Heap_Blocks.of_vc ?_
  unfold freeholdref03_Heap_Blocks.vc
  have n1 := h.n1
  have n2 := h.n2
  have none_ : blocksI n S k = [] → R ⟨none, 0, 0⟩ σ := fun e => hR _ σ (Ext.refl _ _) (by rw [e]; exact ⟨rfl, .inl ⟨rfl, rfl⟩⟩)
  refine rmade_ok h (JnB.intro (ifF rfl (JnB.intro (ifD (fun h1 => ifT rfl (none_ (by unfold blocksI; rw [if_neg (by omega)]))) fun h1 => ?_))))
  obtain ⟨j, rfl⟩ := Int.eq_ofNat_of_zero_le (show 0 ≤ k by omega)
  have ebl : blocksI n S (j : Int) = blocks n S j := by simp [blocksI]
  refine ifD (fun h2 => none_ ?_) fun h2 => ?_
  · rw [ebl]
    have h3 : 2 ^ 11 ≤ 2 ^ j := Nat.pow_le_pow_right (by decide) (by omega)
    have h4 : (2 : Nat) ^ 11 = 2048 := rfl
    unfold blocks
    have : (List.range n).filter (can S j) = [] := by
      rw [List.filter_eq_nil_iff]
      intro x _ hc
      rw [can_big h.bnd (by omega)] at hc; cases hc
    rw [this]; rfl
  -- the size
  have hj20 : j ≤ 20 := by omega
  refine loop2 (a := .i .i64) (bb := .i .i64) (fun (s : Int) (c : Int) h' => ∃ i : Nat, c = (i : Int) ∧ i ≤ j ∧ s = ((2 ^ i : Nat) : Int) ∧ h' = σ) (fun _ c _ => j - c.toNat) ⟨0, rfl, by omega, rfl, rfl⟩ ?_
  rintro s c h' ⟨i, rfl, hi, rfl, rfl⟩
  have hpi := Nat.two_pow_pos i
  have hi20 : 2 ^ i ≤ 2 ^ 20 := Nat.pow_le_pow_right (by decide) (by omega)
  have h20 : (2 : Nat) ^ 20 = 1048576 := rfl
  refine ifD (fun hlt => ?_) fun hge => ?_
  · exact arN (m := 2 ^ (i + 1)) (by rw [Nat.pow_succ]; omega) (by rw [Nat.pow_succ]; omega) (arN (m := i + 1) (by omega) (by omega) ⟨⟨i + 1, rfl, by omega, rfl, rfl⟩, by omega⟩)
  have : i = j := by omega
  subst this
  rw [ebl] at hR
  refine loop2 (a := .s) (bb := .i .i64) (fun (l : Sl) (c : Int) h'' => ∃ q : Nat, c = ((q * 2 ^ i : Nat) : Int) ∧ q ≤ n ∧ q * 2 ^ i < n + 2 ^ i ∧ Ext0 h' h'' ∧ Own (fun b => h'.size ≤ b) h'' l 1 (ints (((List.range q).filter (can S i)).map (· * 2 ^ i))))
    (fun _ c _ => n + 2 ^ i - c.toNat) ⟨0, by simp, by omega, by omega, Ext.refl _ _, Own.nil _ _ _⟩ ?_
  rintro l c h'' ⟨q, rfl, hqn, hqs, hE, hO⟩
  have hB := h.keep0 hE
  refine nilP (hB.rS fun cap => ifD (fun hlt => ?_) fun hge => ?_)
  · simp only at hlt
    have hqlt : q < n := by
      have : q ≤ q * 2 ^ i := Nat.le_mul_of_pos_right _ hpi
      omega
    have hlen : l.len ≤ q := by
      have := hO.1
      have h3 : ((List.range q).filter (can S i)).length ≤ q := Nat.le_trans (List.length_filter_le _ _) (by simp)
      simp only [ints, List.length_map] at this
      omega
    have hstep : ((List.range (q + 1)).filter (can S i)).map (· * 2 ^ i) = ((List.range q).filter (can S i)).map (· * 2 ^ i) ++ (if can S i q then [q * 2 ^ i] else []) := by
      rw [List.range_succ, List.filter_append, List.map_append]
      cases hcq : can S i q <;> simp [List.filter_cons, hcq]
    have hmul : q * 2 ^ i + 2 ^ i = (q + 1) * 2 ^ i := by rw [Nat.add_mul, Nat.one_mul]
    have next : ∀ (l1 : Sl) (v5 : Hp), Ext0 h' v5 → Own (fun b => h'.size ≤ b) v5 l1 1 (ints (((List.range (q + 1)).filter (can S i)).map (· * 2 ^ i))) →
        Ar .i64 (((q * 2 ^ i : Nat) : Int) + ((2 ^ i : Nat) : Int)) fun p1 => (∃ q : Nat, p1 = ((q * 2 ^ i : Nat) : Int) ∧ q ≤ n ∧ q * 2 ^ i < n + 2 ^ i ∧ Ext0 h' v5 ∧ Own (fun b => h'.size ≤ b) v5 l1 1 (ints (((List.range q).filter (can S i)).map (· * 2 ^ i)))) ∧ n + 2 ^ i - p1.toNat < n + 2 ^ i - ((q * 2 ^ i : Nat) : Int).toNat := by
      intro l1 v5 e5 hO5
      exact arN (m := (q + 1) * 2 ^ i) (by omega) (by omega) ⟨⟨q + 1, rfl, by omega, by omega, e5, hO5⟩, by omega⟩
    have no : can S i q = false → Ar .i64 (((q * 2 ^ i : Nat) : Int) + ((2 ^ i : Nat) : Int)) fun p1 => (∃ q : Nat, p1 = ((q * 2 ^ i : Nat) : Int) ∧ q ≤ n ∧ q * 2 ^ i < n + 2 ^ i ∧ Ext0 h' h'' ∧ Own (fun b => h'.size ≤ b) h'' l 1 (ints (((List.range q).filter (can S i)).map (· * 2 ^ i)))) ∧ n + 2 ^ i - p1.toNat < n + 2 ^ i - ((q * 2 ^ i : Nat) : Int).toNat := by
      intro hc
      refine next l h'' hE ?_
      rw [hstep, hc]
      simpa using hO
    refine Jn.intro (place_ok hB rfl rfl (JnB.intro ?_))
    cases hf : full S i q
    · exact ifF rfl (ifF rfl (no (by simp [can, hf])))
    · refine ifT rfl ?_
      have htd : (((q * 2 ^ i : Nat) : Int).tdiv ((2 ^ (i + 1) : Nat) : Int)) = ((q / 2 : Nat) : Int) := by
        rw [tdiv_nn (by omega)]
        have : q * 2 ^ i / 2 ^ (i + 1) = q / 2 := by rw [Nat.pow_succ, ← Nat.div_div_eq_div_mul, first_in]
        rw [← this]; simp
      have h2p : 2 ^ (i + 1) = 2 * 2 ^ i := by rw [Nat.pow_succ, Nat.mul_comm]
      have hq2 : q / 2 * 2 ^ (i + 1) ≤ q * 2 ^ i := by
        rw [h2p, ← Nat.mul_assoc]; exact Nat.mul_le_mul_right _ (by omega)
      refine arN (m := 2 ^ (i + 1)) (by omega) (by omega) (nz (by omega) ?_)
      rw [htd]
      refine arN (m := q / 2) rfl (by omega) (arN (m := 2 ^ (i + 1)) (by omega) (by omega) ?_)
      refine arN (m := q / 2 * 2 ^ (i + 1)) (by simp) (by omega) (arN (m := 2 ^ (i + 1)) (by omega) (by omega) ?_)
      refine place_ok hB (k := i + 1) (q := q / 2) rfl rfl ?_
      cases hf2 : full S (i + 1) (q / 2)
      · refine ifT rfl ?_
        unfold Nw
        have e1 := ext_push h'' (.cells #[.int .i64 ((q * 2 ^ i : Nat) : Int)] 3 (0, 0))
        refine (hO.keep0 e1).app (ys := [.int .i64 ((q * 2 ^ i : Nat) : Int)]) (fun b hb => by have := hE.1; simp at hb; omega) rfl rfl rd_one (by simp [one1]) (by simp only; omega) (by simp only; omega) Nat.zero_lt_one fun s' h2 hl2 he2 hO2 _ => ?_
        refine next s' h2 (Ext.fresh (hE.trans e1) he2 fun b hb => (hO.blk_lt hb).1) ?_
        have hc : can S i q = true := by simp [can, hf, hf2]
        rw [hstep, hc]
        simp only [if_true, ints, List.map_append, List.map_cons, List.map_nil]
        exact hO2
      · exact ifF rfl (no (by simp [can, hf, hf2]))
  · simp only at hge
    refine hR l h'' hE (own_slF ?_ fun b hb => hb)
    have : blocks n S i = ((List.range q).filter (can S i)).map (· * 2 ^ i) := by
      unfold blocks
      rw [filter_short h.bnd hqn (by omega)]
    rw [this]; exact hO

end Go.Bu
