/- Texts joined. -/
import Derived.Lib.Overlaps
import Derived.Laws.Externs
import Derived.Test.YtmjjhknmbflfhaaGreatDoorN2
-- HuB
namespace Go.Ar
open Go Go.Vc Go.Proofs
open Go.Bu (runOk)
set_option linter.unusedSimpArgs false
set_option linter.unusedVariables false

variable {σ : Hp} {F : Rg} {p q : Nat} {st : List Nat}

/-! ## The library -/
theorem index_ok {s : Sl} {xs : List Nat} (h : SlR s 1 (ints xs) σ F) (hl : xs.length ≤ 1000000) (v : Nat) {R : Int → Hp → Prop} (h1 : ∀ i : Nat, xs[i]? = some v → (∀ j : Nat, j < i → xs[j]? ≠ some v) → R (i : Int) σ) (h0 : v ∉ xs → R (-1) σ) :
    slices_Index_int_int.call s (v : Int) σ R := by
  refine slices_Index_int_int.of_vc ?_
  unfold slices_Index_int_int.vc
  have hlen := h.lenN
  refine loop1 (a := .i .i64) (fun (t : Int) h' => ∃ i : Nat, t = (i : Int) ∧ i ≤ xs.length ∧ h' = σ ∧ ∀ j, j < i → xs[j]? ≠ some v) (fun t _ => xs.length - t.toNat) ⟨0, rfl, by omega, rfl, fun j hj => by omega⟩ ?_
  rintro t h' ⟨i, rfl, hi, rfl, hno⟩
  refine ifD (fun hlt => ?_) fun hge => ?_
  · have hi' : i < xs.length := by omega
    have hx : xs[i]? = some xs[i] := List.getElem?_eq_getElem hi'
    refine h.ixN hx ?_
    rw [beqN]
    refine iff_ (fun he => ?_) fun he => ?_
    · have : v = xs[i] := by simpa using he
      exact h1 i (by rw [hx, this]) hno
    · have he' : ¬ v = xs[i] := by simpa using he
      refine arN (m := i + 1) (by omega) (by omega) ⟨⟨i + 1, rfl, by omega, rfl, fun j hj => ?_⟩, by omega⟩
      by_cases e : j = i
      · subst e; rw [hx]; intro e2; cases e2; exact he' rfl
      · exact hno j (by omega)
  · refine h0 fun hm => ?_
    obtain ⟨j, hj⟩ := List.getElem?_of_mem hm
    have := (List.getElem?_eq_some_iff.1 hj).1
    exact hno j (by omega) hj
theorem contains_ok {s : Sl} {xs : List Nat} (h : SlR s 1 (ints xs) σ F) (hl : xs.length ≤ 1000000) (v : Nat) {R : Bool → Hp → Prop} (hR : R (xs.contains v) σ) : slices_Contains_int_int.call s (v : Int) σ R := by
  refine slices_Contains_int_int.of_vc ?_
  unfold slices_Contains_int_int.vc
  refine index_ok h hl v (fun i hi _ => ?_) fun hn => ?_
  · have : xs.contains v = true := by simpa using List.mem_of_getElem? hi
    rw [this] at hR
    rw [decide_eq_true (by omega)]; exact hR
  · have : xs.contains v = false := by simpa using hn
    rw [this] at hR
    exact hR
theorem containsI_ok {s : Sl} {xs : List Int} (h : SlR s 1 (xs.map (Value.int .i64)) σ F) (hl : xs.length ≤ 1000000000) (v : Int) {R : Bool → Hp → Prop} (hR : R (xs.contains v) σ) : slices_Contains_int_int.call s v σ R := by
  refine slices_Contains_int_int.of_vc ?_
  unfold slices_Contains_int_int.vc
  refine slices_Index_int_int.of_vc ?_
  unfold slices_Index_int_int.vc
  have hlen : s.len = xs.length := by have := h.1; simp at this; omega
  refine loop1 (a := .i .i64) (fun (t : Int) h' => ∃ i : Nat, t = (i : Int) ∧ i ≤ xs.length ∧ h' = σ ∧ ∀ j, j < i → xs[j]? ≠ some v) (fun t _ => xs.length - t.toNat) ⟨0, rfl, by omega, rfl, fun j hj => by omega⟩ ?_
  rintro t h' ⟨i, rfl, hi, rfl, hno⟩
  refine ifD (fun hlt => ?_) fun hge => ?_
  · have hi' : i < xs.length := by omega
    have hx : xs[i]? = some xs[i] := List.getElem?_eq_getElem hi'
    refine h.ixI hx (iff_ (fun he => ?_) fun he => ?_)
    · have e : v = xs[i] := by simpa using he
      have : xs.contains v = true := by rw [e]; simp
      rw [this] at hR
      show R (decide ((i : Int) ≥ 0)) _
      rw [decide_eq_true (by omega)]; exact hR
    · have he' : ¬ v = xs[i] := by simpa using he
      refine arN (m := i + 1) (by omega) (by omega) ⟨⟨i + 1, rfl, by omega, rfl, fun j hj => ?_⟩, by omega⟩
      by_cases e : j = i
      · subst e; rw [hx]; intro e2; cases e2; exact he' rfl
      · exact hno j (by omega)
  · have : xs.contains v = false := by
      simp only [List.contains_eq_mem, decide_eq_false_iff_not]
      intro hm
      obtain ⟨j, hj⟩ := List.getElem?_of_mem hm
      have := (List.getElem?_eq_some_iff.1 hj).1
      exact hno j (by omega) hj
    rw [this] at hR
    exact hR
/-- A function value on whole numbers that answers `p`, and changes nothing old. -/
def PredN (f : Fv) (p : Nat → Bool) (σ : Hp) : Prop := ∀ (x : Nat) (σ' : Hp) (R : Bool → Hp → Prop), Ext0 σ σ' → (∀ σ'', Ext0 σ' σ'' → R (p x) σ'') → CallF Tryz.prog f [.int .i64 (x : Int)] [.one .b] σ' R
theorem containsFunc_ok {s : Sl} {xs : List Nat} (h : SlR s 1 (ints xs) σ F) (hl : xs.length ≤ 1000000) {f : Fv} {pr : Nat → Bool} (hf : PredN f pr σ) {R : Bool → Hp → Prop} (hR : ∀ σ', Ext0 σ σ' → R (xs.any pr) σ') :
    slices_ContainsFunc_int_int.call s f σ R := by
  refine slices_ContainsFunc_int_int.of_vc ?_
  unfold slices_ContainsFunc_int_int.vc
  refine slices_IndexFunc_int_int.of_vc ?_
  unfold slices_IndexFunc_int_int.vc
  have hlen := h.lenN
  refine loop1 (a := .i .i64) (fun (t : Int) h' => ∃ i : Nat, t = (i : Int) ∧ i ≤ xs.length ∧ Ext0 σ h' ∧ ∀ j x, j < i → xs[j]? = some x → pr x = false) (fun t _ => xs.length - t.toNat) ⟨0, rfl, by omega, Ext.refl _ _, fun j x hj => by omega⟩ ?_
  rintro t h' ⟨i, rfl, hi, e, hno⟩
  refine ifD (fun hlt => ?_) fun hge => ?_
  · have hi' : i < xs.length := by omega
    have hx : xs[i]? = some xs[i] := List.getElem?_eq_getElem hi'
    refine ((SlR.loc _ _ _).keep0 h e).ixN hx (hf _ _ _ e fun h2 e2 => ?_)
    cases hp : pr xs[i]
    · refine ifF rfl (arN (m := i + 1) (by omega) (by omega) ⟨⟨i + 1, rfl, by omega, e.trans e2, fun j x hj hx' => ?_⟩, by omega⟩)
      by_cases e3 : j = i
      · subst e3; rw [hx] at hx'; cases hx'; exact hp
      · exact hno j x (by omega) hx'
    · refine ifT rfl ?_
      have : xs.any pr = true := List.any_eq_true.2 ⟨_, List.getElem_mem hi', hp⟩
      show R (decide ((i : Int) ≥ 0)) _
      rw [decide_eq_true (by omega), ← this]
      exact hR _ (e.trans e2)
  · have : xs.any pr = false := by
      rw [List.any_eq_false]
      intro x hx
      obtain ⟨j, hj⟩ := List.getElem?_of_mem hx
      have := (List.getElem?_eq_some_iff.1 hj).1
      simp [hno j x (by omega) hj]
    show R (decide ((-1 : Int) ≥ 0)) _
    rw [show decide ((-1 : Int) ≥ 0) = false from rfl, ← this]
    exact hR _ e

/-! ## Turns -/
theorem TRemove_ok (h : TrH σ p q st) (k : Int) {R : Int → Hp → Prop} (hR : ∀ σ', Ext (· = q) σ σ' → TrH σ' p q (remT st k) → R (remE st k) σ') : huge_Tracker_Remove.call (some ⟨p, 0, none⟩) k σ R := by
  refine huge_Tracker_Remove.of_vc ?_
  unfold huge_Tracker_Remove.vc
  refine huge_ok h k (fun x c hk hx => ?_) fun hk => ?_
  · subst hk
    have hok := hugeOk_nat hx
    refine ifF rfl (idle_ok h hx ?_)
    cases hi : idleT st x
    · have e0 : remE st (x : Int) = 5 := by simp [remE, hok, hi]
      have e2 : remT st (x : Int) = st := by simp [remT, e0]
      have := hR σ (Ext.refl _ _)
      rw [e0, e2] at this
      exact ifT rfl (this h)
    · have e0 : remE st (x : Int) = 0 := by simp [remE, hok, hi]
      have e2 : remT st (x : Int) = setR st (16 * x) (16 * x + 16) 0 := by simp [remT, e0]
      refine ifF rfl (h.fill_ok hx 0 fun σ' e h' => ?_)
      have := hR σ' e
      rw [e0, e2] at this
      exact this h'
  · have e0 : remE st k = 1 := by simp [remE, hk]
    have e2 : remT st k = st := by simp [remT, e0]
    refine ifT rfl ?_
    have := hR σ (Ext.refl _ _)
    rw [e0, e2] at this
    exact this h

theorem turn1_ok {c : Nat} {s : Sl} {fr : List Nat} {σ0 : Hp} (hb : Blk σ0 c [.slice s.a s.len s.cap]) (hs : SlR s 1 (ints fr) σ0 F) (hl : fr.length ≤ 1000) : PredN ⟨218, #[], #[.pointer (some ⟨c, 0, none⟩)]⟩ (fun x => !fr.contains x) σ0 := by
  intro x σ' R e hR
  refine callF (all := #[.int .i64 (x : Int), .pointer (some ⟨c, 0, none⟩)]) (by kernel_rfl) (by simp) ?_
  refine huge_Tracker_turn_L1.of_vc ?_
  unfold huge_Tracker_turn_L1.vc
  refine (e.blk hb id).rS0 rfl ?_
  exact contains_ok ((SlR.loc _ _ _).keep0 hs e) (by omega) x (hR _ (Ext.refl _ _))

theorem turn_ok (h : TrH σ p q st) (a m : Int) (v : Nat) {s : Sl} {fr : List Nat} (hs : SlR s 1 (ints fr) σ F) (hl : fr.length ≤ 1000) {R : Int → Hp → Prop} (hR : ∀ σ', Ext (· = q) σ σ' → TrH σ' p q (turnT st a m v fr) → R (turnE st a m fr) σ') :
    huge_Tracker_turn.call (some ⟨p, 0, none⟩) a m v s σ R := by
  refine huge_Tracker_turn.of_vc ?_
  unfold huge_Tracker_turn.vc
  have n2 := h.n2
  have hq := h.lt.2
  refine nw (cs := [.slice s.a s.len s.cap]) fun v1 hz e0 hb => ?_
  have h1 := h.keep0 e0
  have bad : ¬ (0 ≤ a ∧ 1 ≤ m ∧ m ≤ st.length - a) → R 1 v1 := fun hn => by
    have hok : runOk st.length a m = false := by simp only [runOk, ← Bool.decide_and]; exact decide_eq_false hn
    have e1 : turnE st a m fr = 1 := by simp [turnE, hok]
    have e2 : turnT st a m v fr = st := by simp [turnT, e1]
    have := hR v1 e0.to
    rw [e1, e2] at this
    exact this h1
  refine tmade_ok h1 (ifF rfl (JnB.intro ?_))
  refine ifD (fun c1 => JnB.intro (ifT rfl (JnB.intro (ifT rfl (ifT rfl (bad (by omega))))))) fun c1 => ?_
  refine JnB.intro (ifD (fun c2 => JnB.intro (ifT rfl (ifT rfl (bad (by omega))))) fun c2 => ?_)
  refine nilP (h1.rS fun cap hc => JnB.intro (ifD (fun c3 => ifT rfl (bad (by simp only at *; omega))) fun c3 => ?_))
  simp only at c3
  refine nilP (h1.rS fun cap hc => ar (by simp only; omega) (by simp only; omega) (ifD (fun c4 => bad (by simp only at *; omega)) fun c4 => ?_))
  simp only at c4
  obtain ⟨x, rfl⟩ := Int.eq_ofNat_of_zero_le (show 0 ≤ a by omega)
  obtain ⟨y, rfl⟩ := Int.eq_ofNat_of_zero_le (show 0 ≤ m by omega)
  have hxy : x + y ≤ st.length := by omega
  have hok : runOk st.length (x : Int) (y : Int) = true := by simp only [runOk, Bool.and_eq_true, decide_eq_true_eq]; omega
  refine nilP (h1.rS fun cap hc => arN (m := x + y) (by omega) (by omega) (slc (by omega) (by simp only; omega) (by simp only; omega) ?_))
  rw [if_neg (by simp only; omega)]
  simp only [Option.map_some, add_lit, Nat.mul_one, Nat.zero_add]
  have ey : x + y - x = y := by omega
  rw [ey]
  have hp := h1.part (s := ⟨some ⟨q, x, none⟩, y, cap - x⟩) (n := y) rfl rfl hxy
  refine containsFunc_ok hp (by simp; omega) (turn1_ok (s := s) hb ((SlR.loc _ _ _).keep0 hs e0) hl) fun v2 e2 => ?_
  have h2 := h1.keep0 e2
  have hall : ((st.drop x).take y).any (fun z => !fr.contains z) = !allIn st x y fr := by
    rw [allIn, List.all_eq_not_any_not, Bool.not_not]
  rw [hall]
  cases hA : allIn st x y fr
  · have e1 : turnE st (x : Int) (y : Int) fr = 5 := by simp [turnE, hok, hA]
    have e3 : turnT st (x : Int) (y : Int) v fr = st := by simp [turnT, e1]
    have := hR v2 (e0.to.trans e2.to)
    rw [e1, e3] at this
    exact ifT rfl (this h2)
  · have e1 : turnE st (x : Int) (y : Int) fr = 0 := by simp [turnE, hok, hA]
    have e3 : turnT st (x : Int) (y : Int) v fr = setR st x (x + y) v := by simp [turnT, e1]
    refine ifF rfl (h2.fill_ok hxy v fun v3 e4 h3 => ?_)
    have := hR v3 (e0.to.trans (e2.to.trans e4))
    rw [e1, e3] at this
    exact this h3

/-- A list that is written out. -/
theorem lit_slR {h : Hp} {b : Nat} {xs : List Nat} {n c : Nat} (hb : Blk h b (ints xs)) (hn : n = xs.length) : SlR ⟨some ⟨b, 0, none⟩, n, c⟩ 1 (ints xs) h (· = b) :=
  hb.slR (o := 0) rfl (by rw [ints_len]; simp [hn]) fun j _ => by rw [Nat.zero_add]

theorem Use_ok (h : TrH σ p q st) (a m : Int) {R : Int → Hp → Prop} (hR : ∀ σ', Ext (· = q) σ σ' → TrH σ' p q (turnT st a m 1 [2, 3]) → R (turnE st a m [2, 3]) σ') : huge_Tracker_Use.call (some ⟨p, 0, none⟩) a m σ R := by
  refine huge_Tracker_Use.of_vc ?_
  unfold huge_Tracker_Use.vc
  refine nw (cs := ints [2, 3]) fun v hz e hb => ?_
  exact turn_ok (h.keep0 e) a m 1 (lit_slR hb rfl) (by simp) fun σ' e' h' => hR σ' (e.to.trans e') h'
theorem Unuse_ok (h : TrH σ p q st) (a m : Int) {R : Int → Hp → Prop} (hR : ∀ σ', Ext (· = q) σ σ' → TrH σ' p q (turnT st a m 2 [1]) → R (turnE st a m [1]) σ') : huge_Tracker_Unuse.call (some ⟨p, 0, none⟩) a m σ R := by
  refine huge_Tracker_Unuse.of_vc ?_
  unfold huge_Tracker_Unuse.vc
  refine nw (cs := ints [1]) fun v hz e hb => ?_
  exact turn_ok (h.keep0 e) a m 2 (lit_slR hb rfl) (by simp) fun σ' e' h' => hR σ' (e.to.trans e') h'
/-- The state of a page (any whole number). -/
def stI (st : List Nat) (x : Int) : Int := if 0 ≤ x ∧ x < st.length then ((st.getD x.toNat 0 : Nat) : Int) else -1
theorem TState_ok (h : TrH σ p q st) (x : Int) {R : Int → Hp → Prop} (hR : R (stI st x) σ) : huge_Tracker_State.call (some ⟨p, 0, none⟩) x σ R := by
  refine huge_Tracker_State.of_vc ?_
  unfold huge_Tracker_State.vc
  have n2 := h.n2
  unfold stI at hR
  refine tmade_ok h (JnB.intro (ifF rfl (JnB.intro (ifD (fun c1 => ifT rfl ?_) fun c1 => nilP (h.rS fun cap hc => ifD (fun c2 => ?_) fun c2 => ?_)))))
  · rw [if_neg (by omega)] at hR; exact hR
  · simp only at c2
    rw [if_neg (by omega)] at hR; exact hR
  · simp only at c2
    rw [if_pos (by omega)] at hR
    obtain ⟨y, rfl⟩ := Int.eq_ofNat_of_zero_le (show 0 ≤ x by omega)
    refine nilP (h.rS fun cap hc => ?_)
    have hp := h.part (s := ⟨some ⟨q, 0, none⟩, st.length, cap⟩) (a := 0) (n := st.length) rfl rfl (by omega)
    rw [List.drop_zero, List.take_length] at hp
    have hy : y < st.length := by omega
    refine hp.ixN (List.getElem?_eq_getElem hy) ?_
    simpa [List.getD_eq_getElem?_getD, List.getElem?_eq_getElem hy] using hR

end Go.Ar

-- HuC
namespace Go.Ar
open Go Go.Vc Go.Proofs
open Go.Bu (runOk)
set_option linter.unusedSimpArgs false
set_option linter.unusedVariables false

variable {σ : Hp} {F : Rg} {p q : Nat} {st : List Nat}

theorem cloneV_ok {s : Sl} {vs : List Value} (h : SlR s 1 vs σ F) (h1 : ∀ v ∈ vs, one1 v = true) (hl : s.len ≤ 1000000) {R : Sl → Hp → Prop}
    (hR : ∀ s' σ', s'.len = s.len → Ext0 σ σ' → RowR s' 1 vs σ' (fun b => σ.size ≤ b) → R s' σ') : slices_Clone_int_int.call s σ R := by
  refine slices_Clone_int_int.of_vc ?_
  unfold slices_Clone_int_int.vc
  exact clone_vc h (by decide) rfl h1 (by decide) hl hR

theorem range_filter_succ (n : Nat) (P : Nat → Bool) : (List.range (n + 1)).filter P = (List.range n).filter P ++ (if P n then [n] else []) := by
  rw [List.range_succ, List.filter_append]
  congr 1
  cases h : P n <;> simp [h]

theorem those_ok (h : TrH σ p q st) (k : Nat) {R : Sl → Hp → Prop} (hR : ∀ s σ', Ext0 σ σ' → RowR s 1 (ints (those st k)) σ' (fun b => σ.size ≤ b) → R s σ') : huge_Tracker_those.call (some ⟨p, 0, none⟩) (k : Int) σ R := by
  refine huge_Tracker_those.of_vc ?_
  unfold huge_Tracker_those.vc
  have n2 := h.n2
  refine tmade_ok h (ifF rfl (all_ok h ?_))
  refine loop2 (a := .s) (bb := .i .i64) (fun (out : Sl) (t : Int) h' => ∃ i : Nat, t = (i : Int) ∧ i ≤ st.length / 16 ∧ Ext0 σ h' ∧ RowR out 1 (ints ((List.range i).filter fun h => st.getD (16 * h) 0 != 0 && kindT st h == k)) h' (fun b => σ.size ≤ b))
    (fun _ t _ => st.length / 16 - t.toNat) ⟨0, rfl, by omega, Ext.refl _ _, RowR.nil _ _ _ _⟩ ?_
  rintro out t h' ⟨i, rfl, hi, e, hrow⟩
  have hT := h.keep0 e
  refine ifD (fun hlt => ?_) fun hge => ?_
  · have hx : 16 * i + 16 ≤ st.length := by omega
    refine of_ok hT hx fun c => hT.first (c := c) hx (JnB.intro ?_)
    have hlen := hrow.lenN
    have hle : ((List.range i).filter fun h => st.getD (16 * h) 0 != 0 && kindT st h == k).length ≤ i := Nat.le_trans (List.length_filter_le _ _) (by simp)
    have next : ∀ (r : Bool), r = (st.getD (16 * i) 0 != 0 && kindT st i == k) → If r
        (Nw (.cells #[.int .i64 (i : Int)] 3 (0, 0)) h' fun n31 v5 => App out 1 8 3 [.int .i64 0] ⟨(some n31), 1, 1⟩ v5 fun out1 v6 => Ar .i64 ((i : Int) + 1) fun t33 =>
          (∃ j : Nat, t33 = (j : Int) ∧ j ≤ st.length / 16 ∧ Ext0 σ v6 ∧ RowR out1 1 (ints ((List.range j).filter fun h => st.getD (16 * h) 0 != 0 && kindT st h == k)) v6 (fun b => σ.size ≤ b)) ∧ st.length / 16 - t33.toNat < st.length / 16 - (i : Int).toNat)
        (Ar .i64 ((i : Int) + 1) fun t33 => (∃ j : Nat, t33 = (j : Int) ∧ j ≤ st.length / 16 ∧ Ext0 σ h' ∧ RowR out 1 (ints ((List.range j).filter fun h => st.getD (16 * h) 0 != 0 && kindT st h == k)) h' (fun b => σ.size ≤ b)) ∧ st.length / 16 - t33.toNat < st.length / 16 - (i : Int).toNat) := by
      intro r hr
      have hf := range_filter_succ i fun h => st.getD (16 * h) 0 != 0 && kindT st h == k
      rw [← hr] at hf
      cases r
      · refine ifF rfl (arN (m := i + 1) (by omega) (by omega) ⟨⟨i + 1, rfl, by omega, e, ?_⟩, by omega⟩)
        rw [hf]; simpa using hrow
      · refine ifT rfl (hrow.push (vs := [.int .i64 (i : Int)]) (fun b hb => Nat.le_trans e.1 hb) rfl rfl (by simp [one1]) (by omega) (by omega) fun s' v6 hl' e' ho' => ?_)
        refine arN (m := i + 1) (by omega) (by omega) ⟨⟨i + 1, rfl, by omega, Ext.fresh e e' fun _ h => h, ?_⟩, by omega⟩
        rw [hf, ints_append]; exact ho'
    rw [bneN0]
    cases e1 : (st.getD (16 * i) 0 != 0)
    · exact ifF rfl (next false (by rw [e1]; rfl))
    · refine ifT rfl (kind_ok hT hx ?_)
      rw [beqN]
      exact next _ (by rw [e1]; rfl)
  · have : i = st.length / 16 := by omega
    subst this
    exact hR _ _ e hrow

theorem TIdle_ok (h : TrH σ p q st) {R : Sl → Hp → Prop} (hR : ∀ s σ', Ext0 σ σ' → RowR s 1 (ints (those st 0)) σ' (fun b => σ.size ≤ b) → R s σ') : huge_Tracker_Idle.call (some ⟨p, 0, none⟩) σ R := by
  refine huge_Tracker_Idle.of_vc ?_
  unfold huge_Tracker_Idle.vc
  exact those_ok h 0 hR

theorem TNew_ok {n : Nat} (h1 : 16 ≤ n) (h2 : n ≤ 1024) (h3 : n % 16 = 0) {R : Option Addr → Int → Hp → Prop} (hR : ∀ σ' p q, Ext0 σ σ' → σ.size ≤ p → σ.size ≤ q → TrH σ' p q (List.replicate n 0) → R (some ⟨p, 0, none⟩) 0 σ') : huge_New.call (n : Int) σ R := by
  refine huge_New.of_vc ?_
  unfold huge_New.vc
  refine JnB.intro (ifDF (by omega) (JnB.intro (ifDF (by omega) (nz (by decide) ?_))))
  rw [tmod_nn (by omega)]
  have : (((n : Int) % 16) != 0) = false := by
    have : ((n : Int) % 16) = 0 := by omega
    rw [this]; rfl
  rw [this]
  refine ifF rfl (mk (by omega) (by omega) fun v hz e hb => nw (cs := [.slice (some ⟨σ.size, 0, none⟩) n n]) fun v2 hz2 e2 hb2 => ?_)
  have hf : (List.replicate n [Value.int .i64 0]).flatten = ints (List.replicate n 0) := by
    have : [Value.int .i64 0] = ints [0] := rfl
    rw [this]
    clear hb hR
    induction n with
    | zero => rfl
    | succ n ih => simp [List.replicate_succ, ints]
  rw [hf] at hb
  refine hR _ _ _ (e.trans e2) (by omega) (Nat.le_refl _) ⟨⟨n, by simp, by simpa using hb2⟩, ⟨[], by simpa using e2.blk hb id⟩, by omega, by simpa using h1, by simpa using h2, by simpa using h3⟩

theorem TClone_ok (h : TrH σ p q st) {R : Option Addr → Hp → Prop} (hR : ∀ σ' p' q', Ext0 σ σ' → σ.size ≤ p' → σ.size ≤ q' → TrH σ' p' q' st → R (some ⟨p', 0, none⟩) σ') : huge_Tracker_Clone.call (some ⟨p, 0, none⟩) σ R := by
  refine huge_Tracker_Clone.of_vc ?_
  unfold huge_Tracker_Clone.vc
  have n1 := h.n1
  have n2 := h.n2
  refine tmade_ok h (ifF rfl (nilP (h.rS fun cap hc => ?_)))
  have hp := h.part (s := ⟨some ⟨q, 0, none⟩, st.length, cap⟩) (a := 0) (n := st.length) rfl rfl (by omega)
  rw [List.drop_zero, List.take_length] at hp
  refine cloneV_ok hp one1_ints (by simp only; omega) fun s' v1 hl e hrow => nw (cs := [.slice s'.a s'.len s'.cap]) fun v2 hz2 e2 hb2 => ?_
  rcases hrow.2 with ⟨h0, _⟩ | ⟨b, cs, hq, ha, hb, hle, hcl, ht⟩
  · simp only at hl; omega
  · have hbl := hb.lt
    refine hR _ _ b (e.trans e2) e.1 hq ⟨⟨s'.cap, ?_, ?_⟩, ⟨cs.drop (ints st).length, ?_⟩, by omega, h.n1, h.n2, h.n3⟩
    · simp only at hl; omega
    · rw [ha] at hb2; simp only at hl; rw [hl] at hb2; exact hb2
    · have : ints st ++ cs.drop (ints st).length = cs := by
        conv => lhs; lhs; rw [← ht]
        exact List.take_append_drop _ _
      rw [this]
      exact e2.blk hb id

end Go.Ar

-- Gspan
namespace Go.Proofs
open Go.Vc
set_option linter.unusedVariables false
set_option maxRecDepth 100000
def span_Span_Run.hint : Hn := .seq (.o 1) (.seq (.seq (.o 3) (.cond (.seq (.o 2) (.leaf)) (.leaf))) (.seq (.reg (.tail 10 [.op, .op, .op, .op, .op, .op, .op, .op, .op, .op] [.op])) (.leaf)))
def span_Span_Run.vc (s : Option Addr) (σ : Hp) (R : Int → Int → Hp → Prop) : Prop :=
 Nw (.cells #[.int .i64 0, .int .i64 0] 123 (0, 0)) σ fun n2 v =>
 span_Span_made.call s v fun t4 v1 =>
 If (!t4) (St1 (n2.add 0) (.int .i64 0) v1 fun v2 =>
  St1 (n2.add 1) (.int .i64 0) v2 fun v3 =>
  LdI .i64 (n2.add 0) v3 fun res =>
  LdI .i64 (n2.add 1) v3 fun res1 =>
  R res res1 v3)
  (NilP s fun a8 =>
  LdI .i64 (a8.add 0) v1 fun t10 =>
  NilP s fun a12 =>
  LdI .i64 ((a12.add 1).add 1) v1 fun t15 =>
  St1 (n2.add 0) (.int .i64 t10) v1 fun v4 =>
  St1 (n2.add 1) (.int .i64 t15) v4 fun v5 =>
  LdI .i64 (n2.add 0) v5 fun res2 =>
  LdI .i64 (n2.add 1) v5 fun res3 =>
  R res2 res3 v5)
theorem span_Span_Run.of_vc {s : Option Addr} {σ : Hp} {R : Int → Int → Hp → Prop} (hv : span_Span_Run.vc s σ R) : span_Span_Run.call s σ R :=
 fnK_sound Tryz.func136 (x := span_Span_Run.hint) (args := [.pointer s]) (rs := [.agg [(.i .i64), (.i .i64)]]) (R := R) (Eq.mpr (by kernel_rfl) hv)
def span_Span_Objects.hint : Hn := .seq (.o 1) (.seq (.seq (.o 3) (.cond (.seq (.o 1) (.leaf)) (.leaf))) (.seq (.o 6) (.leaf)))
def span_Span_Objects.vc (s : Option Addr) (σ : Hp) (R : Int → Hp → Prop) : Prop :=
 span_Span_made.call s σ fun t4 v =>
 If (!t4) (R 0 v)
  (NilP s fun a7 =>
  LdS (a7.add 4) v fun t9 =>
  R ((t9.len : Nat) : Int) v)
theorem span_Span_Objects.of_vc {s : Option Addr} {σ : Hp} {R : Int → Hp → Prop} (hv : span_Span_Objects.vc s σ R) : span_Span_Objects.call s σ R :=
 fnK_sound Tryz.func139 (x := span_Span_Objects.hint) (args := [.pointer s]) (rs := [.one (.i .i64)]) (R := R) (Eq.mpr (by kernel_rfl) hv)
def span_Span_IsTaken.hint : Hn := .seq (.o 2) (.seq (.o 8) (.seq (.seq (.o 2) (.cond (.seq (.o 3) (.leaf)) (.leaf))) (.seq (.o 10) (.leaf))))
def span_Span_IsTaken.vc (s : Option Addr) (addr : Int) (σ : Hp) (R : Bool → Int → Hp → Prop) : Prop :=
 span_Span_object.call s addr σ fun t11 t111 v =>
 If (t111 != 0) (R false t111 v)
  (NilP s fun a18 =>
  LdS (a18.add 4) v fun t20 =>
  Ix t20.a t20.len t11 1 fun a22 =>
  LdI .i64 a22 v fun t23 =>
  R (t23 == 1) 0 v)
theorem span_Span_IsTaken.of_vc {s : Option Addr} {addr : Int} {σ : Hp} {R : Bool → Int → Hp → Prop} (hv : span_Span_IsTaken.vc s addr σ R) : span_Span_IsTaken.call s addr σ R :=
 fnK_sound Tryz.func142 (x := span_Span_IsTaken.hint) (args := [.pointer s, .int .i64 addr]) (rs := [.one .b, .one (.i .i64)]) (R := R) (Eq.mpr (by kernel_rfl) hv)
def span_Span_Index.hint : Hn := .seq (.o 2) (.seq (.seq (.o 3) (.cond (.seq (.o 2) (.leaf)) (.leaf))) (.seq (.o 5) (.seq (.seq (.reg (.heldJ false [] [(32, .one .b)] (.take 0 (.take 1 (.all [(2, .take 3 (.take 4 (.split 18 (.take 5 (.take 6 (.take 7 (.take 8 (.take 9 (.take 10 (.take 11 (.take 12 (.take 13 (.take 14 (.take 15 (.take 16 (.take 17 (.take 18 (.done))))))))))))))) (.take 5 (.take 6 (.take 7 (.take 8 (.take 11 (.take 12 (.take 13 (.take 14 (.all [(9, .take 10 (.all [(15, .take 16 (.take 17 (.take 18 (.done))))])), (15, .all [(9, .take 10 (.take 16 (.take 17 (.take 18 (.done)))))])]))))))))))))]))))) (.cond (.seq (.o 2) (.leaf)) (.leaf))) (.seq (.o 9) (.leaf)))))
def span_Span_Index.vc (s : Option Addr) (addr : Int) (σ : Hp) (R : Int → Int → Hp → Prop) : Prop :=
 span_Span_made.call s σ fun t8 v =>
 If (!t8) (R 0 5 v)
  (span_Span_addr.call s 0 v fun t12 v1 =>
  Ar .i64 (addr - t12) fun vat =>
  Jn [.b] (fun (t32 : Bool) v2 =>
   If t32 (R 0 8 v2)
    (NilP s fun a35 =>
    LdI .i64 ((a35.add 1).add 0) v2 fun t38 =>
    Nz t38 <| Ar .i64 (vat.tdiv t38) fun t39 =>
    R t39 0 v2)) fun J =>
  span_Span_addr.call s 0 v1 fun t16 v3 =>
  If (decide (addr < t16)) (J true v3)
   (NilP s fun a21 =>
   NilP s fun a26 =>
    (LdS (a21.add 4) v3 fun t23 =>
    LdI .i64 ((a26.add 1).add 0) v3 fun t29 =>
    Ar .i64 (((t23.len : Nat) : Int) * t29) fun t30 =>
    J (decide (vat ≥ t30)) v3) ∧
    (LdI .i64 ((a26.add 1).add 0) v3 fun t291 =>
    LdS (a21.add 4) v3 fun t231 =>
    Ar .i64 (((t231.len : Nat) : Int) * t291) fun t301 =>
    J (decide (vat ≥ t301)) v3)))
theorem span_Span_Index.of_vc {s : Option Addr} {addr : Int} {σ : Hp} {R : Int → Int → Hp → Prop} (hv : span_Span_Index.vc s addr σ R) : span_Span_Index.call s addr σ R :=
 fnK_sound Tryz.func165 (x := span_Span_Index.hint) (args := [.pointer s, .int .i64 addr]) (rs := [.one (.i .i64), .one (.i .i64)]) (R := R) (Eq.mpr (by kernel_rfl) hv)
def span_Span_Clone.hint : Hn := .seq (.o 1) (.seq (.seq (.o 3) (.cond (.seq (.o 1) (.leaf)) (.leaf))) (.seq (.o 5) (.seq (.o 7) (.seq (.o 1) (.leaf)))))
def span_Span_Clone.vc (s : Option Addr) (σ : Hp) (R : Option Addr → Hp → Prop) : Prop :=
 span_Span_made.call s σ fun t5 v =>
 If (!t5) (R none v)
  (NilP s fun a8 =>
  LdI .i64 (a8.add 0) v fun t9 =>
  LdI .i64 (a8.add 1) v fun t91 =>
  LdI .i64 (a8.add 2) v fun t92 =>
  LdI .i64 (a8.add 3) v fun t93 =>
  LdS (a8.add 4) v fun t94 =>
  LdI .i64 (a8.add 5) v fun t95 =>
  Nw (.cells #[.int .i64 0, .int .i64 0, .int .i64 0, .int .i64 0, .slice none 0 0, .int .i64 0] 229 (0, 0)) v fun n3 v1 =>
  St1 (n3.add 0) (.int .i64 t9) v1 fun v2 =>
  St1 (n3.add 1) (.int .i64 t91) v2 fun v3 =>
  St1 (n3.add 2) (.int .i64 t92) v3 fun v4 =>
  St1 (n3.add 3) (.int .i64 t93) v4 fun v5 =>
  St1 (n3.add 4) (.slice t94.a t94.len t94.cap) v5 fun v6 =>
  St1 (n3.add 5) (.int .i64 t95) v6 fun v7 =>
  NilP s fun a11 =>
  LdS (a11.add 4) v7 fun t13 =>
  slices_Clone_int_int.call t13 v7 fun t14 v8 =>
  St1 (n3.add 4) (.slice t14.a t14.len t14.cap) v8 fun v9 =>
  R (some n3) v9)
theorem span_Span_Clone.of_vc {s : Option Addr} {σ : Hp} {R : Option Addr → Hp → Prop} (hv : span_Span_Clone.vc s σ R) : span_Span_Clone.call s σ R :=
 fnK_sound Tryz.func196 (x := span_Span_Clone.hint) (args := [.pointer s]) (rs := [.one .p]) (R := R) (Eq.mpr (by kernel_rfl) hv)
def span_New.hint : Hn := .seq (.o 3) (.seq (.o 7) (.seq (.seq (.reg (.seq [.op, .op, .op, .grd false 2 [.op, .op], .op, .grd false 5 [.op, .op, .op, .op, .op]])) (.cond (.seq (.o 2) (.leaf)) (.leaf))) (.seq (.reg (.held true [] (.take 0 (.take 1 (.take 2 (.all [(3, .take 4 (.all [(5, .take 6 (.take 7 (.done)))]))])))))) (.leaf))))
def span_New.vc (start : Int) (vclass : Int) (vclass1 : Int) (vclass2 : Int) (σ : Hp) (R : Option Addr → Int → Hp → Prop) : Prop :=
 Nw (.cells #[.int .i64 vclass, .int .i64 vclass1, .int .i64 vclass2] 51 (0, 0)) σ fun n3 v =>
 LdI .i64 (n3.add 0) v fun t9 =>
 LdI .i64 (n3.add 1) v fun t91 =>
 LdI .i64 (n3.add 2) v fun t92 =>
 sizes_Objects.call t9 t91 t92 v fun t10 t101 v1 =>
 JnB (fun r v2 =>
  JnB (fun r1 v3 =>
   If r1 (R none 1 v3)
    (Held v3 fun S =>
    LdH S (.i .i64) (n3.add 0) fun (t27 : Int) =>
    LdH S (.i .i64) (n3.add 1) fun (t271 : Int) =>
    LdH S (.i .i64) (n3.add 2) fun (t272 : Int) =>
    Mk t10 t10 8 3 [.int .i64 0] v3 fun t29 v4 =>
    And (S v4) <|
    Nw (.cells #[.int .i64 start, .int .i64 t27, .int .i64 t271, .int .i64 t272, .slice t29.a t29.len t29.cap, .int .i64 0] 229 (0, 0)) v4 fun n31 v5 =>
    And (S v5) <|
    R (some n31) 0 v5)) fun J1 =>
  If r (J1 true v2)
   (LdI .i64 (n3.add 1) v2 fun t22 =>
   Ar .i64 (1024 - t22) fun t23 =>
   J1 (decide (start > t23)) v2)) fun J =>
 If (t101 != 0) (J true v1)
  (J (decide (start < 0)) v1)
theorem span_New.of_vc {start : Int} {vclass : Int} {vclass1 : Int} {vclass2 : Int} {σ : Hp} {R : Option Addr → Int → Hp → Prop} (hv : span_New.vc start vclass vclass1 vclass2 σ R) : span_New.call start vclass vclass1 vclass2 σ R :=
 fnK_sound Tryz.func203 (x := span_New.hint) (args := [.int .i64 start, .agg #[.int .i64 vclass, .int .i64 vclass1, .int .i64 vclass2]]) (rs := [.one .p, .one (.i .i64)]) (R := R) (Eq.mpr (by kernel_rfl) hv)
def span_Span_Put.hint : Hn := .seq (.o 1) (.seq (.o 8) (.seq (.block (.seq (.o 3) (.cond (.seq (.o 2) (.leaf)) (.seq (.o 9) (.cond (.seq (.o 1) (.leaf)) (.leaf)))))) (.seq (.o 4) (.seq (.o 1) (.leaf)))))
def span_Span_Put.vc (s : Option Addr) (addr : Int) (σ : Hp) (R : Int → Hp → Prop) : Prop :=
 span_Span_object.call s addr σ fun t10 t101 v =>
 If (t101 != 0) (R t101 v)
  (NilP s fun a19 =>
  LdS (a19.add 4) v fun t21 =>
  Ix t21.a t21.len t10 1 fun a23 =>
  LdI .i64 a23 v fun t24 =>
  If (t24 == 0) (R 9 v)
   (Nw (.cells #[.int .i64 t10] 3 (0, 0)) v fun n28 v1 =>
   span_Span_mark.call s 0 ⟨(some n28), 1, 1⟩ v1 fun v2 =>
   R 0 v2))
theorem span_Span_Put.of_vc {s : Option Addr} {addr : Int} {σ : Hp} {R : Int → Hp → Prop} (hv : span_Span_Put.vc s addr σ R) : span_Span_Put.call s addr σ R :=
 fnK_sound Tryz.func209 (x := span_Span_Put.hint) (args := [.pointer s, .int .i64 addr]) (rs := [.one (.i .i64)]) (R := R) (Eq.mpr (by kernel_rfl) hv)
def span_Span_made.hint : Hn := .seq (.o 1) (.seq (.reg (.seq [.op, .op, .op, .grd true 6 [.op, .op, .op, .op, .op, .op], .op])) (.leaf))
def span_Span_made.vc (s : Option Addr) (σ : Hp) (R : Bool → Hp → Prop) : Prop :=
 JnB (fun r v =>
  R r v) fun J =>
 If (!s.isNone) (NilP s fun a7 =>
  LdS (a7.add 4) σ fun t9 =>
  J (decide (((t9.len : Nat) : Int) > 0)) σ)
  (J false σ)
theorem span_Span_made.of_vc {s : Option Addr} {σ : Hp} {R : Bool → Hp → Prop} (hv : span_Span_made.vc s σ R) : span_Span_made.call s σ R :=
 fnK_sound Tryz.func210 (x := span_Span_made.hint) (args := [.pointer s]) (rs := [.one .b]) (R := R) (Eq.mpr (by kernel_rfl) hv)
def span_Span_object.hint : Hn := .seq (.o 2) (.seq (.o 8) (.seq (.seq (.reg (.seq [.op, .op, .op, .grd true 5 [.op, .op, .op, .op, .op]])) (.cond (.seq (.o 2) (.leaf)) (.leaf))) (.seq (.o 4) (.leaf))))
def span_Span_object.vc (s : Option Addr) (addr : Int) (σ : Hp) (R : Int → Int → Hp → Prop) : Prop :=
 span_Span_Index.call s addr σ fun t11 t111 v =>
 JnB (fun r v1 =>
  If r (R 0 8 v1)
   (R t11 t111 v1)) fun J =>
 If (t111 == 0) (span_Span_addr.call s t11 v fun t19 v2 =>
  J (t19 != addr) v2)
  (J false v)
theorem span_Span_object.of_vc {s : Option Addr} {addr : Int} {σ : Hp} {R : Int → Int → Hp → Prop} (hv : span_Span_object.vc s addr σ R) : span_Span_object.call s addr σ R :=
 fnK_sound Tryz.func212 (x := span_Span_object.hint) (args := [.pointer s, .int .i64 addr]) (rs := [.one (.i .i64), .one (.i .i64)]) (R := R) (Eq.mpr (by kernel_rfl) hv)
def span_Span_addr.hint : Hn := .seq (.o 1) (.seq (.oq 14) (.leaf))
def span_Span_addr.vc (s : Option Addr) (object : Int) (σ : Hp) (R : Int → Hp → Prop) : Prop :=
 NilP s fun a6 =>
 LdI .i64 (a6.add 0) σ fun t8 =>
 Ar .i64 (t8 * 256) fun t9 =>
 NilP s fun a12 =>
 LdI .i64 ((a12.add 1).add 0) σ fun t15 =>
 Ar .i64 (object * t15) fun t16 =>
 Ar .i64 (t9 + t16) fun t17 =>
 R t17 σ
theorem span_Span_addr.of_vc {s : Option Addr} {object : Int} {σ : Hp} {R : Int → Hp → Prop} (hv : span_Span_addr.vc s object σ R) : span_Span_addr.call s object σ R :=
 fnK_sound Tryz.func222 (x := span_Span_addr.hint) (args := [.pointer s, .int .i64 object]) (rs := [.one (.i .i64)]) (R := R) (Eq.mpr (by kernel_rfl) hv)
def span_Span_Take.hint : Hn := .seq (.o 2) (.seq (.seq (.o 3) (.cond (.seq (.o 2) (.leaf)) (.leaf))) (.seq (.o 6) (.seq (.seq (.o 2) (.cond (.seq (.o 2) (.leaf)) (.leaf))) (.seq (.o 4) (.seq (.o 5) (.leaf))))))
def span_Span_Take.vc (s : Option Addr) (σ : Hp) (R : Int → Int → Hp → Prop) : Prop :=
 span_Span_made.call s σ fun t6 v =>
 If (!t6) (R 0 5 v)
  (NilP s fun a9 =>
  LdS (a9.add 4) v fun t11 =>
  slices_Index_int_int.call t11 0 v fun i v1 =>
  If (decide (i < 0)) (R 0 6 v1)
   (Nw (.cells #[.int .i64 i] 3 (0, 0)) v1 fun n17 v2 =>
   span_Span_mark.call s 1 ⟨(some n17), 1, 1⟩ v2 fun v3 =>
   span_Span_addr.call s i v3 fun t21 v4 =>
   R t21 0 v4))
theorem span_Span_Take.of_vc {s : Option Addr} {σ : Hp} {R : Int → Int → Hp → Prop} (hv : span_Span_Take.vc s σ R) : span_Span_Take.call s σ R :=
 fnK_sound Tryz.func261 (x := span_Span_Take.hint) (args := [.pointer s]) (rs := [.one (.i .i64), .one (.i .i64)]) (R := R) (Eq.mpr (by kernel_rfl) hv)
def span_Span_mark.hint : Hn := .seq (.o 3) (.block (.loop [(10, .one (.i .i64))] (.seq (.o 1) (.seq (.cond (.leaf) (.leaf)) (.seq (.block (.seq (.o 3) (.seq (.reg (.tail 16 [.op, .op, .op, .op, .op, .op, .op, .op, .op, .op, .op, .op, .op, .op, .op, .op] [.op])) (.o 8)))) (.o 2))))))
def span_Span_mark.vc (s : Option Addr) (state : Int) (objects : Sl) (σ : Hp) (R : Hp → Prop) : Prop :=
 LoopK [(.i .i64)] (fun I => I 0 σ) fun J (t10 : Int) v =>
 If (decide (t10 < ((objects.len : Nat) : Int))) (Ix objects.a objects.len t10 1 fun a12 =>
  LdI .i64 a12 v fun i =>
  NilP s fun a15 =>
  LdI .i64 (a15.add 5) v fun t17 =>
  NilP s fun a20 =>
  LdS (a20.add 4) v fun t22 =>
  Ix t22.a t22.len i 1 fun a24 =>
  LdI .i64 a24 v fun t25 =>
  Ar .i64 (state - t25) fun t26 =>
  Ar .i64 (t17 + t26) fun t27 =>
  NilP s fun a28 =>
  St1 (a28.add 5) (.int .i64 t27) v fun v1 =>
  NilP s fun a31 =>
  LdS (a31.add 4) v1 fun t33 =>
  Ix t33.a t33.len i 1 fun a36 =>
  St1 a36 (.int .i64 state) v1 fun v2 =>
  Ar .i64 (t10 + 1) fun t37 =>
  J t37 v2)
  (R v)
theorem span_Span_mark.of_vc {s : Option Addr} {state : Int} {objects : Sl} {σ : Hp} {R : Hp → Prop} (hv : span_Span_mark.vc s state objects σ R) : span_Span_mark.call s state objects σ R :=
 fnK_sound Tryz.func263 (x := span_Span_mark.hint) (args := [.pointer s, .int .i64 state, .slice objects.a objects.len objects.cap]) (rs := []) (R := R) (Eq.mpr (by kernel_rfl) hv)
end Go.Proofs

-- SpA
namespace Go.Ar
open Go Go.Vc Go.Proofs
set_option linter.unusedSimpArgs false
set_option linter.unusedVariables false

variable {σ : Hp} {F : Rg} {p q : Nat} {c : Cls} {s : SpA}

def tkN (tk : List Bool) : List Nat := tk.map fun b => if b then 1 else 0
theorem tkN_len (tk : List Bool) : (tkN tk).length = tk.length := by simp [tkN]
theorem tkN_get {tk : List Bool} {i : Nat} {b : Bool} (h : tk[i]? = some b) : (tkN tk)[i]? = some (if b then 1 else 0) := by simp [tkN, h]
theorem tkN_set (tk : List Bool) (i : Nat) (b : Bool) : tkN (tk.set i b) = (tkN tk).set i (if b then 1 else 0) := by simp [tkN, List.map_set]

structure SpH (σ : Hp) (p q : Nat) (c : Cls) (s : SpA) : Prop where
  hd : ∃ cap, c.n ≤ cap ∧ Blk σ p [.int .i64 (s.st : Int), .int .i64 (c.size : Int), .int .i64 (c.pages : Int), .int .i64 (c.batch : Int), .slice (some ⟨q, 0, none⟩) c.n cap, .int .i64 (s.many : Int)]
  row : ∃ rest, Blk σ q (ints (tkN s.tk) ++ rest)
  ne : p ≠ q
  len : s.tk.length = c.n
  ok : c.ok
  fit : s.st + c.pages ≤ 1024
theorem SpH.keep {σ' : Hp} (h : SpH σ p q c s) (e : Ext F σ σ') (hp : ¬ F p) (hq : ¬ F q) : SpH σ' p q c s :=
  ⟨by obtain ⟨c, h1, h2⟩ := h.hd; exact ⟨c, h1, e.blk h2 hp⟩, by obtain ⟨r, h1⟩ := h.row; exact ⟨r, e.blk h1 hq⟩, h.ne, h.len, h.ok, h.fit⟩
theorem SpH.keep0 {σ' : Hp} (h : SpH σ p q c s) (e : Ext0 σ σ') : SpH σ' p q c s := h.keep e id id
theorem SpH.lt (h : SpH σ p q c s) : p < σ.size ∧ q < σ.size := by
  obtain ⟨_, _, h1⟩ := h.hd; obtain ⟨_, h2⟩ := h.row; exact ⟨h1.lt, h2.lt⟩
theorem SpH.rS (h : SpH σ p q c s) {K : Sl → Prop} (hK : ∀ cap, c.n ≤ cap → K ⟨some ⟨q, 0, none⟩, c.n, cap⟩) : LdS (Addr.add ⟨p, 0, none⟩ 4) σ K := by
  obtain ⟨cp, h1, h2⟩ := h.hd
  exact h2.rS rfl (hK cp h1)
theorem SpH.rI (h : SpH σ p q c s) {i : Nat} {x : Int} (hx : ∀ a b : Value, ([.int .i64 (s.st : Int), .int .i64 (c.size : Int), .int .i64 (c.pages : Int), .int .i64 (c.batch : Int), a, .int .i64 (s.many : Int)] : List Value)[0 + i]? = some (.int .i64 x)) {K : Int → Prop} (hK : K x) : LdI .i64 (Addr.add ⟨p, 0, none⟩ i) σ K := by
  obtain ⟨cp, h1, h2⟩ := h.hd
  exact h2.rI (hx _ .nilFunc) hK
theorem SpH.rI2 (h : SpH σ p q c s) {i j : Nat} {x : Int} (hx : ∀ a b : Value, ([.int .i64 (s.st : Int), .int .i64 (c.size : Int), .int .i64 (c.pages : Int), .int .i64 (c.batch : Int), a, .int .i64 (s.many : Int)] : List Value)[0 + i + j]? = some (.int .i64 x)) {K : Int → Prop} (hK : K x) : LdI .i64 (Addr.add (Addr.add ⟨p, 0, none⟩ i) j) σ K := by
  obtain ⟨cp, h1, h2⟩ := h.hd
  exact h2.rI2 (hx _ .nilFunc) hK
theorem SpH.states (h : SpH σ p q c s) (cap : Nat) : SlR ⟨some ⟨q, 0, none⟩, c.n, cap⟩ 1 (ints (tkN s.tk)) σ (· = q) := by
  obtain ⟨r, h2⟩ := h.row
  refine h2.slR (o := 0) rfl (by rw [ints_len, tkN_len, h.len]; simp) fun j hj => ?_
  rw [Nat.zero_add, List.getElem?_append_left hj]

theorem smade_ok (h : SpH σ p q c s) {R : Bool → Hp → Prop} (hR : R true σ) : span_Span_made.call (some ⟨p, 0, none⟩) σ R := by
  refine span_Span_made.of_vc ?_
  unfold span_Span_made.vc
  refine JnB.intro (ifT rfl (nilP (h.rS fun cap _ => ?_)))
  have := h.ok.n_pos
  rw [decide_eq_true (by simp only; omega)]
  exact hR
theorem Objects_ok' (h : SpH σ p q c s) {R : Int → Hp → Prop} (hR : R (c.n : Int) σ) : span_Span_Objects.call (some ⟨p, 0, none⟩) σ R := by
  refine span_Span_Objects.of_vc ?_
  unfold span_Span_Objects.vc
  exact smade_ok h (ifF rfl (nilP (h.rS fun cap _ => hR)))
theorem addr_ok (h : SpH σ p q c s) (i : Nat) (hi : i ≤ 1000) {R : Int → Hp → Prop} (hR : R ((at_ c s i : Nat) : Int) σ) : span_Span_addr.call (some ⟨p, 0, none⟩) (i : Int) σ R := by
  refine span_Span_addr.of_vc ?_
  unfold span_Span_addr.vc
  have hc := h.ok
  unfold Cls.ok at hc
  have := h.fit
  have h2 : i * c.size ≤ 1000 * 512 := Nat.mul_le_mul hi (by omega)
  refine nilP (h.rI (fun _ _ => rfl) (arN (m := s.st * 256) (by simp) (by omega) (nilP (h.rI2 (fun _ _ => rfl) ?_))))
  exact arN (m := i * c.size) (by simp) (by omega) (arN (m := at_ c s i) (by simp [at_]) (by unfold at_; omega) hR)

theorem Index_ok (h : SpH σ p q c s) (x : Int) (hx2 : x ≤ 9223372036854775807) {R : Int → Int → Hp → Prop} (h1 : ∀ i, idx c s x = some i → R (i : Int) 0 σ) (h0 : idx c s x = none → R 0 8 σ) : span_Span_Index.call (some ⟨p, 0, none⟩) x σ R := by
  refine span_Span_Index.of_vc ?_
  unfold span_Span_Index.vc
  have hc := h.ok
  unfold Cls.ok at hc
  have hn := h.ok.n_le
  have hfit := h.fit
  have hlen := h.len
  have hm : c.n * c.size ≤ 128 * 512 := Nat.mul_le_mul hn (by omega)
  refine smade_ok h (ifF rfl (addr_ok h 0 (by omega) ?_))
  have e0 : at_ c s 0 = s.st * 256 := by simp [at_]
  rw [e0]
  refine arW ?_
  refine Jn.intro (addr_ok h 0 (by omega) ?_)
  rw [e0]
  refine ifD (fun hlt => ifT rfl (h0 ?_)) fun hge => ?_
  · unfold idx; rw [if_pos (by omega)]
  · rw [wrap_i64 (by omega) (by omega)]
    obtain ⟨y, hy⟩ := Int.eq_ofNat_of_zero_le (show 0 ≤ x by omega)
    have key : If (decide (x - ((s.st * 256 : Nat) : Int) ≥ ((c.n * c.size : Nat) : Int))) (R 0 8 σ)
        (NilP (some ⟨p, 0, none⟩) fun a35 => LdI .i64 ((a35.add 1).add 0) σ fun t38 => Nz t38 <| Ar .i64 ((x - ((s.st * 256 : Nat) : Int)).tdiv t38) fun t39 => R t39 0 σ) := by
      refine ifD (fun hge2 => h0 ?_) fun hlt2 => nilP (h.rI2 (fun _ _ => rfl) (nz (by omega) ?_))
      · unfold idx; rw [hlen, if_pos (by omega)]
      · have : idx c s x = some ((x - ((s.st * 256 : Nat) : Int)).toNat / c.size) := by unfold idx; rw [hlen, if_neg (by omega)]
        refine arN (m := (x - ((s.st * 256 : Nat) : Int)).toNat / c.size) ?_ ?_ (h1 _ this)
        · rw [tdiv_nn (by omega)]
          have : x - ((s.st * 256 : Nat) : Int) = (((x - ((s.st * 256 : Nat) : Int)).toNat : Nat) : Int) := by omega
          rw [this]; simp
        · have := Nat.div_le_self (x - ((s.st * 256 : Nat) : Int)).toNat c.size
          omega
    refine nilP (nilP ⟨h.rS fun cap hcap => h.rI2 (fun _ _ => rfl) (arN (m := c.n * c.size) (by simp) (by omega) key), h.rI2 (fun _ _ => rfl) (h.rS fun cap hcap => arN (m := c.n * c.size) (by simp) (by omega) key)⟩)

theorem object_ok (h : SpH σ p q c s) (x : Int) (hx2 : x ≤ 9223372036854775807) {R : Int → Int → Hp → Prop} (h1 : ∀ i, obj c s x = some i → i < c.n → R (i : Int) 0 σ) (h0 : obj c s x = none → R 0 8 σ) : span_Span_object.call (some ⟨p, 0, none⟩) x σ R := by
  refine span_Span_object.of_vc ?_
  unfold span_Span_object.vc
  have hc := h.ok
  unfold Cls.ok at hc
  have hn := h.ok.n_le
  refine Index_ok h x hx2 (fun i hi => JnB.intro (ifT rfl ?_)) fun hi => JnB.intro (ifF rfl (ifF rfl (h0 (by unfold obj; rw [hi]))))
  have hin := ((idx_some (by omega)).1 hi).2.2
  rw [h.len] at hin
  refine addr_ok h i (by omega) (iff_ (fun he => h0 ?_) fun he => h1 i ?_ hin)
  · have : ¬ x = ((at_ c s i : Nat) : Int) := fun e => by rw [e] at he; simp at he
    unfold obj; rw [hi]; simp [this]
  · have : x = ((at_ c s i : Nat) : Int) := by
      have : ((at_ c s i : Nat) : Int) = x := by simpa using he
      exact this.symm
    unfold obj; rw [hi]; simp [this]

/-- Taken, of an object that there is. -/
def SpA.is (s : SpA) (i : Nat) : Bool := s.tk.getD i false
theorem SpA.is_get {s : SpA} {i : Nat} (hi : i < s.tk.length) : s.tk[i]? = some (s.is i) := by
  simp [SpA.is, List.getD_eq_getElem?_getD, List.getElem?_eq_getElem hi]

theorem SIsTaken_ok (h : SpH σ p q c s) (x : Int) (hx2 : x ≤ 9223372036854775807) {R : Bool → Int → Hp → Prop} (h1 : ∀ i, obj c s x = some i → R (s.is i) 0 σ) (h0 : obj c s x = none → R false 8 σ) : span_Span_IsTaken.call (some ⟨p, 0, none⟩) x σ R := by
  refine span_Span_IsTaken.of_vc ?_
  unfold span_Span_IsTaken.vc
  refine object_ok h x hx2 (fun i hi hin => ifF rfl (nilP (h.rS fun cap hcap => ?_))) fun hi => ifT rfl (h0 hi)
  rw [← h.len] at hin
  refine (h.states cap).ixN (tkN_get (SpA.is_get hin)) ?_
  have := h1 i hi
  cases hb : s.is i <;> rw [hb] at this <;> simpa using this

theorem put_many {s : SpA} {i : Nat} (hi : i < s.tk.length) (v : Bool) : ((s.put i v).many : Int) = s.many + ((if v then 1 else 0) - (if s.is i then 1 else 0)) := by
  have key : ∀ (l : List Bool) (i : Nat) (b : Bool), l[i]? = some b → (((l.set i v).count true : Nat) : Int) = (l.count true : Nat) + ((if v then 1 else 0) - (if b then 1 else 0)) := by
    intro l
    induction l with
    | nil => intro i b h; simp at h
    | cons x l ih =>
      intro i b h
      cases i with
      | zero =>
        simp at h; subst h
        cases v <;> cases x <;> simp [List.count_cons] <;> omega
      | succ i =>
        have := ih i b (by simpa using h)
        simp only [List.set_cons_succ, List.count_cons]
        push_cast
        omega
  exact key s.tk i _ (SpA.is_get hi)
theorem many_le' (s : SpA) : s.many ≤ s.tk.length := List.count_le_length

theorem mark_ok (h : SpH σ p q c s) {i : Nat} (hi : i < c.n) (v : Bool) {sl : Sl} {G : Rg} (hs : SlR sl 1 (ints [i]) σ G) {R : Hp → Prop} (hR : ∀ σ', Ext (fun b => b = p ∨ b = q) σ σ' → SpH σ' p q c (s.put i v) → R σ') :
    span_Span_mark.call (some ⟨p, 0, none⟩) (if v then 1 else 0) sl σ R := by
  refine span_Span_mark.of_vc ?_
  unfold span_Span_mark.vc
  have hl1 : sl.len = 1 := hs.lenN
  have hn := h.ok.n_le
  have hlen := h.len
  have hm := many_le' s
  have hit : i < s.tk.length := by omega
  have hmany := put_many hit v
  refine loop1 (a := .i .i64) (fun (t : Int) h' => t = 0 ∧ h' = σ ∨ t = 1 ∧ Ext (fun b => b = p ∨ b = q) σ h' ∧ SpH h' p q c (s.put i v)) (fun t _ => 1 - t.toNat) (.inl ⟨rfl, rfl⟩) ?_
  rintro t h' (⟨rfl, rfl⟩ | ⟨rfl, e, hS⟩)
  · refine ifDT (by omega) ?_
    refine hs.ixN (i := 0) (x := i) rfl (nilP (h.rI (fun _ _ => rfl) (nilP (h.rS fun cap hcap => ?_))))
    refine (h.states cap).ixN (tkN_get (SpA.is_get hit)) ?_
    have hb1 : (0 : Int) ≤ (if v then 1 else 0) ∧ (if v then (1 : Int) else 0) ≤ 1 := by cases v <;> simp
    have hb2 : (0 : Int) ≤ ((if s.is i then 1 else 0 : Nat) : Int) ∧ ((if s.is i then 1 else 0 : Nat) : Int) ≤ 1 := by cases s.is i <;> simp
    have hcast : ((if s.is i then 1 else 0 : Nat) : Int) = (if s.is i then 1 else 0) := by cases s.is i <;> rfl
    refine ar (by omega) (by omega) (ar (by omega) (by omega) (nilP ?_))
    obtain ⟨cp, hcp, hd⟩ := h.hd
    obtain ⟨r, hrow⟩ := h.row
    refine hd.s1 (by simp) fun h2 ho2 hd2 => ?_
    have hrow2 := only_blk ho2 hrow (Ne.symm h.ne)
    refine nilP (hd2.rS rfl (ix (by omega) (by simp only; omega) ?_))
    rw [add_lit]
    refine hrow2.s0 (by simp [ints_len, tkN_len]; omega) fun h3 ho3 hr3 => ?_
    refine arN (m := 1) (by omega) (by omega) ⟨.inr ⟨rfl, ?_, ?_⟩, by decide⟩
    · exact (Ext.of_only (F := fun b => b = p ∨ b = q) ho2 (.inl rfl)).trans (Ext.of_only ho3 (.inr rfl))
    · refine ⟨⟨cp, hcp, ?_⟩, ⟨r, ?_⟩, h.ne, by simp [SpA.put, h.len], h.ok, h.fit⟩
      · have := only_blk ho3 hd2 h.ne
        rw [hmany, ← hcast]
        exact this
      · have e : (ints (tkN s.tk) ++ r).set (0 + (i : Int).toNat * 1) (.int .i64 (if v then 1 else 0)) = ints (tkN (s.put i v).tk) ++ r := by
          rw [List.set_append_left _ _ (by simp [ints_len, tkN_len]; omega)]
          congr 1
          simp only [SpA.put, tkN_set, ints, List.map_set]
          have : (0 + (i : Int).toNat * 1) = i := by omega
          rw [this]
          congr 1
          cases v <;> rfl
        rw [e] at hr3
        exact hr3
  · exact ifDF (by omega) (hR _ e hS)

theorem SPut_ok (h : SpH σ p q c s) {x : Int} {i : Nat} (hx2 : x ≤ 9223372036854775807) (ho : obj c s x = some i) (ht : s.is i = true) {R : Int → Hp → Prop} (hR : ∀ σ', Ext (fun b => b = p ∨ b = q) σ σ' → SpH σ' p q c (s.put i false) → R 0 σ') :
    span_Span_Put.call (some ⟨p, 0, none⟩) x σ R := by
  refine span_Span_Put.of_vc ?_
  unfold span_Span_Put.vc
  refine object_ok h x hx2 (fun j hj hin => ifF rfl (nilP (h.rS fun cap hcap => ?_))) fun hn => by rw [ho] at hn; cases hn
  rw [ho] at hj; cases hj
  have hin' : i < s.tk.length := by rw [h.len]; exact hin
  refine (h.states cap).ixN (tkN_get (SpA.is_get hin')) ?_
  rw [ht]
  refine ifF rfl (nw (cs := ints [i]) fun v hz e hb => ?_)
  have hq := h.lt
  exact mark_ok (h.keep0 e) hin false (lit_slR hb rfl) fun σ' e' h' => hR σ' (e.to.trans e') h'

theorem STake_ok (h : SpH σ p q c s) {i : Nat} (hlow : low s = some i) {R : Int → Int → Hp → Prop} (hR : ∀ σ', Ext (fun b => b = p ∨ b = q) σ σ' → SpH σ' p q c (s.put i true) → R ((at_ c s i : Nat) : Int) 0 σ') :
    span_Span_Take.call (some ⟨p, 0, none⟩) σ R := by
  refine span_Span_Take.of_vc ?_
  unfold span_Span_Take.vc
  have hn := h.ok.n_le
  have hlow' := List.findIdx?_eq_some_iff_getElem.1 hlow
  obtain ⟨hi, hf, hb⟩ := hlow'
  have hfi : s.tk[i] = false := by simpa using hf
  refine smade_ok h (ifF rfl (nilP (h.rS fun cap hcap => ?_)))
  refine index_ok (h.states cap) (by simp [tkN_len, h.len]; omega) 0 (fun j hj hno => ?_) fun hno => ?_
  · have hjl : j < s.tk.length := by
      have := (List.getElem?_eq_some_iff.1 hj).1
      rwa [tkN_len] at this
    have hji : j = i := by
      rcases Nat.lt_trichotomy j i with h1 | h1 | h1
      · have := hb j h1
        rw [tkN_get (List.getElem?_eq_getElem hjl)] at hj
        have : s.tk[j] = true := by simpa using this
        simp [this] at hj
      · exact h1
      · exact absurd (by rw [tkN_get (List.getElem?_eq_getElem hi), hfi]; rfl) (hno i h1)
    subst hji
    rw [h.len] at hi
    refine ifDF (by omega) (nw (cs := ints [j]) fun v hz e hb' => ?_)
    refine mark_ok (h.keep0 e) hi true (lit_slR hb' rfl) fun σ' e' h' => addr_ok h' j (by omega) (hR σ' (e.to.trans e') h')
  · exfalso
    apply hno
    exact List.mem_of_getElem? (i := i) (by rw [tkN_get (List.getElem?_eq_getElem hi), hfi]; rfl)

theorem Run_ok (h : SpH σ p q c s) {R : Int → Int → Hp → Prop} (hR : ∀ σ', Ext0 σ σ' → R (s.st : Int) (c.pages : Int) σ') : span_Span_Run.call (some ⟨p, 0, none⟩) σ R := by
  refine span_Span_Run.of_vc ?_
  unfold span_Span_Run.vc
  refine nw (cs := [.int .i64 0, .int .i64 0]) fun v hz e hb => ?_
  have h1 := h.keep0 e
  refine smade_ok h1 (ifF rfl (nilP (h1.rI (fun _ _ => rfl) (nilP (h1.rI2 (fun _ _ => rfl) ?_)))))
  refine hb.s1 (by simp) fun v2 ho2 hb2 => hb2.s1 (by simp) fun v3 ho3 hb3 => ?_
  refine hb3.rI rfl (hb3.rI rfl (hR _ ?_))
  exact Ext.fresh (Ext.fresh e (Ext.of_only (F := (· = σ.size)) ho2 rfl) fun i hi => by omega) (Ext.of_only (F := (· = σ.size)) ho3 rfl) fun i hi => by omega

theorem zeros_ints (n : Nat) : (List.replicate n [Value.int .i64 0]).flatten = ints (List.replicate n 0) := by
  induction n with
  | zero => rfl
  | succ n ih => simp only [List.replicate_succ, List.flatten_cons, ih]; rfl

theorem SNew_ok (hc : c.ok) {st : Nat} (hf : st + c.pages ≤ 1024) {R : Option Addr → Int → Hp → Prop} (hR : ∀ σ' p q, Ext0 σ σ' → σ.size ≤ p → σ.size ≤ q → SpH σ' p q c ⟨st, List.replicate c.n false⟩ → R (some ⟨p, 0, none⟩) 0 σ') :
    span_New.call (st : Int) c.size c.pages c.batch σ R := by
  refine span_New.of_vc ?_
  unfold span_New.vc
  have hk := hc
  unfold Cls.ok at hk
  have hn := hc.n_le
  refine nw (cs := [.int .i64 c.size, .int .i64 c.pages, .int .i64 c.batch]) fun v hz e hb => ?_
  refine hb.rI rfl (hb.rI rfl (hb.rI rfl (Objects_ok _ _ _ (fun c' hc' e1 e2 e3 v1 ex => ?_) fun hno => ?_)))
  case refine_2 => rw [(clsOk_nat c).2 hc] at hno; cases hno
  have : c' = c := by
    obtain ⟨a, b, d⟩ := c; obtain ⟨a', b', d'⟩ := c'
    simp only at e1 e2 e3
    congr 1 <;> omega
  subst this
  have hb1 := ex.blk hb id
  refine JnB.intro (ifF rfl (JnB.intro (ifDF (by omega) (hb1.rI rfl (arN (m := 1024 - c'.pages) (by omega) (by omega) (ifDF (by omega) ?_))))))
  refine ⟨fun h' => Blk h' σ.size [.int .i64 c'.size, .int .i64 c'.pages, .int .i64 c'.batch], hb1, ⟨_, fun h' hS => by rw [add_lit, hS.cell]; rfl, ⟨_, fun h' hS => by rw [add_lit, hS.cell]; rfl, ⟨_, fun h' hS => by rw [add_lit, hS.cell]; rfl, ?_⟩⟩⟩⟩
  refine mk (by omega) (by omega) fun v2 hz2 ex2 hb2 => ⟨ex2.blk hb1 id, nw (cs := [.int .i64 (st : Int), .int .i64 c'.size, .int .i64 c'.pages, .int .i64 c'.batch, .slice (some ⟨v1.size, 0, none⟩) c'.n c'.n, .int .i64 0]) fun v3 hz3 ex3 hb3 => ⟨(ex2.trans ex3).blk hb1 id, ?_⟩⟩
  rw [zeros_ints] at hb2
  have hsz := ex.1
  refine hR _ _ _ (((e.trans ex).trans ex2).trans ex3) (by omega) (show σ.size ≤ v1.size by omega) ⟨⟨c'.n, Nat.le_refl _, ?_⟩, ⟨[], ?_⟩, by omega, by simp, hc, hf⟩
  · have : SpA.many ⟨st, List.replicate c'.n false⟩ = 0 := by simp [SpA.many, List.count_replicate]
    rw [this]; exact hb3
  · have : tkN (List.replicate c'.n false) = List.replicate c'.n 0 := by simp [tkN]
    rw [this, List.append_nil]
    exact ex3.blk hb2 id

theorem SClone_ok (h : SpH σ p q c s) {R : Option Addr → Hp → Prop} (hR : ∀ σ' p' q', Ext0 σ σ' → σ.size ≤ p' → σ.size ≤ q' → SpH σ' p' q' c s → R (some ⟨p', 0, none⟩) σ') : span_Span_Clone.call (some ⟨p, 0, none⟩) σ R := by
  refine span_Span_Clone.of_vc ?_
  unfold span_Span_Clone.vc
  have hn := h.ok.n_le
  have hn1 := h.ok.n_pos
  obtain ⟨cp, hcp, hd⟩ := h.hd
  refine smade_ok h (ifF rfl (nilP (hd.rI rfl (hd.rI rfl (hd.rI rfl (hd.rI rfl (hd.rS rfl (hd.rI rfl ?_))))))))
  refine nw (cs := [.int .i64 0, .int .i64 0, .int .i64 0, .int .i64 0, .slice none 0 0, .int .i64 0]) fun v hz e hb => ?_
  refine hb.s1 (by simp) fun v1 o1 b1 => b1.s1 (by simp) fun v2 o2 b2 => b2.s1 (by simp) fun v3 o3 b3 => b3.s1 (by simp) fun v4 o4 b4 => b4.s1 (by simp) fun v5 o5 b5 => b5.s1 (by simp) fun v6 o6 b6 => ?_
  have e6 : Ext (· = σ.size) v v6 := (((((o1.ext).trans o2.ext).trans o3.ext).trans o4.ext).trans o5.ext).trans o6.ext
  have e06 : Ext0 σ v6 := Ext.fresh e e6 fun i hi => by omega
  have h6 := h.keep0 e06
  refine nilP (h6.rS fun cap hcap => ?_)
  refine cloneV_ok (h6.states cap) one1_ints (by simp only; omega) fun s' v7 hl e7 hrow => ?_
  have b7 := e7.blk b6 id
  refine b7.s1 (by simp) fun v8 o8 b8 => ?_
  have hs6 : σ.size < v6.size := b6.lt
  rcases hrow.2 with ⟨h0, _⟩ | ⟨b, cs, hq, ha, hbb, hle, hcl, ht⟩
  · simp only at hl; omega
  · refine hR _ _ b (Ext.fresh (e06.trans e7) o8.ext fun i hi => by omega) (Nat.le_refl _) (by omega) ⟨⟨s'.cap, ?_, ?_⟩, ⟨cs.drop (ints (tkN s.tk)).length, ?_⟩, by omega, h.len, h.ok, h.fit⟩
    · simp only at hl; omega
    · simp only at hl
      rw [ha, hl] at b8
      exact b8
    · have : ints (tkN s.tk) ++ cs.drop (ints (tkN s.tk)).length = cs := by
        conv => lhs; lhs; rw [← ht]
        exact List.take_append_drop _ _
      rw [this]
      exact only_blk o8 hbb (by omega)

end Go.Ar

-- Gcentral
namespace Go.Proofs
open Go.Vc
set_option linter.unusedVariables false
set_option maxRecDepth 100000
def central_List_Spans.hint : Hn := .seq (.o 1) (.seq (.seq (.o 3) (.cond (.seq (.o 1) (.leaf)) (.leaf))) (.seq (.o 1) (.seq (.seq (.o 6) (.block (.loop [(3, .one .s), (14, .one (.i .i64))] (.seq (.o 1) (.seq (.cond (.leaf) (.leaf)) (.seq (.block (.seq (.o 4) (.o 7))) (.o 2))))))) (.seq (.o 2) (.leaf)))))
def central_List_Spans.vc (l : Option Addr) (σ : Hp) (R : Sl → Hp → Prop) : Prop :=
 central_List_made.call l σ fun t7 v =>
 If (!t7) (R ⟨none, 0, 0⟩ v)
  (NilP l fun a10 =>
  LdS (a10.add 3) v fun t12 =>
  LoopK [.s, (.i .i64)] (fun I => I ⟨none, 0, 0⟩ 0 v) fun J (out : Sl) (t14 : Int) v1 =>
  If (decide (t14 < ((t12.len : Nat) : Int))) (Ix t12.a t12.len t14 3 fun a16 =>
   LdI .i64 (a16.add 0) v1 fun t17 =>
   LdI .i64 (a16.add 1) v1 fun t171 =>
   LdP (a16.add 2) v1 fun t172 =>
   Nw (.cells #[.int .i64 0, .int .i64 0, .pointer none] 175 (0, 0)) v1 fun n5 v2 =>
   St1 (n5.add 0) (.int .i64 t17) v2 fun v3 =>
   St1 (n5.add 1) (.int .i64 t171) v3 fun v4 =>
   St1 (n5.add 2) (.pointer t172) v4 fun v5 =>
   LdP (n5.add 2) v5 fun t20 =>
   span_Span_Run.call t20 v5 fun t21 t211 v6 =>
   Nw (.cells #[.int .i64 t21, .int .i64 t211] 123 (0, 0)) v6 fun n22 v7 =>
   App out 2 16 123 [.int .i64 0, .int .i64 0] ⟨(some n22), 1, 1⟩ v7 fun out1 v8 =>
   Ar .i64 (t14 + 1) fun t24 =>
   J out1 t24 v8)
   (R out v1))
theorem central_List_Spans.of_vc {l : Option Addr} {σ : Hp} {R : Sl → Hp → Prop} (hv : central_List_Spans.vc l σ R) : central_List_Spans.call l σ R :=
 fnK_sound Tryz.func59 (x := central_List_Spans.hint) (args := [.pointer l]) (rs := [.one .s]) (R := R) (Eq.mpr (by kernel_rfl) hv)
def central_List_Room.hint : Hn := .seq (.o 1) (.seq (.seq (.o 3) (.cond (.seq (.o 1) (.leaf)) (.leaf))) (.seq (.o 1) (.seq (.seq (.o 6) (.block (.loop [(3, .one (.i .i64)), (14, .one (.i .i64))] (.seq (.o 1) (.seq (.cond (.leaf) (.leaf)) (.seq (.block (.seq (.o 4) (.reg (.held true [] (.take 0 (.take 1 (.take 2 (.take 4 (.take 5 (.take 6 (.all [(3, .take 7 (.take 8 (.take 9 (.done))))]))))))))))) (.o 2))))))) (.seq (.o 2) (.leaf)))))
def central_List_Room.vc (l : Option Addr) (σ : Hp) (R : Int → Hp → Prop) : Prop :=
 central_List_made.call l σ fun t7 v =>
 If (!t7) (R 0 v)
  (NilP l fun a10 =>
  LdS (a10.add 3) v fun t12 =>
  LoopK [(.i .i64), (.i .i64)] (fun I => I 0 0 v) fun J (n : Int) (t14 : Int) v1 =>
  If (decide (t14 < ((t12.len : Nat) : Int))) (Ix t12.a t12.len t14 3 fun a16 =>
   LdI .i64 (a16.add 0) v1 fun t17 =>
   LdI .i64 (a16.add 1) v1 fun t171 =>
   LdP (a16.add 2) v1 fun t172 =>
   Nw (.cells #[.int .i64 0, .int .i64 0, .pointer none] 175 (0, 0)) v1 fun n5 v2 =>
   St1 (n5.add 0) (.int .i64 t17) v2 fun v3 =>
   St1 (n5.add 1) (.int .i64 t171) v3 fun v4 =>
   St1 (n5.add 2) (.pointer t172) v4 fun v5 =>
   Held v5 fun S =>
   LdH S .p (n5.add 2) fun (t20 : Option Addr) =>
   LdH S (.i .i64) ((n5.add 0).add 0) fun (t24 : Int) =>
   span_Span_Objects.call t20 v5 fun t21 v6 =>
   And (S v6) <|
   Ar .i64 (t21 - t24) fun t25 =>
   Ar .i64 (n + t25) fun n1 =>
   Ar .i64 (t14 + 1) fun t27 =>
   J n1 t27 v6)
   (R n v1))
theorem central_List_Room.of_vc {l : Option Addr} {σ : Hp} {R : Int → Hp → Prop} (hv : central_List_Room.vc l σ R) : central_List_Room.call l σ R :=
 fnK_sound Tryz.func61 (x := central_List_Room.hint) (args := [.pointer l]) (rs := [.one (.i .i64)]) (R := R) (Eq.mpr (by kernel_rfl) hv)
def central_List_IsTaken.hint : Hn := .seq (.o 2) (.seq (.seq (.o 3) (.cond (.seq (.o 2) (.leaf)) (.leaf))) (.seq (.o 4) (.seq (.seq (.o 2) (.cond (.seq (.o 2) (.leaf)) (.leaf))) (.seq (.o 10) (.leaf)))))
def central_List_IsTaken.vc (l : Option Addr) (addr : Int) (σ : Hp) (R : Bool → Int → Hp → Prop) : Prop :=
 central_List_made.call l σ fun t8 v =>
 If (!t8) (R false 5 v)
  (central_List_of.call l addr v fun vx v1 =>
  If vx.isNone (R false 8 v1)
   (NilP vx fun a16 =>
   LdP (a16.add 2) v1 fun t18 =>
   span_Span_IsTaken.call t18 addr v1 fun t20 t201 v2 =>
   R t20 t201 v2))
theorem central_List_IsTaken.of_vc {l : Option Addr} {addr : Int} {σ : Hp} {R : Bool → Int → Hp → Prop} (hv : central_List_IsTaken.vc l addr σ R) : central_List_IsTaken.call l addr σ R :=
 fnK_sound Tryz.func65 (x := central_List_IsTaken.hint) (args := [.pointer l, .int .i64 addr]) (rs := [.one .b, .one (.i .i64)]) (R := R) (Eq.mpr (by kernel_rfl) hv)
def central_List_Sweep.hint : Hn := .seq (.o 1) (.seq (.seq (.o 3) (.cond (.seq (.o 1) (.leaf)) (.leaf))) (.seq (.o 1) (.seq (.o 10) (.seq (.o 2) (.leaf)))))
def central_List_Sweep.vc (l : Option Addr) (σ : Hp) (R : Sl → Hp → Prop) : Prop :=
 central_List_made.call l σ fun t5 v =>
 If (!t5) (R ⟨none, 0, 0⟩ v)
  (Nw (.cells #[.slice none 0 0] 109 (0, 0)) v fun n3 v1 =>
  NilP l fun a9 =>
  LdS (a9.add 3) v1 fun t11 =>
  slices_DeleteFunc_central_entry_central_entry.call t11 ⟨147, #[], #[.pointer (some n3)]⟩ v1 fun t13 v2 =>
  NilP l fun a14 =>
  St1 (a14.add 3) (.slice t13.a t13.len t13.cap) v2 fun v3 =>
  LdS n3 v3 fun t16 =>
  R t16 v3)
theorem central_List_Sweep.of_vc {l : Option Addr} {σ : Hp} {R : Sl → Hp → Prop} (hv : central_List_Sweep.vc l σ R) : central_List_Sweep.call l σ R :=
 fnK_sound Tryz.func69 (x := central_List_Sweep.hint) (args := [.pointer l]) (rs := [.one .s]) (R := R) (Eq.mpr (by kernel_rfl) hv)
def central_List_Find.hint : Hn := .seq (.o 2) (.seq (.seq (.o 3) (.cond (.seq (.o 2) (.leaf)) (.leaf))) (.seq (.o 4) (.seq (.seq (.o 2) (.cond (.seq (.o 2) (.leaf)) (.leaf))) (.seq (.o 11) (.seq (.oq 16) (.leaf))))))
def central_List_Find.vc (l : Option Addr) (addr : Int) (σ : Hp) (R : Int → Int → Hp → Prop) : Prop :=
 central_List_made.call l σ fun t10 v =>
 If (!t10) (R 0 5 v)
  (central_List_of.call l addr v fun vx v1 =>
  If vx.isNone (R 0 8 v1)
   (NilP vx fun a19 =>
   LdP (a19.add 2) v1 fun t21 =>
   span_Span_Index.call t21 addr v1 fun t23 t231 v2 =>
   NilP vx fun a27 =>
   LdI .i64 ((a27.add 0).add 1) v2 fun t30 =>
   Ar .i64 (t30 * 256) fun t31 =>
   NilP l fun a34 =>
   LdI .i64 ((a34.add 0).add 0) v2 fun t37 =>
   Ar .i64 (t23 * t37) fun t38 =>
   Ar .i64 (t31 + t38) fun t39 =>
   R t39 0 v2))
theorem central_List_Find.of_vc {l : Option Addr} {addr : Int} {σ : Hp} {R : Int → Int → Hp → Prop} (hv : central_List_Find.vc l addr σ R) : central_List_Find.call l addr σ R :=
 fnK_sound Tryz.func80 (x := central_List_Find.hint) (args := [.pointer l, .int .i64 addr]) (rs := [.one (.i .i64), .one (.i .i64)]) (R := R) (Eq.mpr (by kernel_rfl) hv)
def central_New.hint : Hn := .seq (.o 3) (.seq (.seq (.o 7) (.seq (.o 2) (.cond (.seq (.o 2) (.leaf)) (.leaf)))) (.seq (.o 5) (.leaf)))
def central_New.vc (vclass : Int) (vclass1 : Int) (vclass2 : Int) (σ : Hp) (R : Option Addr → Int → Hp → Prop) : Prop :=
 Nw (.cells #[.int .i64 vclass, .int .i64 vclass1, .int .i64 vclass2] 51 (0, 0)) σ fun n1 v =>
 LdI .i64 (n1.add 0) v fun t7 =>
 LdI .i64 (n1.add 1) v fun t71 =>
 LdI .i64 (n1.add 2) v fun t72 =>
 sizes_Objects.call t7 t71 t72 v fun t8 t81 v1 =>
 If (t81 != 0) (R none 1 v1)
  (LdI .i64 (n1.add 0) v1 fun t13 =>
  LdI .i64 (n1.add 1) v1 fun t131 =>
  LdI .i64 (n1.add 2) v1 fun t132 =>
  Nw (.cells #[.int .i64 t13, .int .i64 t131, .int .i64 t132, .slice none 0 0] 170 (0, 0)) v1 fun n15 v2 =>
  R (some n15) 0 v2)
theorem central_New.of_vc {vclass : Int} {vclass1 : Int} {vclass2 : Int} {σ : Hp} {R : Option Addr → Int → Hp → Prop} (hv : central_New.vc vclass vclass1 vclass2 σ R) : central_New.call vclass vclass1 vclass2 σ R :=
 fnK_sound Tryz.func90 (x := central_New.hint) (args := [.agg #[.int .i64 vclass, .int .i64 vclass1, .int .i64 vclass2]]) (rs := [.one .p, .one (.i .i64)]) (R := R) (Eq.mpr (by kernel_rfl) hv)
def central_List_Clone.hint : Hn := .seq (.o 1) (.seq (.seq (.o 3) (.cond (.seq (.o 1) (.leaf)) (.leaf))) (.seq (.o 7) (.seq (.seq (.o 6) (.block (.loop [(20, .one (.i .i64))] (.seq (.o 1) (.seq (.cond (.leaf) (.leaf)) (.seq (.block (.seq (.o 4) (.reg (.held true [15] (.take 0 (.take 1 (.take 2 (.take 3 (.take 4 (.take 5 (.take 6 (.take 7 (.take 8 (.all [(9, .take 10 (.all [(11, .all [(12, .take 13 (.take 14 (.all [(15, .done)])))])]))])))))))))))))) (.o 2))))))) (.seq (.o 2) (.leaf)))))
def central_List_Clone.vc (l : Option Addr) (σ : Hp) (R : Option Addr → Hp → Prop) : Prop :=
 central_List_made.call l σ fun t7 v =>
 If (!t7) (R none v)
  (NilP l fun a10 =>
  LdI .i64 ((a10.add 0).add 0) v fun t12 =>
  LdI .i64 ((a10.add 0).add 1) v fun t121 =>
  LdI .i64 ((a10.add 0).add 2) v fun t122 =>
  Nw (.cells #[.int .i64 t12, .int .i64 t121, .int .i64 t122, .slice none 0 0] 170 (0, 0)) v fun n14 v1 =>
  NilP l fun a16 =>
  LdS (a16.add 3) v1 fun t18 =>
  LoopK [(.i .i64)] (fun I => I 0 v1) fun J (t20 : Int) v2 =>
  If (decide (t20 < ((t18.len : Nat) : Int))) (Ix t18.a t18.len t20 3 fun a22 =>
   LdI .i64 (a22.add 0) v2 fun t23 =>
   LdI .i64 (a22.add 1) v2 fun t231 =>
   LdP (a22.add 2) v2 fun t232 =>
   Nw (.cells #[.int .i64 0, .int .i64 0, .pointer none] 175 (0, 0)) v2 fun n5 v3 =>
   St1 (n5.add 0) (.int .i64 t23) v3 fun v4 =>
   St1 (n5.add 1) (.int .i64 t231) v4 fun v5 =>
   St1 (n5.add 2) (.pointer t232) v5 fun v6 =>
   Held v6 fun S =>
   NilP (some n14) fun a26 =>
   LdH S .s (a26.add 3) fun (t28 : Sl) =>
   LdH S (.i .i64) ((n5.add 0).add 0) fun (t30 : Int) =>
   LdH S (.i .i64) ((n5.add 0).add 1) fun (t301 : Int) =>
   LdH S .p (n5.add 2) fun (t32 : Option Addr) =>
   span_Span_Clone.call t32 v6 fun t33 v7 =>
   And (S v7) <|
   Nw (.cells #[.int .i64 t30, .int .i64 t301, .pointer t33] 175 (0, 0)) v7 fun n35 v8 =>
   And (S v8) <|
   App t28 3 24 175 [.int .i64 0, .int .i64 0, .pointer none] ⟨(some n35), 1, 1⟩ v8 fun t36 v9 =>
   And (S v9) <|
   NilP (some n14) fun a37 =>
   St1 (a37.add 3) (.slice t36.a t36.len t36.cap) v9 fun v10 =>
   Ar .i64 (t20 + 1) fun t39 =>
   J t39 v10)
   (R (some n14) v2))
theorem central_List_Clone.of_vc {l : Option Addr} {σ : Hp} {R : Option Addr → Hp → Prop} (hv : central_List_Clone.vc l σ R) : central_List_Clone.call l σ R :=
 fnK_sound Tryz.func106 (x := central_List_Clone.hint) (args := [.pointer l]) (rs := [.one .p]) (R := R) (Eq.mpr (by kernel_rfl) hv)
def central_List_Add.hint : Hn := .seq (.o 1) (.seq (.seq (.o 3) (.cond (.seq (.o 1) (.leaf)) (.leaf))) (.seq (.o 11) (.seq (.seq (.o 2) (.cond (.seq (.o 2) (.leaf)) (.leaf))) (.seq (.seq (.o 6) (.block (.loop [(31, .one (.i .i64))] (.seq (.o 1) (.seq (.cond (.leaf) (.leaf)) (.seq (.block (.seq (.o 4) (.seq (.oq 17) (.cond (.seq (.o 1) (.leaf)) (.leaf))))) (.o 2))))))) (.seq (.o 11) (.seq (.o 15) (.seq (.o 1) (.leaf))))))))
def central_List_Add.vc (l : Option Addr) (start : Int) (σ : Hp) (R : Int → Hp → Prop) : Prop :=
 central_List_made.call l σ fun t12 v =>
 If (!t12) (R 5 v)
  (NilP l fun a17 =>
  LdI .i64 ((a17.add 0).add 0) v fun t19 =>
  LdI .i64 ((a17.add 0).add 1) v fun t191 =>
  LdI .i64 ((a17.add 0).add 2) v fun t192 =>
  span_New.call start t19 t191 t192 v fun t20 t201 v1 =>
  If (t201 != 0) (R t201 v1)
   (NilP l fun a27 =>
   LdS (a27.add 3) v1 fun t29 =>
   LoopK [(.i .i64)] (fun I => I 0 v1) fun J (t31 : Int) v2 =>
   If (decide (t31 < ((t29.len : Nat) : Int))) (Ix t29.a t29.len t31 3 fun a33 =>
    LdI .i64 (a33.add 0) v2 fun t34 =>
    LdI .i64 (a33.add 1) v2 fun t341 =>
    LdP (a33.add 2) v2 fun t342 =>
    Nw (.cells #[.int .i64 0, .int .i64 0, .pointer none] 175 (0, 0)) v2 fun n8 v3 =>
    St1 (n8.add 0) (.int .i64 t34) v3 fun v4 =>
    St1 (n8.add 1) (.int .i64 t341) v4 fun v5 =>
    St1 (n8.add 2) (.pointer t342) v5 fun v6 =>
    LdI .i64 ((n8.add 0).add 1) v6 fun t37 =>
    LdI .i64 ((n8.add 0).add 1) v6 fun t42 =>
    Ar .i64 ((if start > t37 then start else t37) - (if start < t42 then start else t42)) fun t45 =>
    NilP l fun a47 =>
    LdI .i64 ((a47.add 0).add 1) v6 fun t50 =>
    If (decide (t45 < t50)) (R 9 v6)
     (Ar .i64 (t31 + 1) fun t52 =>
     J t52 v6))
    (NilP l fun a55 =>
    LdS (a55.add 3) v2 fun t57 =>
    slices_BinarySearchFunc_central_entry_central_entry_int.call t57 start ⟨205, #[], #[]⟩ v2 fun t59 t591 v7 =>
    NilP l fun a64 =>
    LdS (a64.add 3) v7 fun t66 =>
    Nw (.cells #[.int .i64 0, .int .i64 start, .pointer t20] 175 (0, 0)) v7 fun n72 v8 =>
    slices_Insert_central_entry_central_entry.call t66 t59 ⟨(some n72), 1, 1⟩ v8 fun t73 v9 =>
    NilP l fun a74 =>
    St1 (a74.add 3) (.slice t73.a t73.len t73.cap) v9 fun v10 =>
    R 0 v10)))
theorem central_List_Add.of_vc {l : Option Addr} {start : Int} {σ : Hp} {R : Int → Hp → Prop} (hv : central_List_Add.vc l start σ R) : central_List_Add.call l start σ R :=
 fnK_sound Tryz.func130 (x := central_List_Add.hint) (args := [.pointer l, .int .i64 start]) (rs := [.one (.i .i64)]) (R := R) (Eq.mpr (by kernel_rfl) hv)
def central_List_Take.hint : Hn := .seq (.o 2) (.seq (.block (.seq (.o 4) (.cond (.seq (.o 2) (.leaf)) (.seq (.o 3) (.cond (.seq (.o 2) (.leaf)) (.leaf)))))) (.seq (.o 1) (.seq (.block (.loop [(6, .one .s)] (.seq (.seq (.o 4) (.cond (.leaf) (.leaf))) (.block (.seq (.o 7) (.seq (.seq (.o 2) (.cond (.leaf) (.leaf))) (.o 5))))))) (.seq (.o 3) (.leaf)))))
def central_List_Take.vc (l : Option Addr) (many : Int) (σ : Hp) (R : Sl → Int → Hp → Prop) : Prop :=
 central_List_made.call l σ fun t11 v =>
 If (!t11) (R ⟨none, 0, 0⟩ 5 v)
  (If (decide (many < 0)) (R ⟨none, 0, 0⟩ 1 v)
   (LoopK [.s] (fun I => I ⟨none, 0, 0⟩ v) fun J (out : Sl) v1 =>
   If (decide (((out.len : Nat) : Int) < many)) (central_List_one.call l v1 fun t22 t221 v2 =>
    If (!t221) (R out 0 v2)
     (Nw (.cells #[.int .i64 t22] 3 (0, 0)) v2 fun n29 v3 =>
     App out 1 8 3 [.int .i64 0] ⟨(some n29), 1, 1⟩ v3 fun out1 v4 =>
     J out1 v4))
    (R out 0 v1)))
theorem central_List_Take.of_vc {l : Option Addr} {many : Int} {σ : Hp} {R : Sl → Int → Hp → Prop} (hv : central_List_Take.vc l many σ R) : central_List_Take.call l many σ R :=
 fnK_sound Tryz.func131 (x := central_List_Take.hint) (args := [.pointer l, .int .i64 many]) (rs := [.one .s, .one (.i .i64)]) (R := R) (Eq.mpr (by kernel_rfl) hv)
def central_List_Put.hint : Hn := .seq (.o 2) (.seq (.seq (.o 3) (.cond (.seq (.o 2) (.leaf)) (.leaf))) (.seq (.o 1) (.seq (.seq (.o 3) (.block (.loop [(6, .one .b), (19, .one (.i .i64))] (.seq (.o 1) (.seq (.cond (.leaf) (.leaf)) (.seq (.block (.seq (.o 5) (.seq (.o 8) (.seq (.seq (.o 2) (.cond (.seq (.o 3) (.leaf)) (.leaf))) (.reg (.seq [.op, .op, .grd false 2 [.op, .op], .op, .grd false 5 [.op, .op, .op, .op, .op], .op])))))) (.o 2))))))) (.seq (.seq (.o 1) (.cond (.seq (.o 2) (.leaf)) (.leaf))) (.seq (.seq (.o 3) (.block (.loop [(49, .one (.i .i64))] (.seq (.o 1) (.seq (.cond (.leaf) (.leaf)) (.seq (.block (.seq (.o 3) (.seq (.o 4) (.seq (.o 6) (.o 10))))) (.o 2))))))) (.seq (.o 4) (.leaf)))))))
def central_List_Put.vc (l : Option Addr) (objects : Sl) (σ : Hp) (R : Sl → Int → Hp → Prop) : Prop :=
 central_List_made.call l σ fun t15 v =>
 If (!t15) (R ⟨none, 0, 0⟩ 5 v)
  (LoopK [.b, (.i .i64)] (fun I => I false 0 v) fun J (twice : Bool) (t19 : Int) v1 =>
  If (decide (t19 < ((objects.len : Nat) : Int))) (Ix objects.a objects.len t19 1 fun a22 =>
   LdI .i64 a22 v1 fun addr =>
   central_List_IsTaken.call l addr v1 fun t27 t271 v2 =>
   If (t271 != 0) (R ⟨none, 0, 0⟩ t271 v2)
    (JnB (fun r v3 =>
     JnB (fun r1 v4 =>
      Ar .i64 (t19 + 1) fun t45 =>
      J r1 t45 v4) fun J2 =>
     If r (J2 true v3)
      (SlcL objects 1 0 t19 (objects.cap : Nat) fun t41 =>
      slices_Contains_int_int.call t41 addr v3 fun t43 v5 =>
      J2 t43 v5)) fun J1 =>
    If twice (J1 true v2)
     (J1 (!t27) v2)))
   (If twice (R ⟨none, 0, 0⟩ 9 v1)
    (LoopK [(.i .i64)] (fun I1 => I1 0 v1) fun J3 (t49 : Int) v6 =>
    If (decide (t49 < ((objects.len : Nat) : Int))) (Ix objects.a objects.len t49 1 fun a51 =>
     LdI .i64 a51 v6 fun addr1 =>
     central_List_of.call l addr1 v6 fun vx v7 =>
     NilP vx fun a57 =>
     LdP (a57.add 2) v7 fun t59 =>
     span_Span_Put.call t59 addr1 v7 fun t61 v8 =>
     NilP vx fun a63 =>
     LdI .i64 ((a63.add 0).add 0) v8 fun t66 =>
     Ar .i64 (t66 - 1) fun t67 =>
     NilP vx fun a68 =>
     St1 ((a68.add 0).add 0) (.int .i64 t67) v8 fun v9 =>
     Ar .i64 (t49 + 1) fun t71 =>
     J3 t71 v9)
     (central_List_Sweep.call l v6 fun t73 v10 =>
     R t73 0 v10))))
theorem central_List_Put.of_vc {l : Option Addr} {objects : Sl} {σ : Hp} {R : Sl → Int → Hp → Prop} (hv : central_List_Put.vc l objects σ R) : central_List_Put.call l objects σ R :=
 fnK_sound Tryz.func132 (x := central_List_Put.hint) (args := [.pointer l, .slice objects.a objects.len objects.cap]) (rs := [.one .s, .one (.i .i64)]) (R := R) (Eq.mpr (by kernel_rfl) hv)
def central_List_made.hint : Hn := .seq (.o 1) (.seq (.reg (.seq [.op, .op, .op, .grd true 6 [.op, .op, .op, .op, .op, .op], .op])) (.leaf))
def central_List_made.vc (l : Option Addr) (σ : Hp) (R : Bool → Hp → Prop) : Prop :=
 JnB (fun r v =>
  R r v) fun J =>
 If (!l.isNone) (NilP l fun a7 =>
  LdI .i64 ((a7.add 0).add 0) σ fun t10 =>
  J (decide (t10 > 0)) σ)
  (J false σ)
theorem central_List_made.of_vc {l : Option Addr} {σ : Hp} {R : Bool → Hp → Prop} (hv : central_List_made.vc l σ R) : central_List_made.call l σ R :=
 fnK_sound Tryz.func135 (x := central_List_made.hint) (args := [.pointer l]) (rs := [.one .b]) (R := R) (Eq.mpr (by kernel_rfl) hv)
def central_List_of.hint : Hn := .seq (.o 1) (.seq (.seq (.o 6) (.block (.loop [(13, .one (.i .i64))] (.seq (.o 1) (.seq (.cond (.leaf) (.leaf)) (.seq (.block (.seq (.o 2) (.seq (.o 15) (.seq (.o 2) (.cond (.seq (.o 7) (.leaf)) (.leaf)))))) (.o 2))))))) (.seq (.o 1) (.leaf)))
def central_List_of.vc (l : Option Addr) (addr : Int) (σ : Hp) (R : Option Addr → Hp → Prop) : Prop :=
 NilP l fun a9 =>
 LdS (a9.add 3) σ fun t11 =>
 LoopK [(.i .i64)] (fun I => I 0 σ) fun J (t13 : Int) v =>
 If (decide (t13 < ((t11.len : Nat) : Int))) (NilP l fun a18 =>
  LdS (a18.add 3) v fun t20 =>
  Ix t20.a t20.len t13 3 fun a22 =>
  LdP (a22.add 2) v fun t24 =>
  span_Span_Index.call t24 addr v fun t26 t261 v1 =>
  If (t261 == 0) (NilP l fun a32 =>
   LdS (a32.add 3) v1 fun t34 =>
   Ix t34.a t34.len t13 3 fun a36 =>
   R (some a36) v1)
   (Ar .i64 (t13 + 1) fun t37 =>
   J t37 v1))
  (R none v)
theorem central_List_of.of_vc {l : Option Addr} {addr : Int} {σ : Hp} {R : Option Addr → Hp → Prop} (hv : central_List_of.vc l addr σ R) : central_List_of.call l addr σ R :=
 fnK_sound Tryz.func141 (x := central_List_of.hint) (args := [.pointer l, .int .i64 addr]) (rs := [.one .p]) (R := R) (Eq.mpr (by kernel_rfl) hv)
def central_List_Sweep_L1.hint : Hn := .seq (.o 2) (.sjn [] (.seq (.o 4) (.cond (.reg (.held true [6] (.take 0 (.take 1 (.take 2 (.all [(3, .all [(4, .all [(5, .all [(6, .done)])])])])))))) (.leaf))) (.seq (.o 5) (.leaf)))
def central_List_Sweep_L1.vc (vx : Int) (vx1 : Int) (vx2 : Option Addr) (cap0 : Addr) (σ : Hp) (R : Bool → Hp → Prop) : Prop :=
 Nw (.cells #[.int .i64 vx, .int .i64 vx1, .pointer vx2] 175 (0, 0)) σ fun n2 v =>
 Jn [] (fun v1 =>
  LdI .i64 ((n2.add 0).add 0) v1 fun t16 =>
  R (t16 == 0) v1) fun J =>
 LdI .i64 ((n2.add 0).add 0) v fun t6 =>
 If (t6 == 0) (Held v fun S =>
  LdH S .s cap0 fun (t8 : Sl) =>
  LdH S .p (n2.add 2) fun (t10 : Option Addr) =>
  span_Span_Run.call t10 v fun t11 t111 v2 =>
  And (S v2) <|
  Nw (.cells #[.int .i64 t11, .int .i64 t111] 123 (0, 0)) v2 fun n12 v3 =>
  And (S v3) <|
  App t8 2 16 123 [.int .i64 0, .int .i64 0] ⟨(some n12), 1, 1⟩ v3 fun t13 v4 =>
  And (S v4) <|
  St1 cap0 (.slice t13.a t13.len t13.cap) v4 fun v5 =>
  J v5)
  (J v)
theorem central_List_Sweep_L1.of_vc {vx : Int} {vx1 : Int} {vx2 : Option Addr} {cap0 : Addr} {σ : Hp} {R : Bool → Hp → Prop} (hv : central_List_Sweep_L1.vc vx vx1 vx2 cap0 σ R) : central_List_Sweep_L1.call vx vx1 vx2 cap0 σ R :=
 fnK_sound Tryz.func147 (x := central_List_Sweep_L1.hint) (args := [.agg #[.int .i64 vx, .int .i64 vx1, .pointer vx2], .pointer (some cap0)]) (rs := [.one .b]) (R := R) (Eq.mpr (by kernel_rfl) hv)
def central_List_Add_L1.hint : Hn := .seq (.o 2) (.seq (.o 6) (.leaf))
def central_List_Add_L1.vc (vx : Int) (vx1 : Int) (vx2 : Option Addr) (start : Int) (σ : Hp) (R : Int → Hp → Prop) : Prop :=
 Nw (.cells #[.int .i64 vx, .int .i64 vx1, .pointer vx2] 175 (0, 0)) σ fun n2 v =>
 LdI .i64 ((n2.add 0).add 1) v fun t7 =>
 Ar .i64 (t7 - start) fun t9 =>
 R t9 v
theorem central_List_Add_L1.of_vc {vx : Int} {vx1 : Int} {vx2 : Option Addr} {start : Int} {σ : Hp} {R : Int → Hp → Prop} (hv : central_List_Add_L1.vc vx vx1 vx2 start σ R) : central_List_Add_L1.call vx vx1 vx2 start σ R :=
 fnK_sound Tryz.func205 (x := central_List_Add_L1.hint) (args := [.agg #[.int .i64 vx, .int .i64 vx1, .pointer vx2], .int .i64 start]) (rs := [.one (.i .i64)]) (R := R) (Eq.mpr (by kernel_rfl) hv)
def central_List_one.hint : Hn := .seq (.o 2) (.seq (.o 1) (.seq (.seq (.o 6) (.block (.loop [(4, .one .p), (14, .one (.i .i64))] (.seq (.o 1) (.seq (.cond (.leaf) (.leaf)) (.seq (.block (.seq (.o 2) (.seq (.o 7) (.seq (.reg (.heldJ true [] [(48, .one .b)] (.take 0 (.take 1 (.take 2 (.take 3 (.take 4 (.take 5 (.take 6 (.take 7 (.take 8 (.all [(9, .take 10 (.take 11 (.split 34 (.take 12 (.take 13 (.take 14 (.split 37 (.take 15 (.take 16 (.take 17 (.take 18 (.take 19 (.take 20 (.take 21 (.take 22 (.take 23 (.take 24 (.take 25 (.done)))))))))))) (.take 15 (.take 16 (.take 17 (.take 19 (.take 20 (.take 21 (.all [(18, .all [(22, .all [(23, .take 24 (.take 25 (.done)))])]), (22, .all [(18, .all [(23, .take 24 (.take 25 (.done)))])])]))))))))))) (.take 12 (.take 13 (.take 14 (.take 15 (.take 16 (.take 17 (.take 18 (.take 19 (.take 20 (.take 21 (.take 22 (.take 23 (.take 24 (.take 25 (.done))))))))))))))))))])))))))))))) (.cond (.o 2) (.leaf)))))) (.o 2))))))) (.seq (.seq (.o 2) (.cond (.seq (.o 2) (.leaf)) (.leaf))) (.seq (.o 10) (.seq (.o 10) (.seq (.o 3) (.leaf)))))))
def central_List_one.vc (l : Option Addr) (σ : Hp) (R : Int → Bool → Hp → Prop) : Prop :=
 NilP l fun a10 =>
 LdS (a10.add 3) σ fun t12 =>
 LoopK [.p, (.i .i64)] (fun I => I none 0 σ) fun J (best : Option Addr) (t14 : Int) v =>
 If (decide (t14 < ((t12.len : Nat) : Int))) (NilP l fun a18 =>
  LdS (a18.add 3) v fun t20 =>
  Ix t20.a t20.len t14 3 fun a22 =>
  Jn [.b] (fun (t48 : Bool) v1 =>
   If t48 (Ar .i64 (t14 + 1) fun t50 =>
    J (some a22) t50 v1)
    (Ar .i64 (t14 + 1) fun t501 =>
    J best t501 v1)) fun J1 =>
  Held v fun S =>
  NilP (some a22) fun a24 =>
  LdH S (.i .i64) ((a24.add 0).add 0) fun (t27 : Int) =>
  NilP (some a22) fun a29 =>
  LdH S .p (a29.add 2) fun (t31 : Option Addr) =>
  span_Span_Objects.call t31 v fun t32 v2 =>
  And (S v2) <|
  If (decide (t27 < t32)) (If best.isNone (J1 true v2)
    (NilP (some a22) fun a39 =>
    NilP best fun a43 =>
     (LdI .i64 ((a39.add 0).add 0) v2 fun t41 =>
     LdI .i64 ((a39.add 0).add 1) v2 fun t411 =>
     And (S v2) <|
     LdI .i64 ((a43.add 0).add 0) v2 fun t45 =>
     LdI .i64 ((a43.add 0).add 1) v2 fun t451 =>
     And (S v2) <|
     central_rank_before.call t41 t411 t45 t451 v2 fun t46 v3 =>
     And (S v3) <|
     J1 t46 v3) ∧
     (LdI .i64 ((a43.add 0).add 0) v2 fun t452 =>
     LdI .i64 ((a43.add 0).add 1) v2 fun t453 =>
     And (S v2) <|
     LdI .i64 ((a39.add 0).add 0) v2 fun t412 =>
     LdI .i64 ((a39.add 0).add 1) v2 fun t413 =>
     And (S v2) <|
     central_rank_before.call t412 t413 t452 t453 v2 fun t461 v4 =>
     And (S v4) <|
     J1 t461 v4)))
   (J1 false v2))
  (If best.isNone (R 0 false v)
   (NilP best fun a55 =>
   LdP (a55.add 2) v fun t57 =>
   span_Span_Take.call t57 v fun t58 t581 v5 =>
   NilP best fun a62 =>
   LdI .i64 ((a62.add 0).add 0) v5 fun t65 =>
   Ar .i64 (t65 + 1) fun t66 =>
   NilP best fun a67 =>
   St1 ((a67.add 0).add 0) (.int .i64 t66) v5 fun v6 =>
   R t58 true v6))
theorem central_List_one.of_vc {l : Option Addr} {σ : Hp} {R : Int → Bool → Hp → Prop} (hv : central_List_one.vc l σ R) : central_List_one.call l σ R :=
 fnK_sound Tryz.func207 (x := central_List_one.hint) (args := [.pointer l]) (rs := [.one (.i .i64), .one .b]) (R := R) (Eq.mpr (by kernel_rfl) hv)
def central_rank_before.hint : Hn := .seq (.o 3) (.seq (.reg (.seq [.op, .op, .op, .op, .op, .op, .grd false 12 [.op, .op, .op, .op, .op, .op, .grd true 5 [.op, .op, .op, .op, .op]], .op])) (.leaf))
def central_rank_before.vc (r : Int) (r1 : Int) (q : Int) (q1 : Int) (σ : Hp) (R : Bool → Hp → Prop) : Prop :=
 Nw (.cells #[.int .i64 r, .int .i64 r1] 172 (0, 0)) σ fun n2 v =>
 Nw (.cells #[.int .i64 q, .int .i64 q1] 172 (0, 0)) v fun n3 v1 =>
 LdI .i64 (n2.add 0) v1 fun t6 =>
 LdI .i64 (n3.add 0) v1 fun t8 =>
 JnB (fun r2 v2 =>
  R r2 v2) fun J =>
 If (decide (t6 > t8)) (J true v1)
  (LdI .i64 (n2.add 0) v1 fun t12 =>
  LdI .i64 (n3.add 0) v1 fun t14 =>
  JnB (fun r3 v3 =>
   J r3 v3) fun J1 =>
  If (t12 == t14) (LdI .i64 (n2.add 1) v1 fun t18 =>
   LdI .i64 (n3.add 1) v1 fun t20 =>
   J1 (decide (t18 < t20)) v1)
   (J1 false v1))
theorem central_rank_before.of_vc {r : Int} {r1 : Int} {q : Int} {q1 : Int} {σ : Hp} {R : Bool → Hp → Prop} (hv : central_rank_before.vc r r1 q q1 σ R) : central_rank_before.call r r1 q q1 σ R :=
 fnK_sound Tryz.func260 (x := central_rank_before.hint) (args := [.agg #[.int .i64 r, .int .i64 r1], .agg #[.int .i64 q, .int .i64 q1]]) (rs := [.one .b]) (R := R) (Eq.mpr (by kernel_rfl) hv)
end Go.Proofs

-- CeA
namespace Go.Ar
open Go Go.Vc Go.Proofs
set_option linter.unusedSimpArgs false
set_option linter.unusedVariables false

variable {σ : Hp} {F : Rg} {p : Nat} {c : Cls} {ps : List (Nat × Nat)} {ss : List SpA}

def blks (ps : List (Nat × Nat)) : List Nat := ps.flatMap fun x => [x.1, x.2]
theorem mem_blks {ps : List (Nat × Nat)} {b : Nat} : b ∈ blks ps ↔ ∃ x ∈ ps, b = x.1 ∨ b = x.2 := by simp [blks]
def entV : List (Nat × Nat) → List SpA → List Value
  | x :: ps, s :: ss => .int .i64 (s.many : Int) :: .int .i64 (s.st : Int) :: .pointer (some ⟨x.1, 0, none⟩) :: entV ps ss
  | _, _ => []
theorem entV_len : ∀ {ps : List (Nat × Nat)} {ss : List SpA}, ps.length = ss.length → (entV ps ss).length = 3 * ss.length
  | [], [], _ => rfl
  | x :: ps, s :: ss, h => by simp only [entV, List.length_cons] at *; rw [entV_len (by omega)]; omega
theorem entV_get : ∀ {ps : List (Nat × Nat)} {ss : List SpA} {i : Nat} {x : Nat × Nat} {s : SpA}, ps[i]? = some x → ss[i]? = some s →
    (entV ps ss)[3 * i]? = some (.int .i64 (s.many : Int)) ∧ (entV ps ss)[3 * i + 1]? = some (.int .i64 (s.st : Int)) ∧ (entV ps ss)[3 * i + 2]? = some (.pointer (some ⟨x.1, 0, none⟩))
  | [], _, _, _, _, h, _ => by simp at h
  | _ :: _, [], _, _, _, _, h => by simp at h
  | y :: ps, t :: ss, 0, x, s, h1, h2 => by simp at h1 h2; subst h1; subst h2; simp [entV]
  | y :: ps, t :: ss, i + 1, x, s, h1, h2 => by
    have := entV_get (ps := ps) (ss := ss) (i := i) (by simpa using h1) (by simpa using h2)
    simp only [entV]
    rw [show 3 * (i + 1) = 3 * i + 3 by omega]
    simpa using this
theorem entV_append : ∀ {ps ps' : List (Nat × Nat)} {ss ss' : List SpA}, ps.length = ss.length → entV (ps ++ ps') (ss ++ ss') = entV ps ss ++ entV ps' ss'
  | [], _, [], _, _ => rfl
  | x :: ps, _, s :: ss, _, h => by simp only [List.cons_append, entV, entV_append (ps := ps) (ss := ss) (by simpa using h)]
theorem entV_one1 : ∀ {ps : List (Nat × Nat)} {ss : List SpA}, ∀ v ∈ entV ps ss, one1 v = true
  | [], _, v, h => by simp [entV] at h
  | _ :: _, [], v, h => by simp [entV] at h
  | x :: ps, s :: ss, v, h => by
    simp only [entV, List.mem_cons] at h
    rcases h with rfl | rfl | rfl | h
    · rfl
    · rfl
    · rfl
    · exact entV_one1 v h

structure CeH (σ : Hp) (F : Rg) (p : Nat) (c : Cls) (ps : List (Nat × Nat)) (ss : List SpA) : Prop where
  hd : ∃ sl : Sl, Blk σ p [.int .i64 (c.size : Int), .int .i64 (c.pages : Int), .int .i64 (c.batch : Int), .slice sl.a sl.len sl.cap] ∧ RowR sl 3 (entV ps ss) σ (fun b => F b ∧ b ≠ p ∧ b ∉ blks ps)
  sp : ∀ (i : Nat) (x : Nat × Nat) s, ps[i]? = some x → ss[i]? = some s → SpH σ x.1 x.2 c s
  fp : F p
  fb : ∀ b ∈ blks ps, F b
  nd : (p :: blks ps).Nodup
  len : ps.length = ss.length
  ok : c.ok
  srt : ss.Pairwise (fun a b => a.st < b.st)

theorem CeH.loc : Lcl fun σ F => CeH σ F p c ps ss := fun σ σ' F G h hz hs => by
  obtain ⟨sl, hb, hr⟩ := h.hd
  have keep : ∀ b, b < σ.size → F b → σ'[b]? = σ[b]? := fun b hb hf => (hs b hb hf).2
  have kb : ∀ {b : Nat} {cs : List Value}, Blk σ b cs → F b → Blk σ' b cs := by
    rintro b cs ⟨e, he⟩ hf
    exact ⟨e, (keep b (Blk.lt ⟨e, he⟩) hf).trans he⟩
  have lt : ∀ b ∈ blks ps, b < σ.size := by
    intro b hb
    obtain ⟨x, hx, hbx⟩ := mem_blks.1 hb
    obtain ⟨i, hi⟩ := List.getElem?_of_mem hx
    have hil := (List.getElem?_eq_some_iff.1 hi).1
    have := (h.sp i x _ hi (List.getElem?_eq_getElem (by rw [← h.len]; exact hil))).lt
    rcases hbx with rfl | rfl
    · exact this.1
    · exact this.2
  refine ⟨⟨sl, kb hb h.fp, RowR.loc _ _ _ _ _ _ _ hr hz fun b hb hf => ⟨⟨(hs b hb hf.1).1, hf.2⟩, (hs b hb hf.1).2⟩⟩, fun i x s hx hsx => ?_, (hs p hb.lt h.fp).1, fun b hb => (hs b (lt b hb) (h.fb b hb)).1, h.nd, h.len, h.ok, h.srt⟩
  have h1 := h.sp i x s hx hsx
  have m1 : x.1 ∈ blks ps := mem_blks.2 ⟨x, List.mem_of_getElem? hx, .inl rfl⟩
  have m2 : x.2 ∈ blks ps := mem_blks.2 ⟨x, List.mem_of_getElem? hx, .inr rfl⟩
  obtain ⟨cp, hc, hd⟩ := h1.hd
  obtain ⟨r, hr⟩ := h1.row
  exact ⟨⟨cp, hc, kb hd (h.fb _ m1)⟩, ⟨r, kb hr (h.fb _ m2)⟩, h1.ne, h1.len, h1.ok, h1.fit⟩
theorem CeH.keep0 {σ' : Hp} (h : CeH σ F p c ps ss) (e : Ext0 σ σ') : CeH σ' F p c ps ss := Lcl.keep0 CeH.loc h e

theorem CeH.few (h : CeH σ F p c ps ss) : ss.length ≤ 1024 := by
  have key : ∀ i (hi : i < ss.length), i ≤ ss[i].st := by
    intro i
    induction i with
    | zero => intro _; omega
    | succ i ih =>
      intro hi
      have h1 := ih (by omega)
      have h2 := List.pairwise_iff_getElem.1 h.srt i (i + 1) (by omega) hi (by omega)
      omega
  rcases Nat.eq_zero_or_pos ss.length with h0 | h0
  · omega
  · have hl : ss.length - 1 < ss.length := by omega
    have h1 := key _ hl
    have hp : ss.length - 1 < ps.length := by rw [h.len]; exact hl
    have h2 := (h.sp _ _ _ (List.getElem?_eq_getElem hp) (List.getElem?_eq_getElem hl)).fit
    have := h.ok.2.2.2.1
    omega

/-- The row of the spans, in memory. -/
structure EnR (σ : Hp) (F : Rg) (p : Nat) (ps : List (Nat × Nat)) (ss : List SpA) (sl : Sl) (rb : Nat) (cs : List Value) : Prop where
  a : sl.a = some ⟨rb, 0, none⟩
  blk : Blk σ rb cs
  fr : F rb ∧ rb ≠ p ∧ rb ∉ blks ps
  get : ∀ {j : Nat} {v : Value}, (entV ps ss)[j]? = some v → cs[j]? = some v
  lenC : 3 * ss.length ≤ cs.length
theorem CeH.sl (h : CeH σ F p c ps ss) : ∃ sl : Sl, Blk σ p [.int .i64 (c.size : Int), .int .i64 (c.pages : Int), .int .i64 (c.batch : Int), .slice sl.a sl.len sl.cap] ∧ sl.len = ss.length ∧ (ss ≠ [] → ∃ rb cs, EnR σ F p ps ss sl rb cs) := by
  obtain ⟨sl, hb, hr⟩ := h.hd
  have hl := hr.1
  rw [entV_len h.len] at hl
  refine ⟨sl, hb, by omega, fun hne => ?_⟩
  have hpos : 0 < ss.length := List.length_pos_iff.2 hne
  rcases hr.2 with ⟨h0, _⟩ | ⟨b, cs, hq, ha, hbb, hle, hcl, ht⟩
  · omega
  · refine ⟨b, cs, ha, hbb, hq, fun {j v} hj => ?_, ?_⟩
    · rw [← ht, List.getElem?_take] at hj
      split at hj
      · exact hj
      · cases hj
    · have := congrArg List.length ht
      rw [List.length_take, entV_len h.len] at this
      omega
theorem CeH.at_i (h : CeH σ F p c ps ss) {i : Nat} (hi : i < ss.length) : ∃ x s, ps[i]? = some x ∧ ss[i]? = some s ∧ SpH σ x.1 x.2 c s := by
  have hi2 : i < ps.length := by rw [h.len]; exact hi
  have h1 : ps[i]? = some ps[i] := List.getElem?_eq_getElem hi2
  exact ⟨_, _, h1, List.getElem?_eq_getElem hi, h.sp i _ _ h1 (List.getElem?_eq_getElem hi)⟩

theorem cmade_ok (h : CeH σ F p c ps ss) {R : Bool → Hp → Prop} (hR : R true σ) : central_List_made.call (some ⟨p, 0, none⟩) σ R := by
  refine central_List_made.of_vc ?_
  unfold central_List_made.vc
  obtain ⟨sl, hb, hl, hr⟩ := h.sl
  have hc := h.ok
  unfold Cls.ok at hc
  refine JnB.intro (ifT rfl (nilP (hb.rI2 rfl ?_)))
  rw [decide_eq_true (by omega)]
  exact hR

/-- The head of the list, read. -/
theorem CeH.rS (h : CeH σ F p c ps ss) {sl : Sl} (hb : Blk σ p [.int .i64 (c.size : Int), .int .i64 (c.pages : Int), .int .i64 (c.batch : Int), .slice sl.a sl.len sl.cap]) {K : Sl → Prop} (hK : K sl) : LdS (Addr.add ⟨p, 0, none⟩ 3) σ K := hb.rS rfl hK

def I63 (x : Int) : Prop := x ≤ 9223372036854775807

theorem of_ok' (h : CeH σ F p c ps ss) (x : Int) (hx : I63 x) {R : Option Addr → Hp → Prop} (h0 : ofS c ss x = none → R none σ)
    (h1 : ∀ (i : Nat) sl rb cs, ofS c ss x = some i → i < ss.length → Blk σ p [.int .i64 (c.size : Int), .int .i64 (c.pages : Int), .int .i64 (c.batch : Int), .slice sl.a sl.len sl.cap] → EnR σ F p ps ss sl rb cs → R (some ⟨rb, 3 * i, none⟩) σ) : central_List_of.call (some ⟨p, 0, none⟩) x σ R := by
  refine central_List_of.of_vc ?_
  unfold central_List_of.vc
  obtain ⟨sl, hb, hl, hr⟩ := h.sl
  have hfew := h.few
  refine nilP (hb.rS rfl ?_)
  refine loop1 (a := .i .i64) (fun (t : Int) h' => ∃ i : Nat, t = (i : Int) ∧ i ≤ ss.length ∧ h' = σ ∧ ∀ (j : Nat) s, j < i → ss[j]? = some s → idx c s x = none) (fun t _ => ss.length - t.toNat) ⟨0, rfl, by omega, rfl, fun j s hj => by omega⟩ ?_
  rintro t h' ⟨i, rfl, hi, rfl, hno⟩
  refine ifD (fun hlt => ?_) fun hge => ?_
  · simp only at hlt
    have hi' : i < ss.length := by omega
    obtain ⟨xx, s, hp, hs, hS⟩ := h.at_i hi'
    obtain ⟨rb, cs, E⟩ := hr (by rintro rfl; simp at hi')
    have eg := entV_get hp hs
    refine nilP (hb.rS rfl ?_)
    rw [E.a]
    refine ix (by omega) (by omega) ?_
    rw [add_lit]
    refine E.blk.rP (x := some ⟨xx.1, 0, none⟩) ?_ ?_
    · have := E.get eg.2.2
      rw [show 0 + (i : Int).toNat * 3 + 2 = 3 * i + 2 by omega]; exact this
    have hfind : ∀ r, idx c s x = some r → ofS c ss x = some i := by
      intro r hr'
      refine List.findIdx?_eq_some_iff_getElem.2 ⟨hi', ?_, fun j hj => ?_⟩
      · have : ss[i] = s := by rw [List.getElem?_eq_getElem hi'] at hs; simpa using hs
        rw [this, hr']; rfl
      · rw [hno j _ hj (List.getElem?_eq_getElem (by omega))]; simp
    refine Index_ok hS x hx (fun r hr' => ifT rfl (nilP (hb.rS rfl ?_))) fun hn => ifF rfl ?_
    · rw [E.a]
      refine ix (by omega) (by omega) ?_
      rw [add_lit, show 0 + (i : Int).toNat * 3 = 3 * i by omega]
      exact h1 i sl rb cs (hfind r hr') hi' hb E
    · refine arN (m := i + 1) (by omega) (by omega) ⟨⟨i + 1, rfl, by omega, rfl, fun j s' hj hs' => ?_⟩, by omega⟩
      by_cases e : j = i
      · subst e; rw [hs] at hs'; cases hs'; exact hn
      · exact hno j s' (by omega) hs'
  · refine h0 ?_
    refine List.findIdx?_eq_none_iff.2 fun s hs => ?_
    obtain ⟨j, hj⟩ := List.getElem?_of_mem hs
    have := (List.getElem?_eq_some_iff.1 hj).1
    rw [hno j s (by simp only at hge; omega) hj]
    rfl

theorem isTk_some {x : Int} {k : Nat} {s : SpA} (hk : ofS c ss x = some k) (hs : ss[k]? = some s) : isTk c ss x = (obj c s x).map s.is := by
  unfold isTk
  rw [hk]; simp only [hs]; rfl
theorem isTk_none {x : Int} (hk : ofS c ss x = none) : isTk c ss x = none := by unfold isTk; rw [hk]

theorem CIsTaken_ok (h : CeH σ F p c ps ss) (x : Int) (hx : I63 x) {R : Bool → Int → Hp → Prop} (h1 : ∀ b, isTk c ss x = some b → R b 0 σ) (h0 : isTk c ss x = none → R false 8 σ) : central_List_IsTaken.call (some ⟨p, 0, none⟩) x σ R := by
  refine central_List_IsTaken.of_vc ?_
  unfold central_List_IsTaken.vc
  refine cmade_ok h (ifF rfl (of_ok' h x hx (fun hn => ifT rfl (h0 (isTk_none hn))) fun i sl rb cs hof hi hb E => ifF rfl (nilP ?_)))
  obtain ⟨xx, s, hp, hs, hS⟩ := h.at_i hi
  have eg := entV_get hp hs
  refine E.blk.rP (x := some ⟨xx.1, 0, none⟩) (E.get eg.2.2) ?_
  have hk := isTk_some hof hs
  exact SIsTaken_ok hS x hx (fun j hj => h1 _ (by rw [hk, hj]; rfl)) fun hn => h0 (by rw [hk, hn]; rfl)

/-- A box for an entry. -/
theorem entBox {h : Hp} {rb i : Nat} {cs : List Value} {x y : Int} {z : Option Addr} {e : Nat} (hb : Blk h rb cs) (h0 : cs[3 * i]? = some (.int .i64 x)) (h1 : cs[3 * i + 1]? = some (.int .i64 y)) (h2 : cs[3 * i + 2]? = some (.pointer z))
    {K : Int → Int → Option Addr → Prop} (hK : K x y z) : LdI .i64 (Addr.add ⟨rb, 3 * i, none⟩ 0) h fun u => LdI .i64 (Addr.add ⟨rb, 3 * i, none⟩ 1) h fun v => LdP (Addr.add ⟨rb, 3 * i, none⟩ 2) h fun w => K u v w :=
  hb.rI h0 (hb.rI h1 (hb.rP h2 hK))
theorem entNew {h : Hp} {x y : Int} {z : Option Addr} {e : Nat} {K : Addr → Hp → Prop} (hK : ∀ h', Ext0 h h' → Blk h' h.size [.int .i64 x, .int .i64 y, .pointer z] → K ⟨h.size, 0, none⟩ h') :
    Nw (.cells #[.int .i64 0, .int .i64 0, .pointer none] e (0, 0)) h fun n v => St1 (n.add 0) (.int .i64 x) v fun v1 => St1 (n.add 1) (.int .i64 y) v1 fun v2 => St1 (n.add 2) (.pointer z) v2 fun v3 => K n v3 := by
  refine nw (cs := [.int .i64 0, .int .i64 0, .pointer none]) fun v hz e hb => hb.s1 (by simp) fun v1 o1 b1 => b1.s1 (by simp) fun v2 o2 b2 => b2.s1 (by simp) fun v3 o3 b3 => ?_
  refine hK v3 ?_ b3
  exact Ext.fresh (Ext.fresh (Ext.fresh e o1.ext fun i hi => by omega) o2.ext fun i hi => by omega) o3.ext fun i hi => by omega

theorem Room_ok (h : CeH σ F p c ps ss) {R : Int → Hp → Prop} (hR : ∀ σ', Ext0 σ σ' → R (roomC ss : Int) σ') : central_List_Room.call (some ⟨p, 0, none⟩) σ R := by
  refine central_List_Room.of_vc ?_
  unfold central_List_Room.vc
  obtain ⟨sl, hb, hl, hr⟩ := h.sl
  have hfew := h.few
  have hn := h.ok.n_le
  refine cmade_ok h (ifF rfl (nilP (hb.rS rfl ?_)))
  refine loop2 (a := .i .i64) (bb := .i .i64) (fun (n t : Int) h' => ∃ i : Nat, t = (i : Int) ∧ i ≤ ss.length ∧ Ext0 σ h' ∧ n = (roomC (ss.take i) : Int) ∧ roomC (ss.take i) ≤ 128 * i) (fun _ t _ => ss.length - t.toNat) ⟨0, rfl, by omega, Ext.refl _ _, by simp [roomC], by simp [roomC]⟩ ?_
  rintro n t h' ⟨i, rfl, hi, e, rfl, hle⟩
  refine ifD (fun hlt => ?_) fun hge => ?_
  · simp only at hlt
    have hi' : i < ss.length := by omega
    obtain ⟨xx, s, hp, hs, hS⟩ := h.at_i hi'
    obtain ⟨rb, cs, E⟩ := hr (by rintro rfl; simp at hi')
    have eg := entV_get hp hs
    rw [E.a]
    refine ix (by omega) (by omega) ?_
    rw [add_lit, show 0 + (i : Int).toNat * 3 = 3 * i by omega]
    refine entBox (e := 0) (e.blk E.blk id) (E.get eg.1) (E.get eg.2.1) (E.get eg.2.2) (entNew fun v5 e5 b5 => ?_)
    have hS5 := (hS.keep0 e).keep0 e5
    refine ⟨fun h'' => Blk h'' h'.size [.int .i64 s.many, .int .i64 s.st, .pointer (some ⟨xx.1, 0, none⟩)], b5, ⟨_, fun h'' hS => by rw [add_lit, hS.cell]; rfl, ⟨_, fun h'' hS => by rw [add_lit, add_lit, hS.cell]; rfl, ?_⟩⟩⟩
    refine Objects_ok' hS5 ⟨b5, ?_⟩
    have hml := many_le' s
    have hsl := hS.len
    have htk : roomC (ss.take (i + 1)) = roomC (ss.take i) + (c.n - s.many) := by
      rw [List.take_add_one, hs]
      simp only [roomC, Option.toList_some, List.map_append, List.map_cons, List.map_nil, List.sum_append, List.sum_cons, List.sum_nil]
      omega
    refine arN (m := c.n - s.many) (by omega) (by omega) (arN (m := roomC (ss.take (i + 1))) (by omega) (by omega) (arN (m := i + 1) (by omega) (by omega) ⟨⟨i + 1, rfl, by omega, e.trans e5, rfl, by omega⟩, by omega⟩))
  · have : i = ss.length := by simp only at hge; omega
    subst this
    rw [List.take_length] at *
    exact hR _ e

def runV (c : Cls) (l : List Nat) : List Value := l.flatMap fun (s : Nat) => [.int .i64 (s : Int), .int .i64 (c.pages : Int)]
theorem runV_len (c : Cls) (l : List Nat) : (runV c l).length = 2 * l.length := by
  induction l with
  | nil => rfl
  | cons x l ih => simp only [runV, List.flatMap_cons, List.length_append, List.length_cons, List.length_nil] at *; omega
theorem Spans_ok (h : CeH σ F p c ps ss) {R : Sl → Hp → Prop} (hR : ∀ s σ', Ext0 σ σ' → RowR s 2 (runV c (ss.map (·.st))) σ' (fun b => σ.size ≤ b) → R s σ') : central_List_Spans.call (some ⟨p, 0, none⟩) σ R := by
  refine central_List_Spans.of_vc ?_
  unfold central_List_Spans.vc
  obtain ⟨sl, hb, hl, hr⟩ := h.sl
  have hfew := h.few
  refine cmade_ok h (ifF rfl (nilP (hb.rS rfl ?_)))
  refine loop2 (a := .s) (bb := .i .i64) (fun (out : Sl) (t : Int) h' => ∃ i : Nat, t = (i : Int) ∧ i ≤ ss.length ∧ Ext0 σ h' ∧ RowR out 2 (runV c ((ss.take i).map (·.st))) h' (fun b => σ.size ≤ b)) (fun _ t _ => ss.length - t.toNat) ⟨0, rfl, by omega, Ext.refl _ _, RowR.nil _ _ _ _⟩ ?_
  rintro out t h' ⟨i, rfl, hi, e, hrow⟩
  refine ifD (fun hlt => ?_) fun hge => ?_
  · simp only at hlt
    have hi' : i < ss.length := by omega
    obtain ⟨xx, s, hp, hs, hS⟩ := h.at_i hi'
    obtain ⟨rb, cs, E⟩ := hr (by rintro rfl; simp at hi')
    have eg := entV_get hp hs
    rw [E.a]
    refine ix (by omega) (by omega) ?_
    rw [add_lit, show 0 + (i : Int).toNat * 3 = 3 * i by omega]
    refine entBox (e := 0) (e.blk E.blk id) (E.get eg.1) (E.get eg.2.1) (E.get eg.2.2) (entNew fun v5 e5 b5 => b5.rP rfl ?_)
    have hS5 := (hS.keep0 e).keep0 e5
    refine Run_ok hS5 fun v6 e6 => ?_
    have e06 := (e.trans e5).trans e6
    have hrow6 := (RowR.loc _ _ _).keep0 ((RowR.loc _ _ _).keep0 hrow e5) e6
    have hlen := hrow6.1
    rw [runV_len, List.length_map, List.length_take] at hlen
    refine hrow6.push (vs := [.int .i64 (s.st : Int), .int .i64 (c.pages : Int)]) (fun b hb => Nat.le_trans e06.1 hb) rfl rfl (by simp [one1]) (by omega) (by omega) fun s' v8 hl' e' ho' => ?_
    refine arN (m := i + 1) (by omega) (by omega) ⟨⟨i + 1, rfl, by omega, Ext.fresh e06 e' fun _ h => h, ?_⟩, by omega⟩
    rw [List.take_add_one, hs]
    simp only [runV, Option.toList_some, List.map_append, List.map_cons, List.map_nil, List.flatMap_append, List.flatMap_cons, List.flatMap_nil, List.append_nil] at *
    exact ho'
  · have : i = ss.length := by simp only at hge; omega
    subst this
    rw [List.take_length] at *
    exact hR _ _ e hrow

theorem CNew_ok (hc : c.ok) {R : Option Addr → Int → Hp → Prop} (hR : ∀ σ' p, Ext0 σ σ' → σ.size ≤ p → p < σ'.size → CeH σ' (· = p) p c [] [] → R (some ⟨p, 0, none⟩) 0 σ') : central_New.call c.size c.pages c.batch σ R := by
  refine central_New.of_vc ?_
  unfold central_New.vc
  refine nw (cs := [.int .i64 c.size, .int .i64 c.pages, .int .i64 c.batch]) fun v hz e hb => ?_
  refine hb.rI rfl (hb.rI rfl (hb.rI rfl (Objects_ok _ _ _ (fun c' hc' e1 e2 e3 v1 ex => ?_) fun hno => ?_)))
  case refine_2 => rw [(clsOk_nat c).2 hc] at hno; cases hno
  have hb1 := ex.blk hb id
  refine ifF rfl (hb1.rI rfl (hb1.rI rfl (hb1.rI rfl (nw (cs := [.int .i64 c.size, .int .i64 c.pages, .int .i64 c.batch, .slice none 0 0]) fun v2 hz2 ex2 hb2 => ?_))))
  exact hR _ _ ((e.trans ex).trans ex2) (by have := ex.1; omega) (by omega) ⟨⟨⟨none, 0, 0⟩, hb2, RowR.nil _ _ _ _⟩, by simp, rfl, by simp [blks], by simp [blks], rfl, hc, by simp⟩

end Go.Ar

-- CeB
namespace Go.Ar
open Go Go.Vc Go.Proofs
set_option linter.unusedSimpArgs false
set_option linter.unusedVariables false

variable {σ : Hp} {F : Rg} {p : Nat} {c : Cls} {ps : List (Nat × Nat)} {ss : List SpA}

theorem before_ok (a b a' b' : Nat) {R : Bool → Hp → Prop} (hR : ∀ σ', Ext0 σ σ' → R (decide (a > a') || (a == a' && decide (b < b'))) σ') : central_rank_before.call (a : Int) (b : Int) (a' : Int) (b' : Int) σ R := by
  refine central_rank_before.of_vc ?_
  unfold central_rank_before.vc
  refine nw (cs := [.int .i64 a, .int .i64 b]) fun v hz e hb => nw (cs := [.int .i64 a', .int .i64 b']) fun v1 hz1 e1 hb1 => ?_
  have hb' := e1.blk hb id
  have hR' := hR _ (e.trans e1)
  refine hb'.rI rfl (hb1.rI rfl (JnB.intro (ifD (fun h => ?_) fun h => ?_)))
  · have : decide (a > a') = true := by simpa using h
    rw [this, Bool.true_or] at hR'; exact hR'
  · have : decide (a > a') = false := by simpa using h
    rw [this, Bool.false_or] at hR'
    refine hb'.rI rfl (hb1.rI rfl (JnB.intro ?_))
    rw [beqN]
    refine iff_ (fun he => ?_) fun he => ?_
    · rw [he, Bool.true_and] at hR'
      refine hb'.rI rfl (hb1.rI rfl ?_)
      have : decide ((b : Int) < (b' : Int)) = decide (b < b') := by rw [decide_eq_decide]; omega
      rw [this]; exact hR'
    · rw [he, Bool.false_and] at hR'; exact hR'

theorem bestFrom_spec : ∀ {i k : Nat}, bestFrom ss i = some k → k < i ∧ ∃ s, ss[k]? = some s ∧ s.many < s.tk.length
  | 0, _, h => by simp [bestFrom] at h
  | i + 1, k, h => by
    have up : bestFrom ss i = some k → k < i + 1 ∧ ∃ s, ss[k]? = some s ∧ s.many < s.tk.length := fun h => by
      have := bestFrom_spec h; exact ⟨by omega, this.2⟩
    simp only [bestFrom] at h
    split at h
    · rename_i x hx
      split at h
      · rename_i hlt
        have here : i < i + 1 ∧ ∃ s, ss[i]? = some s ∧ s.many < s.tk.length := ⟨by omega, x, hx, hlt⟩
        split at h
        · rename_i j hj
          split at h
          · split at h
            · cases h; exact here
            · cases h; exact up hj
          · cases h; exact here
        · cases h; exact here
      · exact up h
    · exact up h

theorem low_some {s : SpA} (h : s.many < s.tk.length) : ∃ i, low s = some i ∧ i < s.tk.length ∧ s.is i = false := by
  unfold low
  cases hf : s.tk.findIdx? (· == false) with
  | some i =>
    obtain ⟨hi, hb, _⟩ := List.findIdx?_eq_some_iff_getElem.1 hf
    refine ⟨i, rfl, hi, ?_⟩
    have : s.tk[i] = false := by simpa using hb
    simp [SpA.is, List.getD_eq_getElem?_getD, List.getElem?_eq_getElem hi, this]
  | none =>
    exfalso
    have h1 := List.findIdx?_eq_none_iff.1 hf
    have : s.many = s.tk.length := by
      unfold SpA.many
      rw [List.count_eq_length]
      intro x hx
      have := h1 x hx
      cases x
      · simp at this
      · rfl
    omega

theorem entV_set : ∀ {ps : List (Nat × Nat)} {ss : List SpA} {k : Nat} {s s' : SpA}, ps.length = ss.length → ss[k]? = some s → s'.st = s.st → entV ps (ss.set k s') = (entV ps ss).set (3 * k) (.int .i64 (s'.many : Int))
  | [], [], _, _, _, _, h, _ => by simp at h
  | [], _ :: _, _, _, _, h, _, _ => by simp at h
  | _ :: _, [], _, _, _, _, h, _ => by simp at h
  | x :: ps, t :: ss, 0, s, s', _, h, e => by simp at h; subst h; simp [entV, e]
  | x :: ps, t :: ss, k + 1, s, s', hl, h, e => by
    simp only [List.set_cons_succ, entV]
    rw [entV_set (ps := ps) (ss := ss) (s := s) (by simpa using hl) (by simpa using h) e]
    rw [show 3 * (k + 1) = 3 * k + 1 + 1 + 1 by omega]
    simp

theorem blk_unique {h : Hp} {b : Nat} {cs cs' : List Value} (h1 : Blk h b cs) (h2 : Blk h b cs') : cs = cs' := by
  obtain ⟨e, he⟩ := h1
  obtain ⟨e', he'⟩ := h2
  rw [he] at he'
  simp only [Option.some.injEq, Obj.cells.injEq] at he'
  simpa using congrArg Array.toList he'.1

theorem mem_blks_of {x : Nat × Nat} {i : Nat} (hx : ps[i]? = some x) : x.1 ∈ blks ps ∧ x.2 ∈ blks ps :=
  ⟨mem_blks.2 ⟨x, List.mem_of_getElem? hx, .inl rfl⟩, mem_blks.2 ⟨x, List.mem_of_getElem? hx, .inr rfl⟩⟩
theorem blks_apart : ∀ {ps : List (Nat × Nat)}, (blks ps).Nodup → ∀ {i j : Nat} {x y : Nat × Nat}, ps[i]? = some x → ps[j]? = some y → i ≠ j → ∀ b, (b = x.1 ∨ b = x.2) → ¬ (b = y.1 ∨ b = y.2)
  | [], _, _, _, _, _, h, _, _ => by simp at h
  | z :: ps, hn, i, j, x, y, h1, h2, hij => by
    have hn' : z.1 ∉ blks ps ∧ z.2 ∉ blks ps ∧ z.1 ≠ z.2 ∧ (blks ps).Nodup := by
      simp only [blks, List.flatMap_cons, List.cons_append, List.nil_append, List.nodup_cons, List.mem_cons, not_or] at hn
      exact ⟨hn.1.2, hn.2.1, hn.1.1, hn.2.2⟩
    intro b hb hb'
    match i, j, hij with
    | 0, 0, h => exact h rfl
    | 0, j + 1, _ =>
      simp at h1; subst h1
      have := mem_blks_of (ps := ps) (i := j) (by simpa using h2)
      rcases hb with rfl | rfl <;> rcases hb' with e | e <;> rw [e] at hn' <;> simp [this] at hn'
    | i + 1, 0, _ =>
      simp at h2; subst h2
      have := mem_blks_of (ps := ps) (i := i) (by simpa using h1)
      rcases hb with rfl | rfl <;> rcases hb' with e | e <;> rw [← e] at hn' <;> simp [this] at hn'
    | i + 1, j + 1, h => exact blks_apart hn'.2.2.2 (by simpa using h1) (by simpa using h2) (by omega) b hb hb'

/-- One span turns, and its rank with it. -/
theorem CeH.turn (h : CeH σ F p c ps ss) {k : Nat} {x : Nat × Nat} {s s' : SpA} (hx : ps[k]? = some x) (hs : ss[k]? = some s) (hst : s'.st = s.st) {σ1 : Hp} (e1 : Ext (fun b => b = x.1 ∨ b = x.2) σ σ1) (hS : SpH σ1 x.1 x.2 c s')
    {sl : Sl} {rb : Nat} {cs : List Value} (hb : Blk σ p [.int .i64 (c.size : Int), .int .i64 (c.pages : Int), .int .i64 (c.batch : Int), .slice sl.a sl.len sl.cap]) (E : EnR σ F p ps ss sl rb cs)
    {K : Hp → Prop} (hK : ∀ σ2, Ext F σ σ2 → CeH σ2 F p c ps (ss.set k s') → K σ2) : St1 ⟨rb, 3 * k, none⟩ (.int .i64 (s'.many : Int)) σ1 K := by
  obtain ⟨sl', hb', hr⟩ := h.hd
  have hsl : sl' = sl := by
    have := blk_unique hb' hb
    simp at this
    obtain ⟨a, n, c⟩ := sl; obtain ⟨a', n', c'⟩ := sl'
    simp at this ⊢
    exact this
  subst hsl
  have hm := mem_blks_of hx
  have hnd := h.nd
  simp only [List.nodup_cons] at hnd
  have hki := (List.getElem?_eq_some_iff.1 hs).1
  have hr1 := (RowR.loc sl' 3 (entV ps ss)).keep hr e1 fun b hb hf => fun hh => hf.2.2 (by rcases hh with rfl | rfl; exact hm.1; exact hm.2)
  have hb1 := e1.blk hb fun hh => hnd.1 (by rcases hh with h | h <;> rw [h]; exact hm.1; exact hm.2)
  refine hr1.st (j := 3 * k) (by rw [entV_len h.len]; omega) (fun b hba => by rw [E.a] at hba; cases hba; rfl) fun σ2 e2 hr2 => ?_
  have e12 : Ext F σ σ2 := (e1.sub fun i hi => h.fb i (by rcases hi with rfl | rfl; exact hm.1; exact hm.2)).trans (e2.sub fun i hi => hi.1)
  refine hK σ2 e12 ⟨⟨sl', e2.blk hb1 fun hh => hh.2.1 rfl, ?_⟩, fun i y t hy ht => ?_, h.fp, h.fb, h.nd, by simpa using h.len, h.ok, ?_⟩
  · rw [entV_set h.len hs hst]; exact hr2
  · have hmy := mem_blks_of hy
    have k2 : SpH σ1 y.1 y.2 c t := by
      by_cases hik : i = k
      · subst hik
        rw [hx] at hy; cases hy
        rw [List.getElem?_set_self hki] at ht; cases ht
        exact hS
      · rw [List.getElem?_set_ne (Ne.symm hik)] at ht
        have ap := blks_apart hnd.2 hy hx hik
        exact (h.sp i y t hy ht).keep e1 (ap _ (.inl rfl)) (ap _ (.inr rfl))
    exact k2.keep e2 (fun hh => hh.2.2 hmy.1) (fun hh => hh.2.2 hmy.2)
  · have : (ss.set k s').map (·.st) = ss.map (·.st) := by
      apply List.ext_getElem?
      intro i
      simp only [List.getElem?_map]
      by_cases hik : i = k
      · subst hik
        rw [List.getElem?_set_self hki, hs]; simp [hst]
      · rw [List.getElem?_set_ne (Ne.symm hik)]
    have h2 := h.srt
    rw [← List.pairwise_map (f := SpA.st) (R := (· < ·))] at h2 ⊢
    rw [this]; exact h2

theorem one_ok' (h : CeH σ F p c ps ss) {R : Int → Bool → Hp → Prop} (h1 : ∀ x ss', oneS c ss = some (x, ss') → ∀ σ', Ext F σ σ' → CeH σ' F p c ps ss' → R (x : Int) true σ') (h0 : oneS c ss = none → ∀ σ', Ext0 σ σ' → R 0 false σ') :
    central_List_one.call (some ⟨p, 0, none⟩) σ R := by
  refine central_List_one.of_vc ?_
  unfold central_List_one.vc
  obtain ⟨sl, hb, hl, hr⟩ := h.sl
  have hfew := h.few
  have hn := h.ok.n_le
  obtain ⟨rb, cs, E⟩ : ∃ rb cs, ss ≠ [] → EnR σ F p ps ss sl rb cs := by
    by_cases hne : ss = []
    · exact ⟨0, [], fun h => absurd hne h⟩
    · obtain ⟨rb, cs, E⟩ := hr hne
      exact ⟨rb, cs, fun _ => E⟩
  refine nilP (hb.rS rfl ?_)
  refine loop2 (a := .p) (bb := .i .i64) (fun (best : Option Addr) (t : Int) h' => ∃ i : Nat, t = (i : Int) ∧ i ≤ ss.length ∧ Ext0 σ h' ∧ best = (bestFrom ss i).map fun k => ⟨rb, 3 * k, none⟩) (fun _ t _ => ss.length - t.toNat) ⟨0, rfl, by omega, Ext.refl _ _, rfl⟩ ?_
  rintro best t h' ⟨i, rfl, hi, e, rfl⟩
  refine ifD (fun hlt => ?_) fun hge => ?_
  · simp only at hlt
    have hi' : i < ss.length := by omega
    have E := E (by rintro rfl; simp at hi')
    obtain ⟨xx, s, hp, hs, hS⟩ := h.at_i hi'
    have eg := entV_get hp hs
    have hsl := hS.len
    refine nilP ((e.blk hb id).rS rfl ?_)
    rw [E.a]
    refine ix (by omega) (by omega) ?_
    rw [add_lit, show 0 + (i : Int).toNat * 3 = 3 * i by omega]
    have Eb := e.blk E.blk id
    have bf : bestFrom ss (i + 1) = if s.many < s.tk.length then (match bestFrom ss i with
        | some j => match ss[j]? with
          | some y => if before s y then some i else some j
          | none => some i
        | none => some i) else bestFrom ss i := by
      simp only [bestFrom, hs]
      rfl
    have J : ∀ (r : Bool) (v : Hp), Ext0 σ v → (if r then some i else bestFrom ss i) = bestFrom ss (i + 1) →
        If r (Ar .i64 ((i : Int) + 1) fun t50 => (∃ j : Nat, t50 = (j : Int) ∧ j ≤ ss.length ∧ Ext0 σ v ∧ some (⟨rb, 3 * i, none⟩ : Addr) = (bestFrom ss j).map fun k => ⟨rb, 3 * k, none⟩) ∧ ss.length - t50.toNat < ss.length - (i : Int).toNat)
          (Ar .i64 ((i : Int) + 1) fun t50 => (∃ j : Nat, t50 = (j : Int) ∧ j ≤ ss.length ∧ Ext0 σ v ∧ ((bestFrom ss i).map fun k => (⟨rb, 3 * k, none⟩ : Addr)) = (bestFrom ss j).map fun k => ⟨rb, 3 * k, none⟩) ∧ ss.length - t50.toNat < ss.length - (i : Int).toNat) := by
      intro r v ev hr'
      cases r
      · refine ifF rfl (arN (m := i + 1) (by omega) (by omega) ⟨⟨i + 1, rfl, by omega, ev, ?_⟩, by omega⟩)
        rw [← hr']; rfl
      · refine ifT rfl (arN (m := i + 1) (by omega) (by omega) ⟨⟨i + 1, rfl, by omega, ev, ?_⟩, by omega⟩)
        rw [← hr']; rfl
    refine Jn.intro ⟨fun h'' => Blk h'' rb cs, Eb, nilP ⟨_, fun h'' hS => by rw [add_lit, add_lit, hS.cell]; exact E.get eg.1, nilP ⟨_, fun h'' hS => by rw [add_lit, hS.cell]; exact E.get eg.2.2, ?_⟩⟩⟩
    refine Objects_ok' (hS.keep0 e) ⟨Eb, ?_⟩
    refine ifD (fun hlt2 => ?_) fun hge2 => ?_
    · have hm : s.many < s.tk.length := by omega
      rw [if_pos hm] at bf
      cases hbf : bestFrom ss i with
      | none =>
        rw [hbf] at bf J
        exact ifT rfl (J true h' e bf.symm)
      | some j =>
        rw [hbf] at bf J
        obtain ⟨hji, y, hy, hym⟩ := bestFrom_spec hbf
        simp only [hy] at bf
        have hpj : j < ps.length := by rw [h.len]; omega
        have egj := entV_get (List.getElem?_eq_getElem hpj) hy
        have fin : central_rank_before.call (s.many : Int) (s.st : Int) (y.many : Int) (y.st : Int) h' fun t46 v3 => Blk v3 rb cs ∧
            If t46 (Ar .i64 ((i : Int) + 1) fun t50 => (∃ j : Nat, t50 = (j : Int) ∧ j ≤ ss.length ∧ Ext0 σ v3 ∧ some (⟨rb, 3 * i, none⟩ : Addr) = (bestFrom ss j).map fun k => ⟨rb, 3 * k, none⟩) ∧ ss.length - t50.toNat < ss.length - (i : Int).toNat)
              (Ar .i64 ((i : Int) + 1) fun t50 => (∃ j' : Nat, t50 = (j' : Int) ∧ j' ≤ ss.length ∧ Ext0 σ v3 ∧ ((some j).map fun k => (⟨rb, 3 * k, none⟩ : Addr)) = (bestFrom ss j').map fun k => ⟨rb, 3 * k, none⟩) ∧ ss.length - t50.toNat < ss.length - (i : Int).toNat) := by
          refine before_ok _ _ _ _ fun v3 e3 => ⟨e3.blk Eb id, J _ v3 (e.trans e3) ?_⟩
          rw [bf]; rfl
        refine ifF rfl (nilP (nilP ⟨?_, ?_⟩))
        · exact Eb.rI2 (E.get eg.1) (Eb.rI2 (E.get eg.2.1) ⟨Eb, Eb.rI2 (E.get egj.1) (Eb.rI2 (E.get egj.2.1) ⟨Eb, fin⟩)⟩)
        · exact Eb.rI2 (E.get egj.1) (Eb.rI2 (E.get egj.2.1) ⟨Eb, Eb.rI2 (E.get eg.1) (Eb.rI2 (E.get eg.2.1) ⟨Eb, fin⟩)⟩)
    · have hm : ¬ s.many < s.tk.length := by omega
      rw [if_neg hm] at bf
      exact J false h' e bf.symm
  · have hii : i = ss.length := by simp only at hge; omega
    subst hii
    cases hbf : bestFrom ss ss.length with
    | none =>
      refine ifT rfl (h0 ?_ _ e)
      simp [oneS, best, hbf]
    | some k =>
      obtain ⟨hk, s, hs, hsm⟩ := bestFrom_spec hbf
      have E := E (by rintro rfl; simp at hk)
      obtain ⟨xx, s', hp, hs', hS⟩ := h.at_i hk
      rw [hs] at hs'; cases hs'
      have eg := entV_get hp hs
      obtain ⟨r, hlow, hr1, hr2⟩ := low_some hsm
      have h' := h.keep0 e
      have one : oneS c ss = some (at_ c s r, ss.set k (s.put r true)) := by simp [oneS, best, hbf, hs, hlow]
      have E' : EnR _ F p ps ss sl rb cs := ⟨E.a, e.blk E.blk id, E.fr, E.get, E.lenC⟩
      refine ifF rfl (nilP (E'.blk.rP (x := some ⟨xx.1, 0, none⟩) (E.get eg.2.2) ?_))
      refine STake_ok (hS.keep0 e) hlow fun v5 e5 hS5 => nilP ?_
      have hmx := mem_blks_of hp
      have nrb : ¬ (rb = xx.1 ∨ rb = xx.2) := fun hh => E.fr.2.2 (by rcases hh with h | h <;> rw [h]; exact hmx.1; exact hmx.2)
      have hml := many_le' s
      have hmany := put_many hr1 true
      rw [hr2] at hmany
      have hmany' : (s.put r true).many = s.many + 1 := by simp at hmany; omega
      have hsl := hS.len
      refine (e5.blk E'.blk nrb).rI2 (E.get eg.1) (arN (m := s.many + 1) (by omega) (by omega) (nilP ?_))
      rw [add_lit, add_lit, Nat.add_zero, Nat.add_zero, ← hmany']
      exact h'.turn (s' := s.put r true) hp hs rfl e5 hS5 (e.blk hb id) E' fun v6 e6 h6 => h1 _ _ one v6 (e.to.trans e6) h6

theorem roomC_set {k : Nat} {s s' : SpA} (hs : ss[k]? = some s) : roomC (ss.set k s') + (s.tk.length - s.many) = roomC ss + (s'.tk.length - s'.many) := by
  unfold roomC
  induction ss generalizing k with
  | nil => simp at hs
  | cons x ss ih =>
    cases k with
    | zero => simp at hs; subst hs; simp; omega
    | succ k =>
      have := ih (by simpa using hs)
      simp only [List.set_cons_succ, List.map_cons, List.sum_cons]
      omega
theorem oneS_room {x : Nat} {ss' : List SpA} (h : oneS c ss = some (x, ss')) : roomC ss' + 1 = roomC ss := by
  unfold oneS at h
  split at h
  · rename_i k hk
    obtain ⟨_, s, hs, hsm⟩ := bestFrom_spec hk
    rw [hs] at h
    simp only at h
    split at h
    · rename_i i hi
      cases h
      obtain ⟨r, hr, hrl, hri⟩ := low_some hsm
      rw [hi] at hr; cases hr
      have h1 := roomC_set (s' := s.put i true) hs
      have h2 := put_many hrl true
      rw [hri] at h2
      have h3 : (s.put i true).tk.length = s.tk.length := by simp [SpA.put]
      simp at h2
      omega
    · cases h
  · cases h
theorem CeH.room (h : CeH σ F p c ps ss) : roomC ss ≤ 131072 := by
  have key : ∀ l : List SpA, (∀ s ∈ l, s.tk.length ≤ 128) → roomC l ≤ 128 * l.length := by
    intro l
    induction l with
    | nil => intro _; simp [roomC]
    | cons x l ih =>
      intro hl
      have h1 := hl x (by simp)
      have h2 := ih fun s hs => hl s (by simp [hs])
      simp only [roomC, List.map_cons, List.sum_cons, List.length_cons] at *
      omega
  have := key ss fun s hs => by
    obtain ⟨i, hi⟩ := List.getElem?_of_mem hs
    have hil := (List.getElem?_eq_some_iff.1 hi).1
    obtain ⟨x, s', _, hs', hS⟩ := h.at_i hil
    rw [hi] at hs'; cases hs'
    rw [hS.len]; exact h.ok.n_le
  have := h.few
  omega

theorem takeC_step {m : Nat} {x : Nat} {ss' : List SpA} (h : oneS c ss = some (x, ss')) : takeC c (m + 1) ss = (x :: (takeC c m ss').1, (takeC c m ss').2) := by
  simp [takeC, h]

theorem CTake_ok (h : CeH σ F p c ps ss) (m : Int) (hm : 0 ≤ m) {R : Sl → Int → Hp → Prop}
    (hR : ∀ s σ', Ext F σ σ' → RowR s 1 (ints (takeC c m.toNat ss).1) σ' (fun b => σ.size ≤ b) → CeH σ' (Cut F σ) p c ps (takeC c m.toNat ss).2 → R s 0 σ') : central_List_Take.call (some ⟨p, 0, none⟩) m σ R := by
  refine central_List_Take.of_vc ?_
  unfold central_List_Take.vc
  have h := CeH.loc.cut h
  have hroom := CeH.room h
  refine cmade_ok h (ifF rfl (ifDF (by omega) ?_))
  refine loop1 (a := .s) (fun (out : Sl) h' => ∃ xs ss', Ext F σ h' ∧ RowR out 1 (ints xs) h' (fun b => σ.size ≤ b) ∧ CeH h' (Cut F σ) p c ps ss' ∧ xs.length ≤ m.toNat ∧ xs.length + roomC ss' = roomC ss ∧ takeC c m.toNat ss = (xs ++ (takeC c (m.toNat - xs.length) ss').1, (takeC c (m.toNat - xs.length) ss').2))
    (fun out _ => m.toNat - out.len) ⟨[], ss, Ext.refl _ _, RowR.nil _ _ _ _, h, by simp, by simp, by simp⟩ ?_
  rintro out h' ⟨xs, ss', e, hrow, hC, hle, hrm, htk⟩
  have hlen := hrow.lenN
  refine ifD (fun hlt => ?_) fun hge => ?_
  · have hsucc : m.toNat - xs.length = (m.toNat - (xs.length + 1)) + 1 := by omega
    refine one_ok' hC (fun x ss2 hone v2 e2 hC2 => ifF rfl ?_) fun hnone v2 e2 => ifT rfl ?_
    · have e02 : Ext F σ v2 := e.trans (e2.sub fun i hi => hi.1)
      have hrow2 := (RowR.loc _ _ _).keep hrow e2 fun b _ hb hc => by have := hc.2; omega
      refine hrow2.push (vs := [.int .i64 (x : Int)]) (fun b hb => Nat.le_trans e02.1 hb) rfl rfl (by simp [one1]) (by omega) (by omega) fun s' v4 hl' e' ho' => ?_
      have hr2 := oneS_room hone
      refine ⟨⟨xs ++ [x], ss2, e02.newT e' fun i hi => .inr hi, by rw [ints_append]; exact ho', CeH.loc.keep hC2 e' fun b _ hb hc => (by have := hb.2; omega), by simp; omega, by simp; omega, ?_⟩, by omega⟩
      rw [htk, hsucc, takeC_step hone]
      simp
    · have : takeC c (m.toNat - xs.length) ss' = ([], ss') := by rw [hsucc]; simp [takeC, hnone]
      rw [this] at htk
      have hr := hR out v2 (e.trans e2.to)
      rw [htk, List.append_nil] at hr
      exact hr ((RowR.loc _ _ _).keep0 hrow e2) (hC.keep0 e2)
  · have hz : m.toNat - xs.length = 0 := by omega
    rw [hz] at htk
    have hr := hR out h' e
    rw [htk] at hr
    simp only [takeC, List.append_nil] at hr
    exact hr hrow hC
theorem CTake_neg (h : CeH σ F p c ps ss) (m : Int) (hm : m < 0) {R : Sl → Int → Hp → Prop} (hR : R ⟨none, 0, 0⟩ 1 σ) : central_List_Take.call (some ⟨p, 0, none⟩) m σ R := by
  refine central_List_Take.of_vc ?_
  unfold central_List_Take.vc
  exact cmade_ok h (ifF rfl (ifDT (by omega) hR))

end Go.Ar

-- CeC
namespace Go.Ar
open Go Go.Vc Go.Proofs
set_option linter.unusedSimpArgs false
set_option linter.unusedVariables false

variable {σ : Hp} {F : Rg} {p : Nat} {c : Cls} {ps : List (Nat × Nat)} {ss : List SpA}

def kps : List (Nat × Nat) → List SpA → List (Nat × Nat)
  | x :: ps, s :: ss => if s.many != 0 then x :: kps ps ss else kps ps ss
  | _, _ => []
theorem kps_len : ∀ {ps : List (Nat × Nat)} {ss : List SpA}, ps.length = ss.length → (kps ps ss).length = (sweep ss).length
  | [], [], _ => rfl
  | x :: ps, s :: ss, h => by
    have ih := kps_len (ps := ps) (ss := ss) (by simpa using h)
    simp only [kps, sweep, List.filter_cons] at *
    split <;> simp [ih]
theorem kps_sub : ∀ {ps : List (Nat × Nat)} {ss : List SpA}, (kps ps ss).Sublist ps
  | [], _ => by simp [kps]
  | _ :: _, [] => by simp [kps]
  | x :: ps, s :: ss => by
    simp only [kps]
    split
    · exact kps_sub.cons_cons x
    · exact kps_sub.cons x
theorem kps_append : ∀ {ps ps' : List (Nat × Nat)} {ss ss' : List SpA}, ps.length = ss.length → kps (ps ++ ps') (ss ++ ss') = kps ps ss ++ kps ps' ss'
  | [], _, [], _, _ => rfl
  | x :: ps, _, s :: ss, _, h => by
    simp only [List.cons_append, kps, kps_append (ps := ps) (ss := ss) (by simpa using h)]
    split <;> rfl
theorem kps_get : ∀ {ps : List (Nat × Nat)} {ss : List SpA} {i : Nat} {x : Nat × Nat} {s : SpA}, ps.length = ss.length → (kps ps ss)[i]? = some x → (sweep ss)[i]? = some s → ∃ j : Nat, ps[j]? = some x ∧ ss[j]? = some s
  | [], [], _, _, _, _, h, _ => by simp [kps] at h
  | y :: ps, t :: ss, i, x, s, hl, h1, h2 => by
    have ih := fun i => kps_get (ps := ps) (ss := ss) (i := i) (x := x) (s := s) (by simpa using hl)
    simp only [kps, sweep, List.filter_cons] at h1 h2
    cases hm : (t.many != 0)
    · rw [hm] at h1 h2
      obtain ⟨j, h3, h4⟩ := ih i h1 h2
      exact ⟨j + 1, by simpa using h3, by simpa using h4⟩
    · rw [hm] at h1 h2
      cases i with
      | zero => simp at h1 h2; exact ⟨0, by simp [h1], by simp [h2]⟩
      | succ i =>
        obtain ⟨j, h3, h4⟩ := ih i (by simpa using h1) (by simpa [sweep] using h2)
        exact ⟨j + 1, by simpa using h3, by simpa using h4⟩
theorem sweep_append (a b : List SpA) : sweep (a ++ b) = sweep a ++ sweep b := by simp [sweep]
theorem swept_append (a b : List SpA) : swept (a ++ b) = swept a ++ swept b := by simp [swept]
theorem runV_append (c : Cls) (a b : List Nat) : runV c (a ++ b) = runV c a ++ runV c b := by simp [runV]
theorem sublist_blks {a b : List (Nat × Nat)} (h : a.Sublist b) : (blks a).Sublist (blks b) := by
  induction h with
  | slnil => exact List.Sublist.refl _
  | cons x _ ih => exact (ih.cons _).cons _
  | cons_cons x _ ih => exact (ih.cons_cons _).cons_cons _

/-- The closure: one entry. -/
theorem sweep1_ok {h : Hp} {Q : Rg} {n3 : Nat} {o : Sl} {l : List Nat} {x1 x2 : Nat} {s : SpA} (hb : Blk h n3 [.slice o.a o.len o.cap]) (hrow : RowR o 2 (runV c l) h Q) (hQ : ∀ b, Q b → n3 < b) (hl : l.length ≤ 2000) (hS : SpH h x1 x2 c s) {R : Bool → Hp → Prop}
    (hR : ∀ h' o', Ext (fun b => b = n3 ∨ Q b) h h' → Blk h' n3 [.slice (Sl.a o') o'.len o'.cap] → RowR o' 2 (runV c (l ++ if s.many = 0 then [s.st] else [])) h' (Grow Q h) → R (s.many == 0) h') :
    CallF Tryz.prog ⟨147, #[], #[.pointer (some ⟨n3, 0, none⟩)]⟩ [.agg #[.int .i64 (s.many : Int), .int .i64 (s.st : Int), .pointer (some ⟨x1, 0, none⟩)]] [.one .b] h R := by
  refine callF (all := #[.agg #[.int .i64 (s.many : Int), .int .i64 (s.st : Int), .pointer (some ⟨x1, 0, none⟩)], .pointer (some ⟨n3, 0, none⟩)]) (by kernel_rfl) (by simp) ?_
  refine central_List_Sweep_L1.of_vc ?_
  unfold central_List_Sweep_L1.vc
  refine nw (cs := [.int .i64 (s.many : Int), .int .i64 (s.st : Int), .pointer (some ⟨x1, 0, none⟩)]) fun v hz e hb1 => ?_
  have hn3 := hb.lt
  have hbv := e.blk hb id
  have hrow := (RowR.loc o 2 (runV c l)).mono hrow (G := fun b => Q b ∧ b < h.size) fun b hb hf => ⟨hf, hb⟩
  refine Jn.intro (hb1.rI2 rfl ?_)
  rw [beqN0]
  refine iff_ (fun hm => ?_) fun hm => ?_
  · have hm' : s.many = 0 := by simpa using hm
    rw [if_pos hm'] at hR
    refine ⟨fun h' => Blk h' h.size [.int .i64 (s.many : Int), .int .i64 (s.st : Int), .pointer (some ⟨x1, 0, none⟩)] ∧ Blk h' n3 [.slice o.a o.len o.cap], ⟨hb1, hbv⟩, ⟨o, fun h' hS => by rw [hS.2.cell]; rfl, ⟨some ⟨x1, 0, none⟩, fun h' hS => by rw [add_lit, hS.1.cell]; rfl, ?_⟩⟩⟩
    refine Run_ok (hS.keep0 e) fun v2 e2 => ⟨⟨e2.blk hb1 id, e2.blk hbv id⟩, ?_⟩
    have e02 := e.trans e2
    have hrow2 := (RowR.loc _ _ _).keep0 hrow e02
    have hlen := hrow2.1
    rw [runV_len] at hlen
    refine nw (cs := [.int .i64 (s.st : Int), .int .i64 (c.pages : Int)]) fun v3 hz3 e3 hb3 => ⟨⟨(e2.trans e3).blk hb1 id, (e2.trans e3).blk hbv id⟩, ?_⟩
    have hrow3 := (RowR.loc _ _ _).keep0 hrow2 e3
    have hs2 := e02.1
    refine hrow3.app (ys := [.int .i64 (s.st : Int), .int .i64 (c.pages : Int)]) rfl rfl ?_ (by simp [one1]) ?_ ?_ Nat.zero_lt_one fun s' v4 hl' e4 ho' => ?_
    · intro j u hu
      rw [add_lit, Nat.zero_add, hb3.cell]; exact hu
    · simp only; have : (o.len + 1) * 16 ≤ 2001 * 16 := Nat.mul_le_mul (by omega) (by omega); omega
    · simp only; omega
    · have b1 : Blk v4 h.size [.int .i64 (s.many : Int), .int .i64 (s.st : Int), .pointer (some ⟨x1, 0, none⟩)] := e4.blk ((e2.trans e3).blk hb1 id) fun hh => by have := hh.2; omega
      have b2 : Blk v4 n3 [.slice o.a o.len o.cap] := e4.blk ((e2.trans e3).blk hbv id) fun hh => by have := hQ _ hh.1; omega
      refine ⟨⟨b1, b2⟩, b2.s0 (by simp) fun v5 o5 b5 => (only_blk o5 b1 (by omega)).rI2 rfl ?_⟩
      have e05 : Ext (fun b => b = n3 ∨ Q b) h v5 := (Ext0.to ((e.trans e2).trans e3)).trans (e4.sub fun i hi => .inr hi.1)|>.trans (o5.ext.sub fun i hi => .inl hi)
      rw [beqN0]
      refine hR v5 s' e05 b5 ?_
      rw [runV_append]
      have : runV c [s.st] = [.int .i64 (s.st : Int), .int .i64 (c.pages : Int)] := rfl
      rw [this]
      have k1 := (RowR.loc _ _ _).mono ho' (G := Grow Q h) fun b _ hg => by
        rcases hg with h | h
        · exact .inl h.1
        · exact .inr (by omega)
      exact (RowR.loc _ _ _).keep k1 o5.ext fun b _ hf he => by
        rcases hf with h | h
        · have := hQ _ h; omega
        · omega
  · have hm' : ¬ s.many = 0 := by simpa using hm
    rw [if_neg hm', List.append_nil] at hR
    refine hb1.rI2 rfl ?_
    rw [beqN0]
    exact hR v o e.to hbv ((RowR.loc _ _ _).keep0 ((RowR.loc _ _ _).mono hrow fun b _ hf => .inl hf.1) e)

/-- What holds while the entries are asked one by one: the runs of those that go, so far. -/
def Asked (n3 : Nat) (c : Cls) (l : List Nat) (h : Hp) : Prop := ∃ o : Sl, Blk h n3 [.slice o.a o.len o.cap] ∧ RowR o 2 (runV c l) h (fun b => n3 < b)

theorem set3 {A D : List Value} {x y z : Value} {k : Nat} (hk : k = A.length) (hD : 3 ≤ D.length) : (((A ++ D).set k x).set (k + 1) y).set (k + 2) z = A ++ [x, y, z] ++ D.drop 3 := by
  subst hk
  match D, hD with
  | d0 :: d1 :: d2 :: D, _ => simp [List.set_append]

theorem swept_take {i : Nat} {s : SpA} (hs : ss[i]? = some s) : swept (ss.take (i + 1)) = swept (ss.take i) ++ (if s.many = 0 then [s.st] else []) := by
  rw [List.take_add_one, hs, swept_append]
  congr 1
  by_cases hm : s.many = 0 <;> simp [swept, hm]
theorem sweep_take {i : Nat} {s : SpA} (hs : ss[i]? = some s) : sweep (ss.take (i + 1)) = sweep (ss.take i) ++ (if s.many = 0 then [] else [s]) := by
  rw [List.take_add_one, hs, sweep_append]
  congr 1
  by_cases hm : s.many = 0 <;> simp [sweep, hm]
theorem kps_take {i : Nat} {x : Nat × Nat} {s : SpA} (hl : ps.length = ss.length) (hx : ps[i]? = some x) (hs : ss[i]? = some s) : kps (ps.take (i + 1)) (ss.take (i + 1)) = kps (ps.take i) (ss.take i) ++ (if s.many = 0 then [] else [x]) := by
  rw [List.take_add_one, List.take_add_one, hs, hx, kps_append (by simp [hl])]
  congr 1
  by_cases hm : s.many = 0 <;> simp [kps, hm]
theorem swept_len (l : List SpA) : (swept l).length ≤ l.length := by unfold swept; rw [List.length_map]; exact List.length_filter_le _ _
theorem sweep_len (l : List SpA) : (sweep l).length ≤ l.length := List.length_filter_le _ _

theorem delete_ok (h : CeH σ F p c ps ss) {sl : Sl} {rb n3 : Nat} {cs : List Value} {σ1 : Hp} (e1 : Ext0 σ σ1) (hlen : sl.len = ss.length) (hn3 : σ.size ≤ n3) (hE : ss ≠ [] → EnR σ F p ps ss sl rb cs ∧ sl.len ≤ sl.cap ∧ cs.length = sl.cap * 3) (h0 : Asked n3 c [] σ1) {R : Sl → Hp → Prop}
    (hR : ∀ h' sl', Ext (fun b => F b ∧ b ≠ p ∧ b ∉ blks ps ∨ n3 ≤ b) σ1 h' → Asked n3 c (swept ss) h' → (sl' = sl ∧ swept ss = [] ∧ sweep ss = ss ∧ kps ps ss = ps ∧ Ext (fun b => n3 ≤ b) σ1 h' ∨ (RowR sl' 3 (entV (kps ps ss) (sweep ss)) h' (fun b => F b ∧ b ≠ p ∧ b ∉ blks ps))) → R sl' h') :
    slices_DeleteFunc_central_entry_central_entry.call sl ⟨147, #[], #[.pointer (some ⟨n3, 0, none⟩)]⟩ σ1 R := by
  refine slices_DeleteFunc_central_entry_central_entry.of_vc ?_
  unfold slices_DeleteFunc_central_entry_central_entry.vc
  refine slices_IndexFunc_central_entry_central_entry.of_vc ?_
  unfold slices_IndexFunc_central_entry_central_entry.vc
  have hfew := h.few
  have hpl := h.len
  refine loop1 (a := .i .i64) (fun (t : Int) h' => ∃ i : Nat, t = (i : Int) ∧ i ≤ ss.length ∧ Ext (fun b => n3 ≤ b) σ1 h' ∧ Asked n3 c [] h' ∧ swept (ss.take i) = [] ∧ sweep (ss.take i) = ss.take i ∧ kps (ps.take i) (ss.take i) = ps.take i) (fun t _ => ss.length - t.toNat) ⟨0, rfl, by omega, Ext.refl _ _, h0, by simp [swept], by simp [sweep], by simp [kps]⟩ ?_
  rintro t h' ⟨i, rfl, hi, e, ⟨o, hbo, hro⟩, q1, q2, q3⟩
  have eo : ∀ {v : Hp}, Ext (fun b => n3 ≤ b) σ1 v → Ext (fun b => n3 ≤ b) σ v := fun e => e1.to.trans e
  refine ifD (fun hlt => ?_) fun hge => ?_
  · have hi' : i < ss.length := by omega
    obtain ⟨E, hcap, hcl⟩ := hE (by rintro rfl; simp at hi')
    obtain ⟨xx, s, hp, hs, hS⟩ := h.at_i hi'
    have eg := entV_get hp hs
    have hrl := E.blk.lt
    have hSl := hS.lt
    rw [E.a]
    refine ix (by omega) (by omega) ?_
    rw [add_lit, show 0 + (i : Int).toNat * 3 = 3 * i by omega]
    refine entBox (e := 0) ((eo e).blk E.blk (by omega)) (E.get eg.1) (E.get eg.2.1) (E.get eg.2.2) ?_
    have hn3h : n3 < h'.size := hbo.lt
    refine sweep1_ok hbo hro (fun b h => h) (by simp) (hS.keep (eo e) (by omega) (by omega)) fun h2 o2 e2 hb2 hr2 => ?_
    have e2 : Ext (fun b => n3 ≤ b) h' h2 := e2.sub fun b hb => by omega
    have hr2 := (RowR.loc _ _ _).mono hr2 (G := fun b => n3 < b) fun b _ hb => by
      rcases hb with h | h
      · exact h
      · omega
    refine iff_ (fun hm => ?_) fun hm => ?_
    · -- the first that goes
      have hm' : s.many = 0 := by simpa using hm
      rw [if_pos hm', List.nil_append] at hr2
      have hne1 : ((i : Int) == (-1)) = false := by rw [beq_eq_false_iff_ne]; omega
      show If ((i : Int) == (-1)) _ _
      refine ifF hne1 (arN (m := i + 1) (by omega) (by omega) ?_)
      have q1' : swept (ss.take (i + 1)) = [s.st] := by rw [swept_take hs, q1, if_pos hm']; rfl
      have q2' : sweep (ss.take (i + 1)) = ss.take i := by rw [sweep_take hs, q2, if_pos hm', List.append_nil]
      have q3' : kps (ps.take (i + 1)) (ss.take (i + 1)) = ps.take i := by rw [kps_take hpl hp hs, q3, if_pos hm', List.append_nil]
      have hke : ∀ k, k ≤ ss.length → (entV (kps (ps.take k) (ss.take k)) (sweep (ss.take k))).length = 3 * (sweep (ss.take k)).length := fun k _ => entV_len (kps_len (by simp [hpl]))
      have Eb2 : Blk h2 rb cs := (eo (e.trans e2)).blk E.blk (by omega)
      refine loop2 (a := .i .i64) (bb := .i .i64) (fun (i1 j1 : Int) v => ∃ j : Nat, j1 = (j : Int) ∧ i < j ∧ j ≤ ss.length ∧ i1 = ((sweep (ss.take j)).length : Int) ∧ (sweep (ss.take j)).length < j ∧ Ext (fun b => b = rb ∨ n3 ≤ b) σ1 v ∧ Asked n3 c (swept (ss.take j)) v ∧
          Blk v rb (entV (kps (ps.take j) (ss.take j)) (sweep (ss.take j)) ++ cs.drop (3 * (sweep (ss.take j)).length))) (fun _ j1 _ => ss.length - j1.toNat) ?_ ?_
      · refine ⟨i + 1, rfl, by omega, by omega, ?_, ?_, (e.trans e2).sub fun b hb => .inr hb, ?_, ?_⟩
        · rw [q2', List.length_take]; omega
        · rw [q2', List.length_take]; omega
        · rw [q1']; exact ⟨o2, hb2, hr2⟩
        · rw [q2', q3', List.length_take, Nat.min_eq_left (by omega)]
          have : entV (ps.take i) (ss.take i) ++ cs.drop (3 * i) = cs := by
            have h1 : (entV (ps.take i) (ss.take i)).length = 3 * i := by rw [entV_len (by simp [hpl]), List.length_take]; omega
            apply List.ext_getElem?
            intro k
            rcases Nat.lt_or_ge k (3 * i) with hk | hk
            · rw [List.getElem?_append_left (by omega)]
              have h2 : (entV ps ss)[k]? = (entV (ps.take i) (ss.take i))[k]? := by
                conv => lhs; rw [← List.take_append_drop i ps, ← List.take_append_drop i ss, entV_append (by simp [hpl])]
                rw [List.getElem?_append_left (by omega)]
              rw [← h2]
              have h3 : k < (entV ps ss).length := by rw [entV_len hpl]; omega
              rw [List.getElem?_eq_getElem h3]
              exact (E.get (List.getElem?_eq_getElem h3)).symm
            · rw [List.getElem?_append_right (by omega), List.getElem?_drop, h1]
              congr 1; omega
          rw [this]; exact Eb2
      · rintro i1 j1 v ⟨j, rfl, hij, hj, rfl, hKj, ev, ⟨o3, hbo3, hro3⟩, hrow⟩
        have hK1 := hke j hj
        have evo : Ext (fun b => b = rb ∨ n3 ≤ b) σ v := e1.to.trans ev
        refine ifD (fun hlt2 => ?_) fun hge2 => ?_
        · have hj' : j < ss.length := by omega
          obtain ⟨yy, u, hpy, hsu, hSu⟩ := h.at_i hj'
          have egu := entV_get hpy hsu
          have hSul := hSu.lt
          have hm1 := mem_blks_of hpy
          refine ix (by omega) (by omega) ?_
          rw [add_lit, show 0 + (j : Int).toNat * 3 = 3 * j by omega]
          have get : ∀ d, d < 3 → ∀ w, (entV ps ss)[3 * j + d]? = some w → (entV (kps (ps.take j) (ss.take j)) (sweep (ss.take j)) ++ cs.drop (3 * (sweep (ss.take j)).length))[3 * j + d]? = some w := by
            intro d hd w hw
            rw [List.getElem?_append_right (by omega), List.getElem?_drop, hK1, show 3 * (sweep (ss.take j)).length + (3 * j + d - 3 * (sweep (ss.take j)).length) = 3 * j + d by omega]
            exact E.get hw
          refine entBox (e := 0) hrow (get 0 (by omega) _ egu.1) (get 1 (by omega) _ egu.2.1) (get 2 (by omega) _ egu.2.2) (entNew fun v5 e5 b5 => b5.rI rfl (b5.rI rfl (b5.rP rfl ?_)))
          have hn3v : n3 < v.size := hbo3.lt
          have hcut := (RowR.loc _ _ _).mono hro3 (G := fun b => n3 < b ∧ b < v.size) fun b hb hf => ⟨hf, hb⟩
          have hswl := swept_len (ss.take j)
          rw [List.length_take] at hswl
          refine sweep1_ok (e5.blk hbo3 id) ((RowR.loc _ _ _).keep0 hcut e5) (fun b hb => hb.1) (by omega) ((hSu.keep evo (fun hh => by rcases hh with h | h; exact E.fr.2.2 (h ▸ hm1.1); omega) (fun hh => by rcases hh with h | h; exact E.fr.2.2 (h ▸ hm1.2); omega)).keep0 e5) fun v6 o6 e6 hb6 hr6 => ?_
          have hsz5 := e5.1
          have hr6 := (RowR.loc _ _ _).mono hr6 (G := fun b => n3 < b) fun b _ hb => by
            rcases hb with h | h
            · exact h.1
            · omega
          have b6 : Blk v6 v.size [.int .i64 (u.many : Int), .int .i64 (u.st : Int), .pointer (some ⟨yy.1, 0, none⟩)] := e6.blk b5 fun hh => by rcases hh with h | h; omega; have := h.2; omega
          have hrb : rb < σ.size := E.blk.lt
          have row6 := e6.blk (e5.blk hrow id) fun hh => by rcases hh with h | h; omega; have := h.1; omega
          have ev6 : Ext (fun b => b = rb ∨ n3 ≤ b) σ1 v6 := (ev.trans e5.to).trans (e6.sub fun b hb => by rcases hb with h | h; omega; have := h.1; omega)
          rw [← swept_take hsu] at hr6
          have st := sweep_take hsu
          have kt := kps_take hpl hpy hsu
          by_cases hum : u.many = 0
          · rw [if_pos hum, List.append_nil] at st kt
            have : (u.many == 0) = true := by simp [hum]
            rw [this]
            refine ifF rfl (arN (m := j + 1) (by omega) (by omega) ⟨⟨j + 1, rfl, by omega, by omega, ?_, ?_, ev6, ⟨o6, hb6, hr6⟩, ?_⟩, by omega⟩)
            · rw [st]
            · rw [st]; omega
            · rw [st, kt]; exact row6
          · rw [if_neg hum] at st kt
            have : (u.many == 0) = false := by simp [hum]
            rw [this]
            refine ifT rfl (b6.rI rfl (b6.rI rfl (b6.rP rfl (ix (by omega) (by omega) ?_))))
            rw [add_lit, show 0 + ((sweep (ss.take j)).length : Int).toNat * 3 = 3 * (sweep (ss.take j)).length by omega]
            have hlen6 : (entV (kps (ps.take j) (ss.take j)) (sweep (ss.take j)) ++ cs.drop (3 * (sweep (ss.take j)).length)).length = cs.length := by
              rw [List.length_append, hK1, List.length_drop]; omega
            refine row6.s1 (by omega) fun v7 o7 b7 => b7.s1 (by simp; omega) fun v8 o8 b8 => b8.s1 (by simp; omega) fun v9 o9 b9 => ?_
            rw [Nat.add_zero, set3 hK1.symm (by rw [List.length_drop]; omega), List.drop_drop] at b9
            have ev9 : Ext (fun b => b = rb ∨ n3 ≤ b) σ1 v9 := ((ev6.trans (o7.ext.sub fun b hb => .inl hb)).trans (o8.ext.sub fun b hb => .inl hb)).trans (o9.ext.sub fun b hb => .inl hb)
            have e69 : Ext (· = rb) v6 v9 := (o7.ext.trans o8.ext).trans o9.ext
            refine arN (m := (sweep (ss.take j)).length + 1) (by omega) (by omega) (arN (m := j + 1) (by omega) (by omega) ⟨⟨j + 1, rfl, by omega, by omega, ?_, ?_, ev9, ⟨o6, e69.blk hb6 (by omega), (RowR.loc _ _ _).keep hr6 e69 fun b _ hb he => by omega⟩, ?_⟩, by omega⟩)
            · rw [st]; simp
            · rw [st]; simp; omega
            · rw [st, kt, entV_append (kps_len (by simp [hpl]))]
              simp only [List.length_append, List.length_cons, List.length_nil, entV]
              rw [show 3 * ((sweep (ss.take j)).length + (0 + 1)) = 3 * (sweep (ss.take j)).length + 3 by omega]
              exact b9
        · have hjj : j = ss.length := by omega
          subst hjj
          rw [List.take_length] at *
          have htl : ps.take ss.length = ps := by rw [← hpl, List.take_length]
          rw [htl] at hrow hK1
          have hswl := sweep_len ss
          refine slc (by omega) (by omega) (by omega) ?_
          have hK3 : 3 * (sweep ss).length ≤ cs.length := by omega
          have hlt3 : (sweep ss).length < ss.length := hKj
          rw [if_neg (by omega)]
          simp only [E.a, Option.map_some, add_lit, Nat.zero_add]
          refine ⟨by simp [one1], ?_⟩
          simp only
          have hz : (List.replicate (sl.len - (sweep ss).length) [Value.int .i64 0, .int .i64 0, .pointer none]).flatten.length = 3 * (sl.len - (sweep ss).length) := by
            rw [List.length_flatten, List.map_replicate, List.sum_replicate_nat]; simp; omega
          refine stN_blk (o := (sweep ss).length * 3) (i := 0) hrow (by rw [hz, List.length_append, hK1, List.length_drop]; omega) fun v10 o10 b10 => ?_
          refine slc (lo := 0) (by omega) (by omega) (by omega) ?_
          have ev10 : Ext (fun b => b = rb ∨ n3 ≤ b) σ1 v10 := ev.trans (o10.ext.sub fun b hb => .inl hb)
          refine hR v10 _ (ev10.sub fun b hb => ?_) ⟨o3, only_blk o10 hbo3 (by have := E.blk.lt; omega), (RowR.loc _ _ _).keep hro3 o10.ext fun b _ hb he => by have := E.blk.lt; omega⟩ (.inr ?_)
          · rcases hb with rfl | h
            · exact .inl E.fr
            · exact .inr h
          · refine ⟨by rw [entV_len (kps_len hpl)]; simp; omega, .inr ⟨rb, _, E.fr, ?_, b10, ?_, ?_, ?_⟩⟩
            · simp only [E.a]
              split <;> simp [add_lit]
            · simp only; omega
            · simp only [List.length_append, List.length_take, List.length_drop, hz, hK1]; omega
            · rw [entV_len (kps_len hpl), Nat.add_zero, show (sweep ss).length * 3 = 3 * (sweep ss).length by omega]
              rw [List.append_assoc, List.take_append_of_le_length (by rw [List.length_take, List.length_append, hK1]; omega), List.take_take, Nat.min_self]
              rw [List.take_append_of_le_length (by omega), List.take_of_length_le (by omega)]
    · have hm' : ¬ s.many = 0 := by simpa using hm
      rw [if_neg hm', List.append_nil] at hr2
      refine arN (m := i + 1) (by omega) (by omega) ⟨⟨i + 1, rfl, by omega, e.trans e2, ⟨o2, hb2, hr2⟩, ?_, ?_, ?_⟩, by omega⟩
      · rw [swept_take hs, q1, if_neg hm']; rfl
      · rw [sweep_take hs, q2, if_neg hm', List.take_add_one, hs]; rfl
      · rw [kps_take hpl hp hs, q3, if_neg hm', List.take_add_one, hp]; rfl
  · have hii : i = ss.length := by omega
    subst hii
    rw [List.take_length] at *
    have htl : ps.take ss.length = ps := by rw [← hpl, List.take_length]
    rw [htl] at q3
    have hne1 : ((-1 : Int) == (-1)) = true := rfl
    refine ifT hne1 (hR h' sl (e.sub fun b hb => .inr hb) ?_ (.inl ⟨rfl, q1, q2, q3, e⟩))
    rw [q1]; exact ⟨o, hbo, hro⟩

end Go.Ar

-- CeD
namespace Go.Ar
open Go Go.Vc Go.Proofs
set_option linter.unusedSimpArgs false
set_option linter.unusedVariables false

variable {σ : Hp} {F : Rg} {p : Nat} {c : Cls} {ps : List (Nat × Nat)} {ss : List SpA}

theorem CeH.sl' (h : CeH σ F p c ps ss) : ∃ sl : Sl, Blk σ p [.int .i64 (c.size : Int), .int .i64 (c.pages : Int), .int .i64 (c.batch : Int), .slice sl.a sl.len sl.cap] ∧ sl.len = ss.length ∧ RowR sl 3 (entV ps ss) σ (fun b => F b ∧ b ≠ p ∧ b ∉ blks ps) ∧
    ∃ rb cs, (ss ≠ [] → EnR σ F p ps ss sl rb cs ∧ sl.len ≤ sl.cap ∧ cs.length = sl.cap * 3) := by
  obtain ⟨sl, hb, hr⟩ := h.hd
  have hl := hr.1
  rw [entV_len h.len] at hl
  refine ⟨sl, hb, by omega, hr, ?_⟩
  rcases hr.2 with ⟨h0, _⟩ | ⟨b, cs, hq, ha, hbb, hle, hcl, ht⟩
  · exact ⟨0, [], fun hne => by have := List.length_pos_iff.2 hne; omega⟩
  · refine ⟨b, cs, fun _ => ⟨⟨ha, hbb, hq, fun {j v} hj => ?_, ?_⟩, hle, hcl⟩⟩
    · rw [← ht, List.getElem?_take] at hj
      split at hj
      · exact hj
      · cases hj
    · have := congrArg List.length ht
      rw [List.length_take, entV_len h.len] at this
      omega

theorem Sweep_ok (h : CeH σ F p c ps ss) {R : Sl → Hp → Prop}
    (hR : ∀ o σ', Ext F σ σ' → RowR o 2 (runV c (swept ss)) σ' (fun b => σ.size ≤ b) → CeH σ' (Cut F σ) p c (kps ps ss) (sweep ss) → R o σ') : central_List_Sweep.call (some ⟨p, 0, none⟩) σ R := by
  refine central_List_Sweep.of_vc ?_
  unfold central_List_Sweep.vc
  have h := CeH.loc.cut h
  obtain ⟨sl, hb, hl, hrow, rb, cs, hE⟩ := h.sl'
  refine cmade_ok h (ifF rfl (nw (cs := [.slice none 0 0]) fun v1 hz1 e1 hb1 => nilP ((e1.blk hb id).rS rfl ?_)))
  refine delete_ok h e1 hl (Nat.le_refl _) hE ⟨⟨none, 0, 0⟩, hb1, RowR.nil _ _ _ _⟩ fun v2 sl' e2 ⟨o, hbo, hro⟩ hcase => nilP ?_
  have hplt := hb.lt
  have hnd := h.nd
  have hsub := sublist_blks (kps_sub (ps := ps) (ss := ss))
  simp only [List.nodup_cons] at hnd
  refine (e2.blk (e1.blk hb id) fun hh => by rcases hh with h | h; exact h.2.1 rfl; omega).s1 (by simp) fun v3 o3 hb3 => ?_
  have hbo3 := only_blk o3 hbo (by have := hbo.lt; omega)
  refine hbo3.rS0 rfl (hR o v3 ?_ ((RowR.loc _ _ _).keep ((RowR.loc _ _ _).mono hro fun b _ hb => by omega) o3.ext fun b _ hb he => by omega) ?_)
  · refine (e1.to.newT e2 fun b hb => ?_).newT o3.ext fun b hb => ?_
    · rcases hb with h | h
      · exact .inl h.1.1
      · exact .inr h
    · subst hb; exact .inl h.fp.1
  · have esp : ∀ b, b ∈ blks ps → b < σ.size → ¬ (Cut F σ b ∧ b ≠ p ∧ b ∉ blks ps ∨ σ.size ≤ b) := fun b hb hlt hh => by
      rcases hh with h | h
      · exact h.2.2 hb
      · omega
    refine ⟨⟨sl', hb3, ?_⟩, fun i x s hx hs => ?_, h.fp, fun b hb => h.fb b (hsub.subset hb), ?_, kps_len h.len, h.ok, h.srt.sublist List.filter_sublist⟩
    · rcases hcase with ⟨rfl, _, q2, q3, ex⟩ | hr
      · rw [q2, q3]
        exact (RowR.loc _ _ _).keep ((RowR.loc _ _ _).keep ((RowR.loc _ _ _).keep0 hrow e1) ex fun b _ hb he => by have := hb.1.2; omega) o3.ext fun b _ hb he => hb.2.1 he
      · exact (RowR.loc _ _ _).keep ((RowR.loc _ _ _).mono hr fun b _ hb => ⟨hb.1, hb.2.1, fun hm => hb.2.2 (hsub.subset hm)⟩) o3.ext fun b _ hb he => hb.2.1 he
    · obtain ⟨j, hxj, hsj⟩ := kps_get h.len hx hs
      have hS := h.sp j x s hxj hsj
      have hm := mem_blks_of hxj
      have hl := hS.lt
      exact ((hS.keep0 e1).keep e2 (esp _ hm.1 hl.1) (esp _ hm.2 hl.2)).keep o3.ext (fun he => hnd.1 (he ▸ hm.1)) (fun he => hnd.1 (he ▸ hm.2))
    · simp only [List.nodup_cons]
      exact ⟨fun hm => hnd.1 (hsub.subset hm), hnd.2.sublist hsub⟩

/-! ## Put -/
theorem ofS_put {x : Int} {k i : Nat} {s : SpA} (hc : 0 < c.size) (hk : ofS c ss x = some k) (hs : ss[k]? = some s) (v : Bool) (y : Int) : ofS c (ss.set k (s.put i v)) y = ofS c ss y := by
  have hid : ∀ t : SpA, ∀ j w z, idx c (t.put j w) z = idx c t z := fun t j w z => by unfold idx SpA.put; simp only [List.length_set]
  unfold ofS
  have hki := (List.getElem?_eq_some_iff.1 hs).1
  have : (ss.set k (s.put i v)).map (fun s => (idx c s y).isSome) = ss.map (fun s => (idx c s y).isSome) := by
    apply List.ext_getElem?
    intro j
    simp only [List.getElem?_map]
    by_cases hjk : j = k
    · subst hjk; rw [List.getElem?_set_self hki, hs]; simp [hid]
    · rw [List.getElem?_set_ne (Ne.symm hjk)]
  have h2 : ∀ l : List SpA, l.findIdx? (fun s => (idx c s y).isSome) = (l.map fun s => (idx c s y).isSome).findIdx? id := fun l => by rw [List.findIdx?_map]; rfl
  rw [h2, h2, this]

/-- All of the list are taken objects, each once. -/
def AllT (c : Cls) (ss : List SpA) (xs : List Int) : Prop := (∀ x ∈ xs, isTk c ss x = some true) ∧ xs.Nodup
theorem isTk_inv {x : Int} {b : Bool} (h : isTk c ss x = some b) : ∃ k s i, ofS c ss x = some k ∧ ss[k]? = some s ∧ obj c s x = some i ∧ s.is i = b := by
  unfold isTk at h
  split at h
  · rename_i k hk
    split at h
    · rename_i s hs
      cases ho : obj c s x with
      | none => rw [ho] at h; cases h
      | some i => rw [ho] at h; exact ⟨k, s, i, hk, hs, ho, by simpa [SpA.is] using h⟩
    · cases h
  · cases h
theorem put1_eq {x : Int} {k i : Nat} {s : SpA} (hk : ofS c ss x = some k) (hs : ss[k]? = some s) (ho : obj c s x = some i) : put1 c ss x = ss.set k (s.put i false) := by
  simp [put1, hk, hs, ho]
theorem put1_isTk {x y : Int} (hc : 0 < c.size) (hx : isTk c ss x = some true) (hne : y ≠ x) : isTk c (put1 c ss x) y = isTk c ss y := by
  obtain ⟨k, s, i, hk, hs, ho, _⟩ := isTk_inv hx
  rw [put1_eq hk hs ho]
  have hki := (List.getElem?_eq_some_iff.1 hs).1
  have hof := ofS_put hc hk hs false (i := i) y
  have hob : ∀ t : SpA, ∀ j w z, obj c (t.put j w) z = obj c t z := fun t j w z => by unfold obj idx at_ SpA.put; simp only [List.length_set]
  cases hy : ofS c ss y with
  | none => rw [isTk_none (hof.trans hy), isTk_none hy]
  | some m =>
    by_cases hmk : m = k
    · subst hmk
      rw [isTk_some (hof.trans hy) (List.getElem?_set_self hki), isTk_some hy hs, hob]
      cases hoy : obj c s y with
      | none => rfl
      | some j =>
        simp only [Option.map_some, Option.some.injEq]
        have hij : i ≠ j := fun e => by
          subst e
          exact hne (((obj_some hc).1 hoy).1.trans ((obj_some hc).1 ho).1.symm)
        simp [SpA.is, SpA.put, List.getD_eq_getElem?_getD, List.getElem?_set_ne hij]
    · have hml : m < ss.length := (List.findIdx?_eq_some_iff_getElem.1 hy).1
      rw [isTk_some (hof.trans hy) ((List.getElem?_set_ne (Ne.symm hmk)).trans (List.getElem?_eq_getElem hml)), isTk_some hy (List.getElem?_eq_getElem hml)]
theorem AllT.next {x : Int} {xs : List Int} (hc : 0 < c.size) (h : AllT c ss (x :: xs)) : AllT c (put1 c ss x) xs := by
  have hn := List.nodup_cons.1 h.2
  refine ⟨fun y hy => ?_, hn.2⟩
  rw [put1_isTk hc (h.1 x (by simp)) fun e => hn.1 (e ▸ hy)]
  exact h.1 y (by simp [hy])

theorem putE_ok {xs : List Int} (h : putE c ss xs = 0) : AllT c ss xs := by
  unfold putE at h
  split at h
  · cases h
  · rename_i h1
    split at h
    · cases h
    · rename_i h2
      simp only [Bool.or_eq_true, not_or, Bool.not_eq_true, List.any_eq_false, Bool.not_eq_false', decide_eq_true_eq, beq_iff_eq] at h1 h2
      refine ⟨fun x hx => ?_, h2.2⟩
      have a := h1 x hx
      have b := h2.1 x hx
      cases ht : isTk c ss x with
      | none => rw [ht] at a; simp at a
      | some v => cases v
                  · rw [ht] at b; exact absurd rfl b
                  · rfl

/-- The list's objects are put, one by one. -/
theorem putLoop_ok {sl : Sl} {xs : List Int} {X : Rg} (h : CeH σ F p c ps ss) (hs : SlR sl 1 (xs.map (Value.int .i64)) σ X) (hX : ∀ b, X b → ¬ F b) (hi : ∀ x ∈ xs, I63 x) (hA : AllT c ss xs) (hl : xs.length ≤ 1000000) {K : Hp → Prop}
    (hK : ∀ σ', Ext F σ σ' → CeH σ' F p c ps (xs.foldl (put1 c) ss) → K σ') :
    LoopK [(.i .i64)] (fun I1 => I1 0 σ) fun J3 (t49 : Int) v6 => If (decide (t49 < ((sl.len : Nat) : Int))) (Ix sl.a sl.len t49 1 fun a51 => LdI .i64 a51 v6 fun addr1 =>
     central_List_of.call (some ⟨p, 0, none⟩) addr1 v6 fun vx v7 => NilP vx fun a57 => LdP (a57.add 2) v7 fun t59 => span_Span_Put.call t59 addr1 v7 fun t61 v8 => NilP vx fun a63 => LdI .i64 ((a63.add 0).add 0) v8 fun t66 =>
     Ar .i64 (t66 - 1) fun t67 => NilP vx fun a68 => St1 ((a68.add 0).add 0) (.int .i64 t67) v8 fun v9 => Ar .i64 (t49 + 1) fun t71 => J3 t71 v9) (K v6) := by
  have hlen : sl.len = xs.length := by have := hs.1; simp at this; omega
  have hcs : 0 < c.size := by have := h.ok.1; omega
  refine loop1 (a := .i .i64) (fun (t : Int) h' => ∃ (i : Nat) (ss' : List SpA), t = (i : Int) ∧ i ≤ xs.length ∧ Ext F σ h' ∧ CeH h' F p c ps ss' ∧ AllT c ss' (xs.drop i) ∧ (xs.drop i).foldl (put1 c) ss' = xs.foldl (put1 c) ss) (fun t _ => xs.length - t.toNat) ⟨0, ss, rfl, by omega, Ext.refl _ _, h, by simpa using hA, by simp⟩ ?_
  rintro t h' ⟨i, ss', rfl, hil, e, hC, hA', hf⟩
  refine ifD (fun hlt => ?_) fun hge => ?_
  · have hi' : i < xs.length := by omega
    have hx : xs[i]? = some xs[i] := List.getElem?_eq_getElem hi'
    have hd : xs.drop i = xs[i] :: xs.drop (i + 1) := List.drop_eq_getElem_cons hi'
    rw [hd] at hA' hf
    refine ((SlR.loc _ _ _).keep hs e fun b _ hb hF => hX b hb hF).ixI hx ?_
    obtain ⟨k, s, j, hk, hss, ho, hit⟩ := isTk_inv (hA'.1 xs[i] List.mem_cons_self)
    have hix := hi xs[i] (List.getElem_mem hi')
    refine of_ok' hC xs[i] hix (fun hn => by rw [hk] at hn; cases hn) fun k' sl' rb cs hof hkl hb E => nilP ?_
    rw [hk] at hof; cases hof
    obtain ⟨yy, s', hp, hs', hS⟩ := hC.at_i hkl
    rw [hss] at hs'; cases hs'
    have eg := entV_get hp hss
    have hj := ((obj_some hcs).1 ho).2
    refine E.blk.rP (x := some ⟨yy.1, 0, none⟩) (E.get eg.2.2) ?_
    refine SPut_ok hS hix ho hit fun v8 e8 hS8 => nilP ?_
    have hmx := mem_blks_of hp
    have nrb : ¬ (rb = yy.1 ∨ rb = yy.2) := fun hh => E.fr.2.2 (by rcases hh with h | h <;> rw [h]; exact hmx.1; exact hmx.2)
    have hml := many_le' s
    have hmany := put_many hj false
    rw [hit] at hmany
    have hsl := hS.len
    have hnl := hS.ok.n_le
    have hmany' : ((s.put j false).many : Int) = s.many - 1 := by simp at hmany; omega
    refine (e8.blk E.blk nrb).rI2 (E.get eg.1) (ar (by omega) (by omega) (nilP ?_))
    simp only [add_lit, Nat.add_zero]
    rw [← hmany']
    refine hC.turn (s' := s.put j false) hp hss rfl e8 hS8 hb E fun v9 e9 hC9 => ?_
    refine arN (m := i + 1) (by omega) (by omega) ⟨⟨i + 1, _, rfl, by omega, e.trans e9, hC9, ?_, ?_⟩, by omega⟩
    · have := AllT.next hcs hA'
      rwa [put1_eq hk hss ho] at this
    · rw [List.foldl_cons, put1_eq hk hss ho] at hf; exact hf
  · have : i = xs.length := by omega
    subst this
    rw [List.drop_length, List.foldl_nil] at hf
    subst hf
    exact hK h' e hC

theorem CPut_ok (h : CeH σ F p c ps ss) {sl : Sl} {xs : List Int} {X : Rg} (hs : SlR sl 1 (xs.map (Value.int .i64)) σ X) (hX : ∀ b, X b → ¬ F b) (hi : ∀ x ∈ xs, I63 x) (hl : xs.length ≤ 1000000) (hcap : sl.len ≤ sl.cap) {R : Sl → Int → Hp → Prop}
    (h0 : putE c ss xs ≠ 0 → R ⟨none, 0, 0⟩ (putE c ss xs) σ)
    (h1 : putE c ss xs = 0 → ∀ o σ', Ext F σ σ' → RowR o 2 (runV c (swept (xs.foldl (put1 c) ss))) σ' (fun b => σ.size ≤ b) → CeH σ' (Cut F σ) p c (kps ps (xs.foldl (put1 c) ss)) (sweep (xs.foldl (put1 c) ss)) → R o 0 σ') :
    central_List_Put.call (some ⟨p, 0, none⟩) sl σ R := by
  refine central_List_Put.of_vc ?_
  unfold central_List_Put.vc
  have hlen : sl.len = xs.length := by have := hs.1; simp at this; omega
  refine cmade_ok h (ifF rfl ?_)
  have tw : ∀ i, (xs.take i).any (fun x => isTk c ss x == some false) = true ∨ ¬ (xs.take i).Nodup → (∀ x ∈ xs, (isTk c ss x).isSome = true) → putE c ss xs = 9 := by
    intro i hb hall
    unfold putE
    rw [if_neg, if_pos]
    · rcases hb with hb | hb
      · rw [List.any_eq_true] at hb
        obtain ⟨x, hx, hx2⟩ := hb
        have : xs.any (fun x => isTk c ss x == some false) = true := List.any_eq_true.2 ⟨x, List.mem_of_mem_take hx, hx2⟩
        rw [this]; rfl
      · have : ¬ xs.Nodup := fun hn => hb (hn.sublist (List.take_sublist _ _))
        simp [this]
    · simp only [Bool.not_eq_true, List.any_eq_false]
      intro x hx
      have := hall x hx
      cases ht : isTk c ss x
      · rw [ht] at this; cases this
      · simp
  refine loop2 (a := .b) (bb := .i .i64) (fun (tw : Bool) (t : Int) h' => ∃ i : Nat, t = (i : Int) ∧ i ≤ xs.length ∧ h' = σ ∧ (∀ x ∈ xs.take i, (isTk c ss x).isSome = true) ∧ (tw = true ↔ (xs.take i).any (fun x => isTk c ss x == some false) = true ∨ ¬ (xs.take i).Nodup)) (fun _ t _ => xs.length - t.toNat)
    ⟨0, rfl, by omega, rfl, by simp, by simp⟩ ?_
  rintro tw' t h' ⟨i, rfl, hil, rfl, hsome, htw⟩
  refine ifD (fun hlt => ?_) fun hge => ?_
  · have hi' : i < xs.length := by omega
    have hx : xs[i]? = some xs[i] := List.getElem?_eq_getElem hi'
    have hix := hi xs[i] (List.getElem_mem hi')
    have htk : xs.take (i + 1) = xs.take i ++ [xs[i]] := by rw [List.take_add_one, hx]; rfl
    refine hs.ixI hx (CIsTaken_ok h xs[i] hix (fun b hb => ifF rfl ?_) fun hn => ifT rfl ?_)
    · have hsome' : ∀ x ∈ xs.take (i + 1), (isTk c ss x).isSome = true := by
        rw [htk]
        intro x hx
        rcases List.mem_append.1 hx with h1 | h1
        · exact hsome x h1
        · simp at h1; subst h1; rw [hb]; rfl
      have fin : ∀ r1 : Bool, (r1 = true ↔ (xs.take (i + 1)).any (fun x => isTk c ss x == some false) = true ∨ ¬ (xs.take (i + 1)).Nodup) → Ar .i64 ((i : Int) + 1) fun t45 =>
          (∃ j : Nat, t45 = (j : Int) ∧ j ≤ xs.length ∧ h' = h' ∧ (∀ x ∈ xs.take j, (isTk c ss x).isSome = true) ∧ (r1 = true ↔ (xs.take j).any (fun x => isTk c ss x == some false) = true ∨ ¬ (xs.take j).Nodup)) ∧ xs.length - t45.toNat < xs.length - (i : Int).toNat :=
        fun r1 hr1 => arN (m := i + 1) (by omega) (by omega) ⟨⟨i + 1, rfl, by omega, rfl, hsome', hr1⟩, by omega⟩
      have hnd : ∀ y : Int, (xs.take i ++ [y]).Nodup ↔ (xs.take i).Nodup ∧ y ∉ xs.take i := fun y => by
        rw [List.nodup_append]
        constructor
        · exact fun h => ⟨h.1, fun hm => h.2.2 y hm y (by simp) rfl⟩
        · exact fun h => ⟨h.1, by simp, fun a ha z hz e => by simp at hz; subst hz; exact h.2 (e ▸ ha)⟩
      have ex : (xs.take (i + 1)).any (fun x => isTk c ss x == some false) = true ∨ ¬ (xs.take (i + 1)).Nodup ↔ (tw' = true ∨ b = false) ∨ xs[i] ∈ xs.take i := by
        rw [htk, hnd, List.any_append, htw]
        simp only [List.any_cons, List.any_nil, Bool.or_false, Bool.or_eq_true, hb]
        have hbb : ((some b == some false) = true) ↔ b = false := by cases b <;> simp
        rw [hbb]
        constructor
        · rintro ((h | h) | h)
          · exact .inl (.inl (.inl h))
          · exact .inl (.inr h)
          · by_cases hn : (xs.take i).Nodup
            · by_cases hm : xs[i] ∈ xs.take i
              · exact .inr hm
              · exact absurd ⟨hn, hm⟩ h
            · exact .inl (.inl (.inr hn))
        · rintro (((h | h) | h) | h)
          · exact .inl (.inl h)
          · exact .inr fun hh => h hh.1
          · exact .inl (.inr h)
          · exact .inr fun hh => hh.2 h
      -- the three ways to the flag
      have J1 : ∀ r : Bool, (r = true ↔ tw' = true ∨ b = false) → JnB (fun r1 v4 => Ar .i64 ((i : Int) + 1) fun t45 =>
          (∃ j : Nat, t45 = (j : Int) ∧ j ≤ xs.length ∧ v4 = h' ∧ (∀ x ∈ xs.take j, (isTk c ss x).isSome = true) ∧ (r1 = true ↔ (xs.take j).any (fun x => isTk c ss x == some false) = true ∨ ¬ (xs.take j).Nodup)) ∧ xs.length - t45.toNat < xs.length - (i : Int).toNat) fun J2 =>
          If r (J2 true h') (SlcL sl 1 0 (i : Int) (sl.cap : Nat) fun t41 => slices_Contains_int_int.call t41 xs[i] h' fun t43 v5 => J2 t43 v5) := by
        intro r hr
        refine JnB.intro ?_
        cases r
        · refine ifF rfl ?_
          refine slc (lo := 0) (by omega) (by omega) (by omega) ?_
          have hsub : SlR ⟨if sl.cap = 0 then sl.a else sl.a.map (·.add (0 * 1)), i - 0, sl.cap - 0⟩ 1 ((xs.take i).map (Value.int .i64)) h' X := by
            refine ⟨by simp; omega, ?_⟩
            rcases hs.2 with h0 | ⟨b', o', cs', hf', ha', hb', hc'⟩
            · left
              have : xs = [] := by simpa using h0
              simp [this]
            · refine .inr ⟨b', o', cs', hf', ?_, hb', fun j hj => ?_⟩
              · rw [if_neg (by omega), ha']; simp [add_lit]
              · simp only [List.length_map, List.length_take] at hj
                rw [hc' j (by simp; omega), List.map_take, List.getElem?_take, if_pos (by omega)]
          refine containsI_ok hsub (by simp; omega) _ (fin _ ?_)
          rw [ex, ← hr]
          simp
        · refine ifT rfl (fin true ?_)
          rw [ex, ← hr]; simp
      refine JnB.intro ?_
      cases tw'
      · refine ifF rfl (J1 _ ?_)
        cases b <;> simp
      · exact ifT rfl (J1 _ (by simp))
    · have : putE c ss xs = 8 := by
        unfold putE
        rw [if_pos]
        exact List.any_eq_true.2 ⟨xs[i], List.getElem_mem hi', by rw [hn]; rfl⟩
      have h0 := h0 (by rw [this]; decide)
      rw [this] at h0; exact h0
  · have : i = xs.length := by omega
    subst this
    rw [List.take_length] at *
    cases tw'
    · refine ifF rfl ?_
      have hE : putE c ss xs = 0 := by
        unfold putE
        have h2 : ¬ (xs.any (fun x => isTk c ss x == some false) = true ∨ ¬ xs.Nodup) := fun hh => by have := htw.2 hh; cases this
        rw [if_neg, if_neg]
        · simp only [not_or, Bool.not_eq_true, Decidable.not_not] at h2
          rw [h2.1]; simp [h2.2]
        · simp only [Bool.not_eq_true, List.any_eq_false]
          intro x hx
          have := hsome x hx
          cases ht : isTk c ss x
          · rw [ht] at this; cases this
          · simp
      refine putLoop_ok (CeH.loc.cut h) hs (fun b hb hf => hX b hb hf.1) hi (putE_ok hE) hl fun v6 e6 hC6 => ?_
      refine Sweep_ok hC6 fun o v10 e10 hro hC10 => ?_
      exact h1 hE o v10 ((e6.trans e10).sub fun b hb => hb.1) ((RowR.loc _ _ _).mono hro fun b _ hb => Nat.le_trans e6.1 hb) (CeH.loc.mono hC10 fun b _ hb => hb.1)
    · refine ifT rfl ?_
      have h9 := tw xs.length (by rw [List.take_length]; exact htw.1 rfl) hsome
      have h0 := h0 (by rw [h9]; decide)
      rw [h9] at h0; exact h0

end Go.Ar

-- CeE
namespace Go.Ar
open Go Go.Vc Go.Proofs
set_option linter.unusedSimpArgs false
set_option linter.unusedVariables false

variable {σ : Hp} {F : Rg} {p : Nat} {c : Cls} {ps : List (Nat × Nat)} {ss : List SpA}

/-- Two slices in two plain rows do not overlap. -/
theorem overlaps_ok {x y : Sl} {a o b o' : Nat} {cs ds : List Value} (hx : x.a = some ⟨a, o, none⟩) (hy : y.a = some ⟨b, o', none⟩) (ha : Blk σ a cs) (hb : Blk σ b ds) (hne : a ≠ b) (hd : ds ≠ []) {K : Bool → Hp → Prop} (hK : K false σ) :
    ExtB Tryz.prog 258 [.slice x.a x.len x.cap, .slice y.a y.len y.cap] σ K := by
  rintro w rfl
  obtain ⟨ea, ha⟩ := ha
  obtain ⟨eb, hb⟩ := hb
  refine ⟨false, w, ?_, .refl _, hK⟩
  rw [hx, hy, run_callFunc_extern Tryz.func258 (by kernel_rfl) (by kernel_rfl) (by kernel_rfl) (e := Extern.SlicesOverlaps.overlaps #[168, 168] #[4]) (by kernel_rfl)]
  have := Lib.run_overlaps_apart (P := Tryz.prog) w 168 4 175 Tryz.underlying168 3 Tryz.sizeOf175
    ⟨a, o, none⟩ ⟨b, o', none⟩ x.len x.cap y.len y.cap hne ea eb cs.length ds.length (by simp [World.shape?, ha]) (by simp [World.shape?, hb]) (by simpa using hd) (by simp [World.frozen?, ha]) (by simp [World.frozen?, ha])
  rw [this]; rfl

/-- One entry of three cells is put into a row. -/
theorem insert_ok {Q : Rg} {s : Sl} {xs : List Value} {i m vb : Nat} {x y z : Value} (h : RowR s 3 xs σ Q) (hlen : s.len = m) (hm : m ≤ 2000) (hi : i ≤ m) (hv : Blk σ vb [x, y, z]) (hvb : ¬ Q vb) (h1 : ∀ v ∈ xs, one1 v = true) (h2 : one1 x = true ∧ one1 y = true ∧ one1 z = true)
    {R : Sl → Hp → Prop} (hR : ∀ s' σ', Ext Q σ σ' → RowR s' 3 (xs.take (3 * i) ++ [x, y, z] ++ xs.drop (3 * i)) σ' (Grow Q σ) → R s' σ') :
    slices_Insert_central_entry_central_entry.call s (i : Int) ⟨some ⟨vb, 0, none⟩, 1, 1⟩ σ R := by
  refine slices_Insert_central_entry_central_entry.of_vc ?_
  unfold slices_Insert_central_entry_central_entry.vc
  have hxl := h.1
  have hcap : s.len ≤ s.cap := by
    rcases h.2 with ⟨h0, h0'⟩ | ⟨b, cs, _, _, _, hle, _⟩
    · omega
    · exact hle
  have hrd : Rd σ (some ⟨vb, 0, none⟩) [x, y, z] := by
    intro j u hu
    rw [add_lit, Nat.zero_add, hv.cell]; exact hu
  have ho : ∀ v ∈ [x, y, z], one1 v = true := by simp [h2]
  refine slc (by omega) (by omega) (by omega) (ifF rfl (iff_ (fun he => ?_) fun he => ?_))
  · have hie : i = m := by
      have : (i : Int) = ((s.len : Nat) : Int) := by simpa using he
      omega
    refine h.app (ys := [x, y, z]) rfl rfl hrd ho (by first | omega | (simp only; omega)) (by first | omega | (simp only; omega)) Nat.zero_lt_one fun s' h' hl' e' ho' => hR s' h' e' ?_
    rw [List.take_of_length_le (by omega), List.drop_of_length_le (by omega), List.append_nil]
    exact ho'
  · have hie : i < m := by
      have : ¬ (i : Int) = ((s.len : Nat) : Int) := by simpa using he
      omega
    obtain ⟨b, cs, hQ, ha, hb, hle, hcl, ht⟩ : ∃ b cs, Q b ∧ s.a = some ⟨b, 0, none⟩ ∧ Blk σ b cs ∧ s.len ≤ s.cap ∧ cs.length = s.cap * 3 ∧ cs.take xs.length = xs := by
      rcases h.2 with ⟨h0, _⟩ | h
      · omega
      · exact h
    have hbv : vb ≠ b := fun e => hvb (e ▸ hQ)
    have hxcs : ∀ j v, xs[j]? = some v → cs[j]? = some v := fun j v hj => by
      rw [← ht, List.getElem?_take] at hj
      split at hj
      · exact hj
      · cases hj
    refine arN (m := m + 1) (by first | omega | (simp only; omega)) (by omega) (ifD (fun hgt => ?_) fun hle2 => ?_)
    · -- no room: a new row
      refine slc (lo := 0) (by omega) (by omega) (by omega) (arN (m := m + 1) (by first | omega | (simp only; omega)) (by omega) (arN (m := m + 1 - i) (by omega) (by omega) ?_))
      have hcz : ¬ s.cap = 0 := by omega
      rw [if_neg hcz]
      simp only [ha, Option.map_some, add_lit, Nat.zero_mul, Nat.add_zero, Nat.sub_zero]
      refine ⟨by omega, xs.take (3 * i), by rw [List.length_take]; simp only; omega, ?_, by simp [one1], by simp only; omega, by simp only; omega, by omega, fun hin => by simp only at hin; omega, fun _ cc hcc => ?_⟩
      · intro j v hj
        rw [add_lit, Nat.zero_add, hb.cell]
        rw [List.getElem?_take] at hj
        split at hj
        · exact hxcs j v hj
        · cases hj
      simp only [Int.toNat_natCast] at hcc ⊢
      have hi1 : i + (m + 1 - i) = m + 1 := by omega
      rw [hi1] at hcc ⊢
      refine nw fun v2 hz2 e2 hb2 => ?_
      have hzl : ∀ k, (List.replicate k [Value.int .i64 0, .int .i64 0, .pointer none]).flatten.length = 3 * k := fun k => by
        rw [List.length_flatten, List.map_replicate, List.sum_replicate_nat]; simp; omega
      have htl : (xs.take (3 * i)).length = 3 * i := by rw [List.length_take]; omega
      refine slc (by first | omega | (simp only; omega)) (by first | omega | (simp only; omega)) (by first | omega | (simp only; omega)) ?_
      have hv2 := e2.blk hv id
      have n1 : (if cc = i then (some ⟨σ.size, 0, none⟩ : Option Addr) else (some ⟨σ.size, 0, none⟩ : Option Addr).map (·.add (i * 3))) = some ⟨σ.size, i * 3, none⟩ := by
        have : ¬ cc = i := by omega
        rw [if_neg this]; simp [add_lit]
      rw [n1]
      refine ⟨[x, y, z], by simp only; rw [Nat.min_eq_left (by omega)]; rfl, ?_, ho, ?_⟩
      · intro j u hu
        rw [add_lit, Nat.zero_add, hv2.cell]; exact hu
      simp only
      refine stN_blk (o := i * 3) (i := 0) hb2 (by simp only [List.length_append, htl, hzl, List.length_cons, List.length_nil]; omega) fun v3 o3 b3 => ?_
      refine arN (m := i + 1) (by first | omega | (simp only; omega)) (by omega) (slc (by first | omega | (simp only; omega)) (by first | omega | (simp only; omega)) (by first | omega | (simp only; omega)) (slc (by omega) (by omega) (by omega) ?_))
      have hb3' : Blk v3 b cs := only_blk o3 (e2.blk hb id) (by have := hb.lt; omega)
      have hdl : (xs.drop (3 * i)).length = 3 * (m - i) := by rw [List.length_drop]; omega
      refine ⟨xs.drop (3 * i), by simp only; rw [Nat.min_eq_left (by omega), hdl]; omega, ?_, fun v hv => h1 v (List.mem_of_mem_drop hv), ?_⟩
      · have hci : ¬ s.cap = i := by omega
        rw [if_neg hci]
        simp only [ha, Option.map_some, add_lit]
        intro j v hj
        rw [add_lit, hb3'.cell]
        rw [List.getElem?_drop] at hj
        have := hxcs _ _ hj
        rw [show 0 + i * 3 + j = 3 * i + j by omega]; exact this
      have hbig : (xs.take (3 * i) ++ (List.replicate (m + 1 - i) [Value.int .i64 0, .int .i64 0, .pointer none]).flatten ++ (List.replicate (cc - (m + 1)) [Value.int .i64 0, .int .i64 0, .pointer none]).flatten).length = 3 * cc := by
        simp only [List.length_append, htl, hzl]; omega
      have tk : ∀ L : List Value, ((xs.take (3 * i) ++ (List.replicate (m + 1 - i) [Value.int .i64 0, .int .i64 0, .pointer none]).flatten ++ (List.replicate (cc - (m + 1)) [Value.int .i64 0, .int .i64 0, .pointer none]).flatten).take (3 * i)) = xs.take (3 * i) := fun _ => by
        rw [List.append_assoc, List.take_append_of_le_length (by omega), List.take_of_length_le (by omega)]
      have fin : ∀ v4, OnlyB v3 v4 σ.size → Blk v4 σ.size ((xs.take (3 * i) ++ [x, y, z]) ++ xs.drop (3 * i) ++ ((xs.take (3 * i) ++ (List.replicate (m + 1 - i) [Value.int .i64 0, .int .i64 0, .pointer none]).flatten ++ (List.replicate (cc - (m + 1)) [Value.int .i64 0, .int .i64 0, .pointer none]).flatten).drop (3 * i + 3)).drop (3 * (m - i))) → R ⟨some ⟨σ.size, 0, none⟩, m + 1, cc⟩ v4 := by
        intro v4 o4 b4
        refine hR _ v4 ?_ ⟨?_, .inr ⟨σ.size, _, .inr (Nat.le_refl _), rfl, b4, by simp only; omega, ?_, ?_⟩⟩
        · exact ((e2.to.newT o3.ext fun i hi => by subst hi; exact .inr (Nat.le_refl _)).newT o4.ext fun i hi => by subst hi; exact .inr (Nat.le_refl _))
        · simp only [List.length_append, htl, hdl, List.length_cons, List.length_nil]; omega
        · simp only [List.length_append, htl, hdl, List.length_cons, List.length_nil, List.length_drop, hzl]; omega
        · rw [List.append_assoc (xs.take (3 * i) ++ [x, y, z]), ← List.append_assoc, List.take_left']
          rfl
      have e3 : (xs.take (3 * i) ++ (List.replicate (m + 1 - i) [Value.int .i64 0, .int .i64 0, .pointer none]).flatten ++ (List.replicate (cc - (m + 1)) [Value.int .i64 0, .int .i64 0, .pointer none]).flatten).take (i * 3 + 0) = xs.take (3 * i) := by
        rw [show i * 3 + 0 = 3 * i by omega]; exact tk []
      rw [e3] at b3
      have hlen3 : (xs.take (3 * i) ++ [x, y, z] ++ (xs.take (3 * i) ++ (List.replicate (m + 1 - i) [Value.int .i64 0, .int .i64 0, .pointer none]).flatten ++ (List.replicate (cc - (m + 1)) [Value.int .i64 0, .int .i64 0, .pointer none]).flatten).drop (i * 3 + 0 + [x, y, z].length)).length = 3 * cc := by
        simp only [List.length_append, List.length_drop, htl, hzl, List.length_cons, List.length_nil]; omega
      by_cases hci : cc = i + 1
      · exfalso; omega
      · rw [if_neg hci]
        simp only [Option.map_some, add_lit, Nat.zero_add]
        refine stN_blk (o := (i + 1) * 3) (i := 0) b3 (by rw [hlen3, hdl]; omega) fun v4 o4 b4 => fin v4 o4 ?_
        have q1 : (i + 1) * 3 + 0 = (xs.take (3 * i) ++ [x, y, z]).length := by rw [List.length_append, htl]; simp; omega
        have q2 : (i + 1) * 3 + 0 + (xs.drop (3 * i)).length = (xs.take (3 * i) ++ [x, y, z]).length + 3 * (m - i) := by rw [hdl, q1]
        rw [q2, q1, List.take_left', List.drop_append] at b4
        · rw [List.drop_of_length_le (show (xs.take (3 * i) ++ [x, y, z]).length ≤ (xs.take (3 * i) ++ [x, y, z]).length + 3 * (m - i) by omega), List.nil_append] at b4
          have q3 : i * 3 + 0 + [x, y, z].length = 3 * i + 3 := by simp; omega
          rw [q3] at b4
          have q4 : (xs.take (3 * i) ++ [x, y, z]).length + 3 * (m - i) - (xs.take (3 * i) ++ [x, y, z]).length = 3 * (m - i) := by omega
          rw [q4] at b4
          exact b4
        · rfl
    · -- room: the rest moves
      have hle3 : m + 1 ≤ s.cap := by omega
      have hcz : ¬ s.cap = 0 := by omega
      have hci : ¬ s.cap = i := by omega
      refine arN (m := m + 1) (by first | omega | (simp only; omega)) (by omega) (slc (lo := 0) (by omega) (by omega) (by omega) ?_)
      rw [if_neg hcz]
      simp only [ha, Option.map_some, add_lit, Nat.zero_mul, Nat.add_zero, Nat.sub_zero]
      refine arN (m := i + 1) (by first | omega | (simp only; omega)) (by omega) (slc (by first | omega | (simp only; omega)) (by first | omega | (simp only; omega)) (by first | omega | (simp only; omega)) ?_)
      have hxcs' : cs.take (3 * m) = xs := by rw [← hlen, show 3 * s.len = xs.length by omega]; exact ht
      have na : ∃ o', (if s.cap = i + 1 then (some ⟨b, 0, none⟩ : Option Addr) else (some ⟨b, 0, none⟩ : Option Addr).map (·.add ((i + 1) * 3))) = some ⟨b, o', none⟩ := by
        split
        · exact ⟨0, rfl⟩
        · exact ⟨_, by simp [add_lit]; rfl⟩
      obtain ⟨o', na⟩ := na
      refine overlaps_ok (x := ⟨some ⟨vb, 0, none⟩, 1, 1⟩) (a := vb) (o := 0) (b := b) rfl na hv hb hbv (fun e => by rw [e] at hcl; simp at hcl; omega) (ifT rfl ?_)
      refine arN (m := i + 1) (by first | omega | (simp only; omega)) (by omega) (slc (by first | omega | (simp only; omega)) (by first | omega | (simp only; omega)) (by first | omega | (simp only; omega)) (slc (by first | omega | (simp only; omega)) (by first | omega | (simp only; omega)) (by first | omega | (simp only; omega)) ?_))
      have hne1 : ¬ s.cap = i + 1 := by omega
      rw [if_neg hne1, if_neg hci]
      simp only [Option.map_some, add_lit, Nat.zero_add]
      have hdl : (xs.drop (3 * i)).length = 3 * (m - i) := by rw [List.length_drop]; omega
      refine ⟨xs.drop (3 * i), by simp only; rw [Nat.min_eq_right (by omega), hdl]; omega, ?_, fun v hv => h1 v (List.mem_of_mem_drop hv), ?_⟩
      · intro j v hj
        rw [add_lit, hb.cell]
        rw [List.getElem?_drop] at hj
        have := hxcs _ _ hj
        rw [show i * 3 + j = 3 * i + j by omega]; exact this
      refine stN_blk (o := (i + 1) * 3) (i := 0) hb (by rw [hdl]; omega) fun v3 o3 b3 => ?_
      refine slc (by first | omega | (simp only; omega)) (by first | omega | (simp only; omega)) (by first | omega | (simp only; omega)) ?_
      rw [if_neg hci]
      simp only [Option.map_some, add_lit, Nat.zero_add]
      have hv3 := only_blk o3 hv hbv
      refine ⟨[x, y, z], by simp only; rw [Nat.min_eq_left (by omega)]; rfl, ?_, ho, ?_⟩
      · intro j u hu
        rw [add_lit, Nat.zero_add, hv3.cell]; exact hu
      have hl3 : (cs.take ((i + 1) * 3 + 0) ++ xs.drop (3 * i) ++ cs.drop ((i + 1) * 3 + 0 + (xs.drop (3 * i)).length)).length = cs.length := by
        simp only [List.length_append, List.length_take, List.length_drop, hdl]; omega
      refine stN_blk (o := i * 3) (i := 0) b3 (by rw [hl3]; simp; omega) fun v4 o4 b4 => ?_
      have a1 : (cs.take ((i + 1) * 3 + 0)).length = 3 * i + 3 := by rw [List.length_take]; omega
      have htl : (xs.take (3 * i)).length = 3 * i := by rw [List.length_take]; omega
      have p1 : (cs.take ((i + 1) * 3 + 0) ++ xs.drop (3 * i) ++ cs.drop ((i + 1) * 3 + 0 + (xs.drop (3 * i)).length)).take (i * 3 + 0) = xs.take (3 * i) := by
        rw [List.append_assoc, List.take_append_of_le_length (by omega), List.take_take, Nat.min_eq_left (by omega), ← hxcs', List.take_take, Nat.min_eq_left (by omega)]
        congr 1; omega
      have p2 : (cs.take ((i + 1) * 3 + 0) ++ xs.drop (3 * i) ++ cs.drop ((i + 1) * 3 + 0 + (xs.drop (3 * i)).length)).drop (i * 3 + 0 + [x, y, z].length) = xs.drop (3 * i) ++ cs.drop ((i + 1) * 3 + 0 + (xs.drop (3 * i)).length) := by
        rw [List.append_assoc, List.drop_left']
        rw [a1]; simp; omega
      rw [p1, p2, ← List.append_assoc] at b4
      refine hR _ v4 ((Ext.of_only (F := Q) o3 hQ).trans (Ext.of_only o4 hQ)) ⟨?_, .inr ⟨b, _, .inl hQ, rfl, b4, (by first | omega | (simp only; omega)), ?_, ?_⟩⟩
      · simp only [List.length_append, htl, List.length_cons, List.length_nil, hdl]; omega
      · simp only [List.length_append, htl, List.length_drop, List.length_cons, List.length_nil, hdl]; omega
      · rw [List.take_left']; rfl

/-- The place of a span in the order. -/
def place (ss : List SpA) (st : Nat) : Nat := (ss.takeWhile (fun s => s.st < st)).length
theorem takeWhile_eq_take (l : List SpA) (P : SpA → Bool) : l.takeWhile P = l.take (l.takeWhile P).length ∧ l.dropWhile P = l.drop (l.takeWhile P).length := by
  induction l with
  | nil => simp
  | cons x l ih =>
    simp only [List.takeWhile_cons, List.dropWhile_cons]
    cases P x
    · simp
    · simp only [if_true, List.length_cons, List.take_succ_cons, List.drop_succ_cons]
      exact ⟨by rw [← ih.1], ih.2⟩
theorem addS_eq (c : Cls) (ss : List SpA) (st : Nat) : addS c ss st = ss.take (place ss st) ++ ⟨st, List.replicate c.n false⟩ :: ss.drop (place ss st) := by
  have := takeWhile_eq_take ss (fun s => decide (s.st < st))
  unfold addS place
  rw [this.2, ← this.1]
theorem place_spec (hs : ss.Pairwise (fun a b => a.st < b.st)) (st : Nat) : place ss st ≤ ss.length ∧ ∀ (i : Nat) s, ss[i]? = some s → (s.st < st ↔ i < place ss st) := by
  unfold place
  induction ss with
  | nil => simp
  | cons x ss ih =>
    have hp := List.pairwise_cons.1 hs
    obtain ⟨h1, h2⟩ := ih hp.2
    simp only [List.takeWhile_cons]
    by_cases hx : x.st < st
    · simp only [hx, decide_true, if_true, List.length_cons]
      refine ⟨by omega, fun i s hi => ?_⟩
      cases i with
      | zero => simp at hi; subst hi; simp [hx]
      | succ i => have := h2 i s (by simpa using hi); omega
    · simp only [hx, decide_false, Bool.false_eq_true, if_false, List.length_nil, Nat.zero_le, Nat.not_lt_zero, iff_false, true_and]
      intro i s hi
      cases i with
      | zero => simp at hi; subst hi; exact hx
      | succ i =>
        have := hp.1 s (List.mem_of_getElem? (i := i) (by simpa using hi))
        omega

theorem search_ok (h : CeH σ F p c ps ss) {σ1 : Hp} (e1 : Ext0 σ σ1) {sl : Sl} {rb : Nat} {cs : List Value} (hl : sl.len = ss.length) (hE : ss ≠ [] → EnR σ F p ps ss sl rb cs) (st : Nat) (hst : st ≤ 1024) {R : Int → Bool → Hp → Prop} (hR : ∀ σ' b, Ext0 σ1 σ' → R (place ss st : Int) b σ') :
    slices_BinarySearchFunc_central_entry_central_entry_int.call sl (st : Int) ⟨205, #[], #[]⟩ σ1 R := by
  refine slices_BinarySearchFunc_central_entry_central_entry_int.of_vc ?_
  unfold slices_BinarySearchFunc_central_entry_central_entry_int.vc
  have hfew := h.few
  obtain ⟨hp1, hp2⟩ := place_spec h.srt st
  have cmp : ∀ (k : Nat) (x : Nat × Nat) s (v : Hp) (K : Int → Hp → Prop), ps[k]? = some x → ss[k]? = some s → Ext0 σ1 v → (∀ v', Ext0 v v' → K ((s.st : Int) - (st : Int)) v') →
      CallF Tryz.prog ⟨205, #[], #[]⟩ [.agg #[.int .i64 (s.many : Int), .int .i64 (s.st : Int), .pointer (some ⟨x.1, 0, none⟩)], .int .i64 (st : Int)] [.one (.i .i64)] v K := by
    intro k x s v K hx hs ev hK
    refine callF (all := #[.agg #[.int .i64 (s.many : Int), .int .i64 (s.st : Int), .pointer (some ⟨x.1, 0, none⟩)], .int .i64 (st : Int)]) (by kernel_rfl) (by simp) ?_
    refine central_List_Add_L1.of_vc ?_
    unfold central_List_Add_L1.vc
    have hf := (h.sp k x s hx hs).fit
    refine nw (cs := [.int .i64 (s.many : Int), .int .i64 (s.st : Int), .pointer (some ⟨x.1, 0, none⟩)]) fun v1 hz e hb => hb.rI2 rfl (ar (by omega) (by omega) (hK v1 e))
  refine loop2 (a := .i .i64) (bb := .i .i64) (fun (i j : Int) v => ∃ a b : Nat, i = (a : Int) ∧ j = (b : Int) ∧ a ≤ place ss st ∧ place ss st ≤ b ∧ b ≤ ss.length ∧ Ext0 σ1 v) (fun i j _ => j.toNat - i.toNat) ⟨0, ss.length, rfl, by rw [hl], by omega, hp1, by omega, Ext.refl _ _⟩ ?_
  rintro i j v ⟨a, b, rfl, rfl, ha, hb, hbl, ev⟩
  have ev0 : Ext0 σ v := e1.trans ev
  refine ifD (fun hlt => ?_) fun hge => ?_
  · have hne : ss ≠ [] := by rintro rfl; simp at hbl; omega
    have E := hE hne
    refine arN (m := a + b) (by omega) (by omega) ?_
    have hw : IntKind.u64.wrap ((a + b : Nat) : Int) = ((a + b : Nat) : Int) := by
      unfold IntKind.wrap; simp [IntKind.bits, IntKind.signed]; omega
    refine arW ?_
    rw [hw]
    refine nn (by omega) ?_
    have hm1 : min (1 : Int).toNat IntKind.u64.bits = 1 := by decide
    rw [hm1, fdiv_nat]
    have hmid : (((a + b : Nat) : Int) / 2 ^ 1) = (((a + b) / 2 : Nat) : Int) := by omega
    refine arN (m := (a + b) / 2) hmid (by omega) ?_
    have hml : (a + b) / 2 < ss.length := by omega
    obtain ⟨x, s, hx, hs, hS⟩ := h.at_i hml
    have eg := entV_get hx hs
    rw [E.a]
    refine ix (by omega) (by omega) ?_
    rw [add_lit, show 0 + (((a + b) / 2 : Nat) : Int).toNat * 3 = 3 * ((a + b) / 2) by omega]
    refine entBox (e := 0) (ev0.blk E.blk id) (E.get eg.1) (E.get eg.2.1) (E.get eg.2.2) (cmp _ x s v _ hx hs ev fun v' e' => ?_)
    have hiff := hp2 _ s hs
    show If (decide (((s.st : Int) - (st : Int)) < 0)) _ _
    refine ifD (fun hneg => ?_) fun hpos => ?_
    · exact arN (m := (a + b) / 2 + 1) (by omega) (by omega) ⟨⟨_, b, rfl, rfl, by have := hiff.1 (by omega); omega, hb, hbl, ev.trans e'⟩, by omega⟩
    · exact ⟨⟨a, _, rfl, rfl, ha, by
        apply Classical.byContradiction
        intro hc
        have := hiff.2 (by omega)
        omega, by omega, ev.trans e'⟩, by omega⟩
  · have hab : a = place ss st := by omega
    subst hab
    refine JnB.intro (ifD (fun hlt2 => ?_) fun hge2 => hR v _ ev)
    have hml : place ss st < ss.length := by omega
    have hne : ss ≠ [] := by rintro rfl; simp at hml
    have E := hE hne
    obtain ⟨x, s, hx, hs, hS⟩ := h.at_i hml
    have eg := entV_get hx hs
    rw [E.a]
    refine ix (by omega) (by omega) ?_
    rw [add_lit, show 0 + (place ss st : Int).toNat * 3 = 3 * place ss st by omega]
    refine entBox (e := 0) (ev0.blk E.blk id) (E.get eg.1) (E.get eg.2.1) (E.get eg.2.2) (cmp _ x s v _ hx hs ev fun v' e' => hR v' _ (ev.trans e'))

theorem CAdd_ok (h : CeH σ F p c ps ss) {st : Nat} (hf : st + c.pages ≤ 1024) {R : Int → Hp → Prop} (h9 : addSE c ss st = 9 → ∀ σ', Ext0 σ σ' → R 9 σ')
    (h0 : addSE c ss st = 0 → ∀ σ' ps', Ext F σ σ' → CeH σ' (Grow F σ) p c ps' (addS c ss st) → R 0 σ') : central_List_Add.call (some ⟨p, 0, none⟩) (st : Int) σ R := by
  refine central_List_Add.of_vc ?_
  unfold central_List_Add.vc
  have h := CeH.loc.cut h
  obtain ⟨sl, hb, hl, hrow, rb, cs, hE⟩ := h.sl'
  have hfew := h.few
  have hc := h.ok
  have hck := hc
  unfold Cls.ok at hck
  refine cmade_ok h (ifF rfl (nilP (hb.rI2 rfl (hb.rI2 rfl (hb.rI2 rfl ?_)))))
  refine SNew_ok hc hf fun v1 pn qn e1 hpn hqn hSn => ifF rfl (nilP ((e1.blk hb id).rS rfl ?_))
  have hplt := hb.lt
  refine loop1 (a := .i .i64) (fun (t : Int) v => ∃ i : Nat, t = (i : Int) ∧ i ≤ ss.length ∧ Ext0 v1 v ∧ ∀ (j : Nat) s, j < i → ss[j]? = some s → ¬ max s.st st - min s.st st < c.pages) (fun t _ => ss.length - t.toNat) ⟨0, rfl, by omega, Ext.refl _ _, fun j s hj => by omega⟩ ?_
  rintro t v ⟨i, rfl, hi, ev, hno⟩
  have ev0 := e1.trans ev
  refine ifD (fun hlt => ?_) fun hge => ?_
  · simp only at hlt
    have hi' : i < ss.length := by omega
    obtain ⟨E, hcap, hcl⟩ := hE (by rintro rfl; simp at hi')
    obtain ⟨x, s, hx, hs, hS⟩ := h.at_i hi'
    have eg := entV_get hx hs
    have hsf := hS.fit
    rw [E.a]
    refine ix (by omega) (by omega) ?_
    rw [add_lit, show 0 + (i : Int).toNat * 3 = 3 * i by omega]
    refine entBox (e := 0) (ev0.blk E.blk id) (E.get eg.1) (E.get eg.2.1) (E.get eg.2.2) (entNew fun v6 e6 b6 => b6.rI2 rfl (b6.rI2 rfl ?_))
    have hd : (if (st : Int) > (s.st : Int) then (st : Int) else (s.st : Int)) - (if (st : Int) < (s.st : Int) then (st : Int) else (s.st : Int)) = ((max s.st st - min s.st st : Nat) : Int) := by
      split <;> split <;> omega
    refine arN (m := max s.st st - min s.st st) hd (by omega) (nilP (((ev0.trans e6).blk hb id).rI2 rfl ?_))
    refine ifD (fun hlt2 => h9 ?_ _ (ev0.trans e6)) fun hge2 => ?_
    · unfold addSE
      rw [if_pos]
      exact List.any_eq_true.2 ⟨s, List.mem_of_getElem? hs, by simpa using (by omega : max s.st st - min s.st st < c.pages)⟩
    · refine arN (m := i + 1) (by omega) (by omega) ⟨⟨i + 1, rfl, by omega, ev.trans e6, fun j s' hj hs' => ?_⟩, by omega⟩
      by_cases e : j = i
      · subst e; rw [hs] at hs'; cases hs'; omega
      · exact hno j s' (by omega) hs'
  · have hii : i = ss.length := by simp only at hge; omega
    subst hii
    have hE0 : addSE c ss st = 0 := by
      unfold addSE
      rw [if_neg]
      simp only [Bool.not_eq_true, List.any_eq_false, decide_eq_true_eq]
      intro s hs
      obtain ⟨j, hj⟩ := List.getElem?_of_mem hs
      exact hno j s (List.getElem?_eq_some_iff.1 hj).1 hj
    refine nilP ((ev0.blk hb id).rS rfl ?_)
    refine search_ok h ev0 hl (fun hne => (hE hne).1) st (by omega) fun v7 bb e7 => nilP (((ev0.trans e7).blk hb id).rS rfl ?_)
    have e07 := ev0.trans e7
    obtain ⟨hp1, hp2⟩ := place_spec h.srt st
    refine nw (cs := [.int .i64 0, .int .i64 st, .pointer (some ⟨pn, 0, none⟩)]) fun v8 hz8 e8 hb8 => ?_
    have e08 := e07.trans e8
    have hrow8 := (RowR.loc _ _ _).keep0 hrow e08
    have hsz7 := e07.1
    refine insert_ok hrow8 hl (by omega) hp1 hb8 (fun hh => by have := hh.1.2; omega) entV_one1 ⟨rfl, rfl, rfl⟩ fun s' v9 e9 hr9 => nilP ?_
    have hb9 := e9.blk (e08.blk hb id) fun hh => hh.2.1 rfl
    refine hb9.s1 (by simp) fun v10 o10 hb10 => ?_
    have hpl := h.len
    have hnd := h.nd
    simp only [List.nodup_cons] at hnd
    have hlt := hSn.lt
    have hsz1 := (ev.trans e7).trans e8 |>.1
    have hlow : ∀ b ∈ blks ps, b < σ.size := fun b hb => (h.fb b hb).2
    have hS9 : ∀ {a b s'}, SpH v8 a b c s' → ¬ (Cut F σ a ∧ a ≠ p ∧ a ∉ blks ps) → ¬ (Cut F σ b ∧ b ≠ p ∧ b ∉ blks ps) → a ≠ p → b ≠ p → SpH v10 a b c s' := fun hS n1 n2 m1 m2 => (hS.keep e9 n1 n2).keep o10.ext m1 m2
    have hnew := ((hSn.keep0 ev).keep0 e7).keep0 e8
    have hent : entV (ps.take (place ss st) ++ (pn, qn) :: ps.drop (place ss st)) (ss.take (place ss st) ++ ⟨st, List.replicate c.n false⟩ :: ss.drop (place ss st)) =
        (entV ps ss).take (3 * place ss st) ++ [.int .i64 0, .int .i64 st, .pointer (some ⟨pn, 0, none⟩)] ++ (entV ps ss).drop (3 * place ss st) := by
      rw [entV_append (by simp [hpl])]
      have h1 : entV ps ss = entV (ps.take (place ss st)) (ss.take (place ss st)) ++ entV (ps.drop (place ss st)) (ss.drop (place ss st)) := by
        rw [← entV_append (by simp [hpl]), List.take_append_drop, List.take_append_drop]
      have h2 : (entV (ps.take (place ss st)) (ss.take (place ss st))).length = 3 * place ss st := by rw [entV_len (by simp [hpl]), List.length_take]; omega
      rw [h1, List.take_left' h2, List.drop_left' h2, List.append_assoc]
      have : SpA.many ⟨st, List.replicate c.n false⟩ = 0 := by simp [SpA.many, List.count_replicate]
      simp [entV, this]
    refine h0 hE0 v10 (ps.take (place ss st) ++ (pn, qn) :: ps.drop (place ss st)) ?_ ?_
    · refine (((Ext0.to e08).trans (e9.sub fun b hb => hb.1.1))).trans (o10.ext.sub fun b hb => hb ▸ h.fp.1)
    · have hperm : (blks (ps.take (place ss st) ++ (pn, qn) :: ps.drop (place ss st))).Perm (pn :: qn :: blks ps) := by
        have : blks ps = blks (ps.take (place ss st)) ++ blks (ps.drop (place ss st)) := by
          conv => lhs; rw [← List.take_append_drop (place ss st) ps]
          simp only [blks, List.flatMap_append]
        rw [this]
        have h3 : blks (ps.take (place ss st) ++ (pn, qn) :: ps.drop (place ss st)) = blks (ps.take (place ss st)) ++ pn :: qn :: blks (ps.drop (place ss st)) := by simp [blks]
        rw [h3]
        exact List.perm_middle.trans ((List.perm_middle).cons pn)
      have hbl : ∀ b, b ∈ blks (ps.take (place ss st) ++ (pn, qn) :: ps.drop (place ss st)) ↔ b = pn ∨ b = qn ∨ b ∈ blks ps := by
        intro b
        rw [hperm.mem_iff]; simp
      refine ⟨⟨s', hb10, ?_⟩, fun i x s hx hs => ?_, .inl h.fp.1, fun b hb => ?_, ?_, ?_, hc, ?_⟩
      · rw [addS_eq, hent]
        refine (RowR.loc _ _ _).keep ((RowR.loc _ _ _).mono hr9 fun b _ hb => ?_) o10.ext fun b _ hb he => hb.2.1 he
        rw [hbl]
        rcases hb with hb | hb
        · exact ⟨.inl hb.1.1, hb.2.1, fun hh => by
            rcases hh with h | h | h
            · have := hb.1.2; omega
            · have := hb.1.2; omega
            · exact hb.2.2 h⟩
        · exact ⟨.inr (by omega), by omega, fun hh => by
            rcases hh with h | h | h
            · omega
            · omega
            · have := hlow b h; omega⟩
      · rw [addS_eq] at hs
        have hpl' : (ps.take (place ss st)).length = place ss st := by rw [List.length_take]; omega
        have hsl' : (ss.take (place ss st)).length = place ss st := by rw [List.length_take]; omega
        have old : ∀ j : Nat, ps[j]? = some x → ss[j]? = some s → SpH v10 x.1 x.2 c s := fun j h1 h2 => by
          have hm := mem_blks_of h1
          exact hS9 ((h.sp j x s h1 h2).keep0 e08) (fun hh => hh.2.2 hm.1) (fun hh => hh.2.2 hm.2) (fun e => hnd.1 (e ▸ hm.1)) (fun e => hnd.1 (e ▸ hm.2))
        rcases Nat.lt_trichotomy i (place ss st) with hlt' | heq | hgt
        · rw [List.getElem?_append_left (by omega), List.getElem?_take, if_pos hlt'] at hx hs
          exact old i hx hs
        · rw [List.getElem?_append_right (by omega)] at hx hs
          rw [hpl', heq, Nat.sub_self] at hx
          rw [hsl', heq, Nat.sub_self] at hs
          simp at hx hs; subst hx; subst hs
          exact hS9 hnew (fun hh => by have := hh.1.2; simp only at this; omega) (fun hh => by have := hh.1.2; simp only at this; omega) (by simp only; omega) (by simp only; omega)
        · rw [List.getElem?_append_right (by omega)] at hx hs
          rw [hpl'] at hx
          rw [hsl'] at hs
          obtain ⟨k, hk⟩ : ∃ k, i - place ss st = k + 1 := ⟨i - place ss st - 1, by omega⟩
          rw [hk, List.getElem?_cons_succ, List.getElem?_drop] at hx hs
          exact old _ hx hs
      · rcases (hbl b).1 hb with h1 | h1 | h1
        · subst h1; exact .inr hpn
        · subst h1; exact .inr hqn
        · exact .inl (h.fb b h1).1
      · simp only [List.nodup_cons]
        refine ⟨fun hm => ?_, ?_⟩
        · rcases (hbl p).1 hm with h1 | h1 | h1
          · omega
          · omega
          · exact hnd.1 h1
        · rw [hperm.nodup_iff]
          simp only [List.nodup_cons, List.mem_cons, not_or]
          have hne := hSn.ne
          exact ⟨⟨hne, fun hm => by have := hlow _ hm; omega⟩, fun hm => by have := hlow _ hm; omega, hnd.2⟩
      · rw [addS_eq]; simp [hpl]
      · rw [addS_eq]
        rw [List.pairwise_append]
        have hsr := h.srt
        refine ⟨hsr.sublist (List.take_sublist _ _), List.pairwise_cons.2 ⟨fun s hs => ?_, hsr.sublist (List.drop_sublist _ _)⟩, fun a ha b hb => ?_⟩
        · obtain ⟨j, hj⟩ := List.getElem?_of_mem hs
          rw [List.getElem?_drop] at hj
          have h1 := hp2 _ s hj
          have h2 : s.st ≠ st := fun e => by
            have := hno (place ss st + j) s (List.getElem?_eq_some_iff.1 hj).1 hj
            rw [e] at this; simp at this; omega
          show st < s.st
          omega
        · obtain ⟨i, hi⟩ := List.getElem?_of_mem ha
          rw [List.getElem?_take] at hi
          split at hi
          · rename_i hlt'
            have hat := (hp2 i a hi).2 hlt'
            rcases List.mem_cons.1 hb with rfl | hb
            · exact hat
            · obtain ⟨j, hj⟩ := List.getElem?_of_mem hb
              rw [List.getElem?_drop] at hj
              obtain ⟨hi1, hi2⟩ := List.getElem?_eq_some_iff.1 hi
              obtain ⟨hj1, hj2⟩ := List.getElem?_eq_some_iff.1 hj
              have := List.pairwise_iff_getElem.1 hsr i (place ss st + j) hi1 hj1 (by omega)
              rw [hi2, hj2] at this; exact this
          · cases hi

end Go.Ar

-- CeF
namespace Go.Ar
open Go Go.Vc Go.Proofs
set_option linter.unusedSimpArgs false
set_option linter.unusedVariables false

variable {σ : Hp} {F : Rg} {p : Nat} {c : Cls} {ps : List (Nat × Nat)} {ss : List SpA}

theorem CClone_ok (h : CeH σ F p c ps ss) {R : Option Addr → Hp → Prop}
    (hR : ∀ σ' p' ps', Ext0 σ σ' → σ.size ≤ p' → CeH σ' (fun b => σ.size ≤ b) p' c ps' ss → R (some ⟨p', 0, none⟩) σ') : central_List_Clone.call (some ⟨p, 0, none⟩) σ R := by
  refine central_List_Clone.of_vc ?_
  unfold central_List_Clone.vc
  obtain ⟨sl, hb, hl, hrow, rb, cs, hE⟩ := h.sl'
  have hfew := h.few
  have hpl := h.len
  refine cmade_ok h (ifF rfl (nilP (hb.rI2 rfl (hb.rI2 rfl (hb.rI2 rfl ?_)))))
  refine nw (cs := [.int .i64 c.size, .int .i64 c.pages, .int .i64 c.batch, .slice none 0 0]) fun v1 hz1 e1 hb1 => nilP ((e1.blk hb id).rS rfl ?_)
  refine loop1 (a := .i .i64) (fun (t : Int) v => ∃ (i : Nat) (qs : List (Nat × Nat)), t = (i : Int) ∧ i ≤ ss.length ∧ Ext0 σ v ∧ CeH v (fun b => σ.size ≤ b) σ.size c qs (ss.take i)) (fun t _ => ss.length - t.toNat) ⟨0, [], rfl, by omega, e1, ?_⟩ ?_
  · exact ⟨⟨⟨none, 0, 0⟩, hb1, RowR.nil _ _ _ _⟩, by simp, Nat.le_refl _, by simp [blks], by simp [blks], rfl, h.ok, by simp⟩
  rintro t v ⟨i, qs, rfl, hi, e, hC⟩
  refine ifD (fun hlt => ?_) fun hge => ?_
  · simp only at hlt
    have hi' : i < ss.length := by omega
    obtain ⟨E, hcap, hcl⟩ := hE (by rintro rfl; simp at hi')
    obtain ⟨x, s, hx, hs, hS⟩ := h.at_i hi'
    have eg := entV_get hx hs
    rw [E.a]
    refine ix (by omega) (by omega) ?_
    rw [add_lit, show 0 + (i : Int).toNat * 3 = 3 * i by omega]
    refine entBox (e := 0) (e.blk E.blk id) (E.get eg.1) (E.get eg.2.1) (E.get eg.2.2) (entNew fun v6 e6 b6 => ?_)
    have hC := CeH.loc.cut hC
    have hC6 := hC.keep0 e6
    obtain ⟨o, hbo, hro⟩ := hC6.hd
    have hql := hC6.len
    have htl : (ss.take i).length = i := by rw [List.length_take]; omega
    refine ⟨fun h' => Blk h' σ.size [.int .i64 (c.size : Int), .int .i64 (c.pages : Int), .int .i64 (c.batch : Int), .slice o.a o.len o.cap] ∧ Blk h' v.size [.int .i64 s.many, .int .i64 s.st, .pointer (some ⟨x.1, 0, none⟩)], ⟨hbo, b6⟩, ?_⟩
    refine nilP ⟨o, fun h' hS => by rw [add_lit, hS.1.cell]; rfl, ⟨_, fun h' hS => by rw [add_lit, add_lit, hS.2.cell]; rfl, ⟨_, fun h' hS => by rw [add_lit, add_lit, hS.2.cell]; rfl, ⟨_, fun h' hS => by rw [add_lit, hS.2.cell]; rfl, ?_⟩⟩⟩⟩
    refine SClone_ok ((hS.keep0 e).keep0 e6) fun v7 pn qn e7 hpn hqn hSn => ⟨⟨e7.blk hbo id, e7.blk b6 id⟩, ?_⟩
    have hSnl := hSn.lt
    refine nw (cs := [.int .i64 s.many, .int .i64 s.st, .pointer (some ⟨pn, 0, none⟩)]) fun v8 hz8 e8 hb8 => ⟨⟨(e7.trans e8).blk hbo id, (e7.trans e8).blk b6 id⟩, ?_⟩
    have hvs := e.1
    have hlt0 : σ.size < v6.size := hbo.lt
    have h6s := e6.1
    have h7s := e7.1
    have hrow8 := (RowR.loc _ _ _).keep0 ((RowR.loc _ _ _).keep0 hro e7) e8
    have hol := hrow8.1
    rw [entV_len hql, htl] at hol
    refine hrow8.app (ys := [.int .i64 s.many, .int .i64 s.st, .pointer (some ⟨pn, 0, none⟩)]) rfl rfl ?_ (by simp [one1]) ?_ ?_ Nat.zero_lt_one fun s' v9 hl' e9 ho' => ?_
    · intro j u hu
      rw [add_lit, Nat.zero_add, hb8.cell]; exact hu
    · simp only; have : (o.len + 1) * 24 ≤ 1025 * 24 := Nat.mul_le_mul (by omega) (by omega); omega
    · simp only; omega
    · have hbo9 := e9.blk ((e7.trans e8).blk hbo id) fun hh => hh.2.1 rfl
      have hb69 := e9.blk ((e7.trans e8).blk b6 id) fun hh => by have := hh.1.2; omega
      refine ⟨⟨hbo9, hb69⟩, nilP (hbo9.s1 (by simp) fun v10 o10 hb10 => ?_)⟩
      have e0 : Ext0 σ v10 := by
        refine Ext.fresh (Ext.fresh (((e.trans e6).trans e7).trans e8) e9 fun b hb => hb.1.1) o10.ext fun b hb => by omega
      have hnd := hC.nd
      simp only [List.nodup_cons] at hnd
      have hlow : ∀ b ∈ blks qs, b < v.size := fun b hb => (hC.fb b hb).2
      have htk : ss.take (i + 1) = ss.take i ++ [s] := by rw [List.take_add_one, hs]; rfl
      have hbl : ∀ b, b ∈ blks (qs ++ [(pn, qn)]) ↔ b ∈ blks qs ∨ b = pn ∨ b = qn := by
        intro b; simp [blks]
      refine arN (m := i + 1) (by omega) (by omega) ⟨⟨i + 1, qs ++ [(pn, qn)], rfl, by omega, e0, ⟨s', hb10, ?_⟩, fun j y u hy hu => ?_, Nat.le_refl _, fun b hb => ?_, ?_, ?_, h.ok, ?_⟩, by omega⟩
      · rw [htk, entV_append hql]
        refine (RowR.loc _ _ _).keep ((RowR.loc _ _ _).mono ho' fun b _ hb => ?_) o10.ext fun b _ hb he => hb.2.1 he
        rcases hb with hb | hb
        · refine ⟨hb.1.1, hb.2.1, fun hm => ?_⟩
          rcases (hbl b).1 hm with h1 | h1 | h1
          · exact hb.2.2 h1
          · have := hb.1.2; omega
          · have := hb.1.2; omega
        · refine ⟨by omega, by omega, fun hm => ?_⟩
          rcases (hbl b).1 hm with h1 | h1 | h1
          · have := hlow b h1; omega
          · omega
          · omega
      · rw [htk] at hu
        rcases Nat.lt_or_ge j i with hji | hji
        · rw [List.getElem?_append_left (by omega)] at hy hu
          have hm := mem_blks_of hy
          have hl1 := hlow _ hm.1
          have hl2 := hlow _ hm.2
          have k := hC6.sp j y u hy hu
          exact (((k.keep0 e7).keep0 e8).keep e9 (fun hh => hh.2.2 hm.1) (fun hh => hh.2.2 hm.2)).keep o10.ext (fun he => hnd.1 (he ▸ hm.1)) (fun he => hnd.1 (he ▸ hm.2))
        · rw [List.getElem?_append_right (by omega)] at hy hu
          have hj0 : j = i := by
            have := (List.getElem?_eq_some_iff.1 hy).1
            simp at this; omega
          subst hj0
          rw [show j - qs.length = 0 by omega] at hy
          rw [htl, Nat.sub_self] at hu
          simp at hy hu; subst hy; subst hu
          exact ((hSn.keep0 e8).keep e9 (fun hh => by have := hh.1.2; first | omega | (simp only at this; omega)) (fun hh => by have := hh.1.2; first | omega | (simp only at this; omega))).keep o10.ext (by first | omega | (simp only; omega)) (by first | omega | (simp only; omega))
      · rcases (hbl b).1 hb with h1 | h1 | h1
        · exact (hC.fb b h1).1
        · show σ.size ≤ b; omega
        · show σ.size ≤ b; omega
      · simp only [List.nodup_cons]
        refine ⟨fun hm => ?_, ?_⟩
        · rcases (hbl _).1 hm with h1 | h1 | h1
          · exact hnd.1 h1
          · omega
          · omega
        · have : blks (qs ++ [(pn, qn)]) = blks qs ++ [pn, qn] := by simp [blks]
          rw [this, List.nodup_append]
          refine ⟨hnd.2, by simp [hSn.ne], fun a ha b hb e => ?_⟩
          have := hlow a ha
          simp at hb; omega
      · rw [htk]; simp [hql]
      · exact h.srt.sublist (List.take_sublist _ _)
  · have hii : i = ss.length := by simp only at hge; omega
    subst hii
    rw [List.take_length] at hC
    exact hR v σ.size qs e (Nat.le_refl _) hC

end Go.Ar

-- Gtransfer
namespace Go.Proofs
open Go.Vc
set_option linter.unusedVariables false
set_option maxRecDepth 100000
def transfer_Cache_Objects.hint : Hn := .seq (.o 1) (.seq (.seq (.o 3) (.cond (.seq (.o 1) (.leaf)) (.leaf))) (.seq (.o 6) (.leaf)))
def transfer_Cache_Objects.vc (c : Option Addr) (σ : Hp) (R : Sl → Hp → Prop) : Prop :=
 transfer_Cache_made.call c σ fun t4 v =>
 If (!t4) (R ⟨none, 0, 0⟩ v)
  (NilP c fun a7 =>
  LdS (a7.add 3) v fun t9 =>
  slices_Concat_int_int.call t9 v fun t10 v1 =>
  R t10 v1)
theorem transfer_Cache_Objects.of_vc {c : Option Addr} {σ : Hp} {R : Sl → Hp → Prop} (hv : transfer_Cache_Objects.vc c σ R) : transfer_Cache_Objects.call c σ R :=
 fnK_sound Tryz.func60 (x := transfer_Cache_Objects.hint) (args := [.pointer c]) (rs := [.one .s]) (R := R) (Eq.mpr (by kernel_rfl) hv)
def transfer_Cache_Insert.hint : Hn := .seq (.o 2) (.seq (.block (.seq (.o 4) (.cond (.seq (.o 2) (.leaf)) (.seq (.o 8) (.cond (.seq (.o 2) (.leaf)) (.seq (.oq 11) (.cond (.seq (.o 2) (.leaf)) (.leaf)))))))) (.seq (.reg (.held true [8, 11] (.take 0 (.take 1 (.take 2 (.take 3 (.take 4 (.take 5 (.all [(6, .all [(7, .all [(8, .take 9 (.take 10 (.all [(11, .done)])))])])]))))))))) (.seq (.o 2) (.leaf))))
def transfer_Cache_Insert.vc (c : Option Addr) (objects : Sl) (σ : Hp) (R : Bool → Int → Hp → Prop) : Prop :=
 transfer_Cache_made.call c σ fun t8 v =>
 If (!t8) (R false 5 v)
  (NilP c fun a14 =>
  LdI .i64 (a14.add 0) v fun t16 =>
  If (((objects.len : Nat) : Int) != t16) (R false 1 v)
   (NilP c fun a20 =>
   LdS (a20.add 3) v fun t22 =>
   NilP c fun a25 =>
   LdI .i64 (a25.add 1) v fun t27 =>
   If (decide (((t22.len : Nat) : Int) ≥ t27)) (R false 0 v)
    (Held v fun S =>
    NilP c fun a31 =>
    LdH S .s (a31.add 3) fun (t33 : Sl) =>
    slices_Clone_int_int.call objects v fun t35 v1 =>
    And (S v1) <|
    Nw (.cells #[.slice t35.a t35.len t35.cap] 42 (0, 0)) v1 fun n36 v2 =>
    And (S v2) <|
    App t33 1 24 42 [.slice none 0 0] ⟨(some n36), 1, 1⟩ v2 fun t37 v3 =>
    NilP c fun a38 =>
    St1 (a38.add 3) (.slice t37.a t37.len t37.cap) v3 fun v4 =>
    R true 0 v4)))
theorem transfer_Cache_Insert.of_vc {c : Option Addr} {objects : Sl} {σ : Hp} {R : Bool → Int → Hp → Prop} (hv : transfer_Cache_Insert.vc c objects σ R) : transfer_Cache_Insert.call c objects σ R :=
 fnK_sound Tryz.func66 (x := transfer_Cache_Insert.hint) (args := [.pointer c, .slice objects.a objects.len objects.cap]) (rs := [.one .b, .one (.i .i64)]) (R := R) (Eq.mpr (by kernel_rfl) hv)
def transfer_Cache_Remove.hint : Hn := .seq (.o 2) (.seq (.block (.seq (.o 4) (.cond (.seq (.o 2) (.leaf)) (.seq (.o 7) (.cond (.seq (.o 2) (.leaf)) (.leaf)))))) (.seq (.o 7) (.seq (.o 8) (.seq (.o 10) (.seq (.o 10) (.seq (.o 3) (.leaf)))))))
def transfer_Cache_Remove.vc (c : Option Addr) (σ : Hp) (R : Sl → Int → Hp → Prop) : Prop :=
 transfer_Cache_made.call c σ fun t8 v =>
 If (!t8) (R ⟨none, 0, 0⟩ 5 v)
  (NilP c fun a12 =>
  LdS (a12.add 3) v fun t14 =>
  If (((t14.len : Nat) : Int) == 0) (R ⟨none, 0, 0⟩ 4 v)
   (NilP c fun a18 =>
   LdS (a18.add 3) v fun t20 =>
   Ar .i64 (((t20.len : Nat) : Int) - 1) fun last =>
   NilP c fun a24 =>
   LdS (a24.add 3) v fun t26 =>
   Ix t26.a t26.len last 1 fun a28 =>
   LdS a28 v fun out =>
   NilP c fun a32 =>
   LdS (a32.add 3) v fun t34 =>
   SlcL t34 1 0 last (t34.cap : Nat) fun t36 =>
   NilP c fun a37 =>
   St1 (a37.add 3) (.slice t36.a t36.len t36.cap) v fun v1 =>
   NilP c fun a41 =>
   LdI .i64 (a41.add 2) v1 fun t43 =>
   NilP c fun a46 =>
   St1 (a46.add 2) (.int .i64 (if last < t43 then last else t43)) v1 fun v2 =>
   R out 0 v2))
theorem transfer_Cache_Remove.of_vc {c : Option Addr} {σ : Hp} {R : Sl → Int → Hp → Prop} (hv : transfer_Cache_Remove.vc c σ R) : transfer_Cache_Remove.call c σ R :=
 fnK_sound Tryz.func67 (x := transfer_Cache_Remove.hint) (args := [.pointer c]) (rs := [.one .s, .one (.i .i64)]) (R := R) (Eq.mpr (by kernel_rfl) hv)
def transfer_New.hint : Hn := .seq (.o 2) (.seq (.seq (.reg (.seq [.op, .op, .op, .grd false 2 [.op, .op], .op, .grd false 2 [.op, .op], .op, .grd false 2 [.op, .op]])) (.cond (.seq (.o 2) (.leaf)) (.leaf))) (.seq (.o 6) (.leaf)))
def transfer_New.vc (batch : Int) (room : Int) (σ : Hp) (R : Option Addr → Int → Hp → Prop) : Prop :=
 JnB (fun r v =>
  JnB (fun r1 v1 =>
   JnB (fun r2 v2 =>
    If r2 (R none 1 v2)
     (Nw (.cells #[.int .i64 batch, .int .i64 room, .int .i64 0, .slice none 0 0] 180 (0, 0)) v2 fun n23 v3 =>
     R (some n23) 0 v3)) fun J2 =>
   If r1 (J2 true v1)
    (J2 (decide (room > 8)) v1)) fun J1 =>
  If r (J1 true v)
   (J1 (decide (room < 0)) v)) fun J =>
 If (decide (batch < 1)) (J true σ)
  (J (decide (batch > 32)) σ)
theorem transfer_New.of_vc {batch : Int} {room : Int} {σ : Hp} {R : Option Addr → Int → Hp → Prop} (hv : transfer_New.vc batch room σ R) : transfer_New.call batch room σ R :=
 fnK_sound Tryz.func91 (x := transfer_New.hint) (args := [.int .i64 batch, .int .i64 room]) (rs := [.one .p, .one (.i .i64)]) (R := R) (Eq.mpr (by kernel_rfl) hv)
def transfer_Cache_Clone.hint : Hn := .seq (.o 1) (.seq (.seq (.o 3) (.cond (.seq (.o 1) (.leaf)) (.leaf))) (.seq (.o 5) (.seq (.o 2) (.seq (.seq (.o 6) (.block (.loop [(18, .one (.i .i64))] (.seq (.o 1) (.seq (.cond (.leaf) (.leaf)) (.seq (.block (.seq (.o 3) (.reg (.held true [5, 7] (.take 0 (.take 1 (.take 2 (.all [(3, .all [(4, .all [(5, .take 6 (.all [(7, .done)]))])])])))))))) (.o 2))))))) (.seq (.o 1) (.leaf))))))
def transfer_Cache_Clone.vc (c : Option Addr) (σ : Hp) (R : Option Addr → Hp → Prop) : Prop :=
 transfer_Cache_made.call c σ fun t7 v =>
 If (!t7) (R none v)
  (NilP c fun a10 =>
  LdI .i64 (a10.add 0) v fun t11 =>
  LdI .i64 (a10.add 1) v fun t111 =>
  LdI .i64 (a10.add 2) v fun t112 =>
  LdS (a10.add 3) v fun t113 =>
  Nw (.cells #[.int .i64 0, .int .i64 0, .int .i64 0, .slice none 0 0] 180 (0, 0)) v fun n3 v1 =>
  St1 (n3.add 0) (.int .i64 t11) v1 fun v2 =>
  St1 (n3.add 1) (.int .i64 t111) v2 fun v3 =>
  St1 (n3.add 2) (.int .i64 t112) v3 fun v4 =>
  St1 (n3.add 3) (.slice t113.a t113.len t113.cap) v4 fun v5 =>
  St1 (n3.add 3) (.slice none 0 0) v5 fun v6 =>
  NilP c fun a14 =>
  LdS (a14.add 3) v6 fun t16 =>
  LoopK [(.i .i64)] (fun I => I 0 v6) fun J (t18 : Int) v7 =>
  If (decide (t18 < ((t16.len : Nat) : Int))) (Ix t16.a t16.len t18 1 fun a20 =>
   LdS a20 v7 fun l =>
   Held v7 fun S =>
   LdH S .s (n3.add 3) fun (t23 : Sl) =>
   slices_Clone_int_int.call l v7 fun t25 v8 =>
   And (S v8) <|
   Nw (.cells #[.slice t25.a t25.len t25.cap] 42 (0, 0)) v8 fun n26 v9 =>
   And (S v9) <|
   App t23 1 24 42 [.slice none 0 0] ⟨(some n26), 1, 1⟩ v9 fun t27 v10 =>
   St1 (n3.add 3) (.slice t27.a t27.len t27.cap) v10 fun v11 =>
   Ar .i64 (t18 + 1) fun t29 =>
   J t29 v11)
   (R (some n3) v7))
theorem transfer_Cache_Clone.of_vc {c : Option Addr} {σ : Hp} {R : Option Addr → Hp → Prop} (hv : transfer_Cache_Clone.vc c σ R) : transfer_Cache_Clone.call c σ R :=
 fnK_sound Tryz.func107 (x := transfer_Cache_Clone.hint) (args := [.pointer c]) (rs := [.one .p]) (R := R) (Eq.mpr (by kernel_rfl) hv)
def transfer_Cache_made.hint : Hn := .seq (.o 1) (.seq (.reg (.seq [.op, .op, .op, .grd true 5 [.op, .op, .op, .op, .op], .op])) (.leaf))
def transfer_Cache_made.vc (c : Option Addr) (σ : Hp) (R : Bool → Hp → Prop) : Prop :=
 JnB (fun r v =>
  R r v) fun J =>
 If (!c.isNone) (NilP c fun a7 =>
  LdI .i64 (a7.add 0) σ fun t9 =>
  J (decide (t9 > 0)) σ)
  (J false σ)
theorem transfer_Cache_made.of_vc {c : Option Addr} {σ : Hp} {R : Bool → Hp → Prop} (hv : transfer_Cache_made.vc c σ R) : transfer_Cache_made.call c σ R :=
 fnK_sound Tryz.func137 (x := transfer_Cache_made.hint) (args := [.pointer c]) (rs := [.one .b]) (R := R) (Eq.mpr (by kernel_rfl) hv)
def transfer_Cache_Tick.hint : Hn := .seq (.o 1) (.seq (.o 4) (.leaf))
def transfer_Cache_Tick.vc (c : Option Addr) (σ : Hp) (R : Sl → Hp → Prop) : Prop :=
 transfer_Cache_evict.call c ⟨301, #[], #[]⟩ σ fun t5 v =>
 R t5 v
theorem transfer_Cache_Tick.of_vc {c : Option Addr} {σ : Hp} {R : Sl → Hp → Prop} (hv : transfer_Cache_Tick.vc c σ R) : transfer_Cache_Tick.call c σ R :=
 fnK_sound Tryz.func250 (x := transfer_Cache_Tick.hint) (args := [.pointer c]) (rs := [.one .s]) (R := R) (Eq.mpr (by kernel_rfl) hv)
def transfer_Cache_evict.hint : Hn := .seq (.o 2) (.seq (.seq (.o 3) (.cond (.seq (.o 1) (.leaf)) (.leaf))) (.seq (.o 5) (.seq (.o 8) (.seq (.o 11) (.seq (.o 9) (.seq (.o 2) (.leaf)))))))
def transfer_Cache_evict.vc (c : Option Addr) (way : Fv) (σ : Hp) (R : Sl → Hp → Prop) : Prop :=
 Nw (.cells #[.func (.func way.f) way.first way.captured] 290 (0, 0)) σ fun n3 v =>
 transfer_Cache_made.call c v fun t8 v1 =>
 If (!t8) (R ⟨none, 0, 0⟩ v1)
  (LdF (n3.add 0) v1 fun t11 =>
  CallF Tryz.prog t11 [.pointer c] [.one (.i .i64)] v1 fun n v2 =>
  NilP c fun a15 =>
  LdS (a15.add 3) v2 fun t17 =>
  SlcL t17 1 0 n n fun out =>
  NilP c fun a23 =>
  LdS (a23.add 3) v2 fun t25 =>
  SlcL t25 1 n (t25.len : Nat) (t25.cap : Nat) fun t27 =>
  slices_Clone_int_int_LL.call t27 v2 fun t28 v3 =>
  NilP c fun a29 =>
  St1 (a29.add 3) (.slice t28.a t28.len t28.cap) v3 fun v4 =>
  NilP c fun a33 =>
  LdS (a33.add 3) v4 fun t35 =>
  NilP c fun a37 =>
  St1 (a37.add 2) (.int .i64 ((t35.len : Nat) : Int)) v4 fun v5 =>
  R out v5)
theorem transfer_Cache_evict.of_vc {c : Option Addr} {way : Fv} {σ : Hp} {R : Sl → Hp → Prop} (hv : transfer_Cache_evict.vc c way σ R) : transfer_Cache_evict.call c way σ R :=
 fnK_sound Tryz.func300 (x := transfer_Cache_evict.hint) (args := [.pointer c, .agg #[.func (.func way.f) way.first way.captured]]) (rs := [.one .s]) (R := R) (Eq.mpr (by kernel_rfl) hv)
end Go.Proofs

-- TfA
namespace Go.Ar
open Go Go.Vc Go.Proofs
set_option linter.unusedSimpArgs false
set_option linter.unusedVariables false

variable {σ : Hp} {F : Rg} {p batch room : Nat} {t : TrA}

def slV (s : Sl) : Value := .slice s.a s.len s.cap
def intsI (xs : List Int) : List Value := xs.map (Value.int .i64)
theorem one1_intsI {l : List Int} : ∀ v ∈ intsI l, one1 v = true := by
  intro v hv
  simp only [intsI, List.mem_map] at hv
  obtain ⟨x, _, rfl⟩ := hv; rfl
/-- The batches, in a region. -/
def Bat (sls : List Sl) (bs : List (List Int)) (σ : Hp) (D : Rg) : Prop := sls.length = bs.length ∧ ∀ (i : Nat) s xs, sls[i]? = some s → bs[i]? = some xs → SlR s 1 (intsI xs) σ D ∧ s.len ≤ s.cap
theorem Bat.loc (sls : List Sl) (bs : List (List Int)) : Lcl (Bat sls bs) := fun σ σ' F G h hz hs => ⟨h.1, fun i s xs h1 h2 => ⟨SlR.loc _ _ _ _ _ _ _ (h.2 i s xs h1 h2).1 hz hs, (h.2 i s xs h1 h2).2⟩⟩

structure TfH (σ : Hp) (F : Rg) (p batch room : Nat) (t : TrA) : Prop where
  mem : ∃ (sl : Sl) (sls : List Sl) (D : Rg), Blk σ p [.int .i64 (batch : Int), .int .i64 (room : Int), .int .i64 (t.low : Int), .slice sl.a sl.len sl.cap] ∧ RowR sl 1 (sls.map slV) σ (fun b => F b ∧ b ≠ p ∧ ¬ D b) ∧ Bat sls t.bs σ D ∧ (∀ b, D b → F b ∧ b ≠ p)
  fp : F p
  b1 : 1 ≤ batch ∧ batch ≤ 32
  r1 : room ≤ 8
  few : t.bs.length ≤ room
  low : t.low ≤ t.bs.length
  all : ∀ xs ∈ t.bs, xs.length = batch

theorem TfH.loc : Lcl fun σ F => TfH σ F p batch room t := fun σ σ' F G h hz hs => by
  obtain ⟨sl, sls, D, hb, hr, hB, hD⟩ := h.mem
  refine ⟨⟨sl, sls, fun b => D b ∧ b < σ.size, ?_, ?_, ?_, fun b hb => ⟨(hs b hb.2 (hD b hb.1).1).1, (hD b hb.1).2⟩⟩, (hs p hb.lt h.fp).1, h.b1, h.r1, h.few, h.low, h.all⟩
  · obtain ⟨e, he⟩ := hb
    exact ⟨e, (hs p (Blk.lt ⟨e, he⟩) h.fp).2.trans he⟩
  · exact RowR.loc _ _ _ _ _ _ _ hr hz fun b hb hf => ⟨⟨(hs b hb hf.1).1, hf.2.1, fun hd => hf.2.2 hd.1⟩, (hs b hb hf.1).2⟩
  · exact Bat.loc _ _ _ _ _ _ hB hz fun b hb hd => ⟨⟨hd, hb⟩, (hs b hb (hD b hd).1).2⟩
theorem TfH.keep0 {σ' : Hp} (h : TfH σ F p batch room t) (e : Ext0 σ σ') : TfH σ' F p batch room t := Lcl.keep0 TfH.loc h e

theorem fmade_ok (h : TfH σ F p batch room t) {R : Bool → Hp → Prop} (hR : R true σ) : transfer_Cache_made.call (some ⟨p, 0, none⟩) σ R := by
  refine transfer_Cache_made.of_vc ?_
  unfold transfer_Cache_made.vc
  obtain ⟨sl, sls, D, hb, _⟩ := h.mem
  have := h.b1
  refine JnB.intro (ifT rfl (nilP (hb.rI rfl ?_)))
  rw [decide_eq_true (by omega)]
  exact hR

/-- A slice's element that is a slice, read. -/
theorem _root_.Go.Vc.SlR.ixS {s : Sl} {F : Rg} {sls : List Sl} (h : SlR s 1 (sls.map slV) σ F) {i : Nat} {x : Sl} (hx : sls[i]? = some x) {K : Sl → Prop} (hK : K x) : Ix s.a s.len (i : Int) 1 fun a => LdS a σ K := by
  have hi := (List.getElem?_eq_some_iff.1 hx).1
  obtain ⟨b, o, ha, hc⟩ := h.cell (j := i) (v := slV x) (by simp [hx])
  have hl := h.1
  rw [List.length_map] at hl
  rw [ha]
  refine ix (by omega) (by omega) ?_
  rw [add_lit]
  exact ldS (by simpa [slV] using hc) hK

theorem FNew_ok (h1 : 1 ≤ batch) (h2 : batch ≤ 32) (h3 : room ≤ 8) {R : Option Addr → Int → Hp → Prop} (hR : ∀ σ' p, Ext0 σ σ' → σ.size ≤ p → p < σ'.size → TfH σ' (· = p) p batch room ⟨0, []⟩ → R (some ⟨p, 0, none⟩) 0 σ') : transfer_New.call batch room σ R := by
  refine transfer_New.of_vc ?_
  unfold transfer_New.vc
  refine JnB.intro (ifDF (by omega) (JnB.intro (ifDF (by omega) (JnB.intro (ifDF (by omega) (ifDF (by omega) ?_))))))
  refine nw (cs := [.int .i64 batch, .int .i64 room, .int .i64 0, .slice none 0 0]) fun v hz e hb => ?_
  exact hR v _ e (Nat.le_refl _) (by omega) ⟨⟨⟨none, 0, 0⟩, [], fun _ => False, hb, RowR.nil _ _ _ _, ⟨rfl, fun i s xs h => by simp at h⟩, fun b h => h.elim⟩, rfl, ⟨h1, h2⟩, h3, by simp, by simp, by simp⟩

/-- Evicted batches: a slice of slices, in a region. -/
def OutR (out : Sl) (bs : List (List Int)) (σ : Hp) (G : Rg) : Prop := ∃ sls : List Sl, SlR out 1 (sls.map slV) σ G ∧ Bat sls bs σ G
theorem OutR.loc (out : Sl) (bs : List (List Int)) : Lcl (OutR out bs) := fun σ σ' F G ⟨sls, h1, h2⟩ hz hs => ⟨sls, SlR.loc _ _ _ _ _ _ _ h1 hz hs, Bat.loc _ _ _ _ _ _ h2 hz hs⟩

end Go.Ar

-- TfB
namespace Go.Ar
open Go Go.Vc Go.Proofs
set_option linter.unusedSimpArgs false
set_option linter.unusedVariables false

variable {σ : Hp} {F : Rg} {p batch room : Nat} {t : TrA}

theorem grow_ok {n : Nat} (hn : n ≤ 1000000) {R : Sl → Hp → Prop} (hR : ∀ s' σ', Ext0 σ σ' → RowR s' 1 [] σ' (fun b => σ.size ≤ b) → R s' σ') : slices_Grow_int_int.call ⟨none, 0, 0⟩ (n : Int) σ R := by
  refine slices_Grow_int_int.of_vc ?_
  unfold slices_Grow_int_int.vc
  refine Jn.intro (ifDF (by omega) (arN (m := 0) (by simp) (by omega) (arN (m := n) (by simp) (by omega) (ifD (fun hpos => ?_) fun h0 => hR _ _ (Ext.refl _ _) (RowR.nil _ _ _ _)))))
  refine slc (lo := 0) (hi := 0) (mx := 0) (by omega) (by omega) (by simp) ?_
  refine ⟨by omega, [], by simp, by simp [Rd], by simp [one1], by simp only [Int.toNat_natCast]; omega, by simp only [Int.toNat_natCast]; omega, by omega, fun hin => by simp only [Int.toNat_natCast] at hin; omega, fun hout cc hcc => ?_⟩
  refine nw fun v1 hz1 e1 hb1 => ?_
  simp only [Int.toNat_natCast] at *
  have hcc' : n ≤ cc := by omega
  refine slc (lo := 0) (hi := 0) (mx := cc) (by omega) (by omega) (by simp only; omega) (hR _ v1 e1 ⟨by simp, .inr ⟨σ.size, _, Nat.le_refl _, ?_, hb1, by simp, ?_, by simp⟩⟩)
  · simp only
    split <;> simp [add_lit]
  · simp only [List.nil_append, List.length_append, List.length_flatten, List.map_replicate, List.sum_replicate_nat, List.length_cons, List.length_nil, Nat.sub_zero]
    omega

theorem flat_take (bs : List (List Int)) {i : Nat} {xs : List Int} (h : bs[i]? = some xs) : (bs.take (i + 1)).flatten = (bs.take i).flatten ++ xs := by
  rw [List.take_add_one, h]; simp
theorem TfH.flat (h : TfH σ F p batch room t) : t.bs.flatten.length ≤ 256 := by
  have key : ∀ l : List (List Int), (∀ xs ∈ l, xs.length = batch) → l.flatten.length = batch * l.length := by
    intro l
    induction l with
    | nil => intro _; simp
    | cons x l ih =>
      intro hl
      rw [List.flatten_cons, List.length_append, hl x (by simp), ih fun xs hx => hl xs (by simp [hx]), List.length_cons, Nat.mul_add]; omega
  rw [key t.bs h.all]
  have h1 := h.b1
  have h2 := h.few
  have h3 := h.r1
  have : batch * t.bs.length ≤ 32 * 8 := Nat.mul_le_mul h1.2 (by omega)
  omega
theorem flat_le (bs : List (List Int)) (i : Nat) : (bs.take i).flatten.length ≤ bs.flatten.length := by
  conv => rhs; rw [← List.take_append_drop i bs, List.flatten_append, List.length_append]
  omega

theorem Objs_ok (h : TfH σ F p batch room t) {R : Sl → Hp → Prop} (hR : ∀ s' σ', Ext0 σ σ' → s'.len = t.bs.flatten.length → RowR s' 1 (intsI t.bs.flatten) σ' (fun b => σ.size ≤ b) → R s' σ') : transfer_Cache_Objects.call (some ⟨p, 0, none⟩) σ R := by
  refine transfer_Cache_Objects.of_vc ?_
  unfold transfer_Cache_Objects.vc
  have hfl := h.flat
  obtain ⟨so, sls, D, hb, hr, hB, hD⟩ := h.mem
  have hso : so.len = t.bs.length := by have := hr.1; rw [List.length_map, hB.1] at this; omega
  have hfw := h.few
  have hr8 := h.r1
  refine fmade_ok h (ifF rfl (nilP (hb.rS rfl ?_)))
  refine slices_Concat_int_int.of_vc ?_
  unfold slices_Concat_int_int.vc
  refine loop2 (a := .i .i64) (bb := .i .i64) (fun (n tt : Int) v => ∃ i : Nat, tt = (i : Int) ∧ i ≤ t.bs.length ∧ v = σ ∧ n = (((t.bs.take i).flatten.length : Nat) : Int)) (fun _ tt _ => t.bs.length - tt.toNat) ⟨0, rfl, by omega, rfl, by simp⟩ ?_
  rintro n tt v ⟨i, rfl, hi, rfl, rfl⟩
  refine ifD (fun hlt => ?_) fun hge => ?_
  · simp only at hlt
    have hi' : i < t.bs.length := by omega
    have his : i < sls.length := by rw [hB.1]; exact hi'
    refine hr.slR.ixS (List.getElem?_eq_getElem his) ?_
    obtain ⟨m1, m2⟩ := hB.2 i _ _ (List.getElem?_eq_getElem his) (List.getElem?_eq_getElem hi')
    have hl1 : sls[i].len = t.bs[i].length := by have := m1.1; simp [intsI] at this; omega
    have ft := flat_take t.bs (List.getElem?_eq_getElem hi')
    have fl := flat_le t.bs (i + 1)
    refine arN (m := (t.bs.take (i + 1)).flatten.length) (by rw [ft, List.length_append, hl1]; omega) (by omega) (ifDF (by omega) (arN (m := i + 1) (by omega) (by omega) ⟨⟨i + 1, rfl, by omega, rfl, rfl⟩, by omega⟩))
  · have hii : i = t.bs.length := by simp only at hge; omega
    subst hii
    rw [List.take_length]
    refine grow_ok (by omega) fun s1 v1 e1 hr1 => ?_
    refine loop2 (a := .s) (bb := .i .i64) (fun (s : Sl) (tt : Int) w => ∃ i : Nat, tt = (i : Int) ∧ i ≤ t.bs.length ∧ Ext0 v w ∧ RowR s 1 (intsI (t.bs.take i).flatten) w (fun b => v.size ≤ b)) (fun _ tt _ => t.bs.length - tt.toNat) ⟨0, rfl, by omega, e1, by simpa [intsI] using hr1⟩ ?_
    rintro s tt w ⟨i, rfl, hi, e, hrow⟩
    refine ifD (fun hlt => ?_) fun hge => ?_
    · simp only at hlt
      have hi' : i < t.bs.length := by omega
      have his : i < sls.length := by rw [hB.1]; exact hi'
      refine ((RowR.loc _ _ _).keep0 hr e).slR.ixS (List.getElem?_eq_getElem his) ?_
      obtain ⟨m1, m2⟩ := hB.2 i _ _ (List.getElem?_eq_getElem his) (List.getElem?_eq_getElem hi')
      have hl1 : sls[i].len = t.bs[i].length := by have := m1.1; simp [intsI] at this; omega
      have hlb := h.all _ (List.getElem_mem hi')
      have hb1 := h.b1
      have ft := flat_take t.bs (List.getElem?_eq_getElem hi')
      have fl := flat_le t.bs (i + 1)
      have hsl : s.len = (t.bs.take i).flatten.length := by have := hrow.1; simp only [intsI, List.length_map] at this; omega
      rw [ft, List.length_append] at fl
      refine hrow.app (ys := intsI t.bs[i]) rfl (by simp [intsI]; omega) ((SlR.loc _ _ _).keep0 m1 e).rd one1_intsI ?_ (by omega) (by omega) fun s' w' hl' e' ho' => ?_
      · have : (s.len + sls[i].len) * 8 ≤ 512 * 8 := Nat.mul_le_mul (by omega) (by omega)
        omega
      · refine arN (m := i + 1) (by omega) (by omega) ⟨⟨i + 1, rfl, by omega, Ext.fresh e e' fun _ h => h, ?_⟩, by omega⟩
        rw [ft]
        have : intsI ((t.bs.take i).flatten ++ t.bs[i]) = intsI (t.bs.take i).flatten ++ intsI t.bs[i] := by simp [intsI]
        rw [this]
        exact (RowR.loc _ _ _).mono ho' fun b _ hb => by
          rcases hb with h | h
          · exact h
          · exact Nat.le_trans e.1 h
    · have hii : i = t.bs.length := by simp only at hge; omega
      subst hii
      rw [List.take_length] at hrow
      exact hR s w e (by have := hrow.1; simp only [intsI, List.length_map] at this; omega) hrow

theorem FClone_ok (h : TfH σ F p batch room t) {R : Option Addr → Hp → Prop} (hR : ∀ σ' p', Ext0 σ σ' → σ.size ≤ p' → TfH σ' (fun b => σ.size ≤ b) p' batch room t → R (some ⟨p', 0, none⟩) σ') : transfer_Cache_Clone.call (some ⟨p, 0, none⟩) σ R := by
  refine transfer_Cache_Clone.of_vc ?_
  unfold transfer_Cache_Clone.vc
  obtain ⟨so, sls, D, hb, hr, hB, hD⟩ := h.mem
  have hso : so.len = t.bs.length := by have := hr.1; rw [List.length_map, hB.1] at this; omega
  have hfw := h.few
  have hr8 := h.r1
  have hbb := h.b1
  refine fmade_ok h (ifF rfl (nilP (hb.rI rfl (hb.rI rfl (hb.rI rfl (hb.rS rfl ?_))))))
  refine nw (cs := [.int .i64 0, .int .i64 0, .int .i64 0, .slice none 0 0]) fun v1 hz1 e1 b1 => b1.s1 (by simp) fun v2 o2 b2 => b2.s1 (by simp) fun v3 o3 b3 => b3.s1 (by simp) fun v4 o4 b4 => b4.s1 (by simp) fun v5 o5 b5 => b5.s1 (by simp) fun v6 o6 b6 => ?_
  have e6 : Ext0 σ v6 := Ext.fresh e1 ((((o2.ext.trans o3.ext).trans o4.ext).trans o5.ext).trans o6.ext) fun i hi => by omega
  refine nilP ((e6.blk hb id).rS rfl ?_)
  refine loop1 (a := .i .i64) (fun (tt : Int) v => ∃ (i : Nat) (sl : Sl) (qs : List Sl) (E : Rg), tt = (i : Int) ∧ i ≤ t.bs.length ∧ Ext0 σ v ∧ Blk v σ.size [.int .i64 (batch : Int), .int .i64 (room : Int), .int .i64 (t.low : Int), .slice sl.a sl.len sl.cap] ∧
      RowR sl 1 (qs.map slV) v (fun b => σ.size < b ∧ ¬ E b) ∧ Bat qs (t.bs.take i) v E ∧ (∀ b, E b → σ.size < b ∧ b < v.size)) (fun tt _ => t.bs.length - tt.toNat)
    ⟨0, ⟨none, 0, 0⟩, [], fun _ => False, rfl, by omega, e6, b6, RowR.nil _ _ _ _, ⟨by simp, fun i s xs hi => by simp at hi⟩, fun b h => h.elim⟩ ?_
  rintro tt v ⟨i, sl, qs, E, rfl, hi, e, hbn, hrn, hBn, hE⟩
  refine ifD (fun hlt => ?_) fun hge => ?_
  · simp only at hlt
    have hi' : i < t.bs.length := by omega
    have his : i < sls.length := by rw [hB.1]; exact hi'
    have htl : (t.bs.take i).length = i := by rw [List.length_take]; omega
    have hsl : sl.len = i := by have := hrn.1; rw [List.length_map, hBn.1, htl] at this; omega
    refine ((RowR.loc _ _ _).keep0 hr e).slR.ixS (List.getElem?_eq_getElem his) ?_
    obtain ⟨m1, m2⟩ := hB.2 i _ _ (List.getElem?_eq_getElem his) (List.getElem?_eq_getElem hi')
    have hl1 : sls[i].len = t.bs[i].length := by have := m1.1; simp [intsI] at this; omega
    have hlb := h.all _ (List.getElem_mem hi')
    refine ⟨fun h' => Blk h' σ.size [.int .i64 (batch : Int), .int .i64 (room : Int), .int .i64 (t.low : Int), .slice sl.a sl.len sl.cap], hbn, ⟨sl, fun h' hS => by rw [add_lit, hS.cell]; rfl, ?_⟩⟩
    refine cloneV_ok ((SlR.loc _ _ _).keep0 m1 e) one1_intsI (by omega) fun s' v8 hl8 e8 hr8 => ⟨e8.blk hbn id, ?_⟩
    refine nw (cs := [.slice s'.a s'.len s'.cap]) fun v9 hz9 e9 hb9 => ⟨(e8.trans e9).blk hbn id, ?_⟩
    have hrn' := (RowR.loc _ _ _).mono hrn (G := fun b => σ.size < b ∧ ¬ E b ∧ b < v.size) fun b hb hf => ⟨hf.1, hf.2, hb⟩
    have hr9 := (RowR.loc _ _ _).keep0 ((RowR.loc _ _ _).keep0 hrn' e8) e9
    have hv0 : σ.size < v.size := hbn.lt
    have hs8 := e8.1
    have hs9 := e9.1
    refine hr9.app (ys := [slV s']) rfl rfl ?_ (by simp [one1, slV]) ?_ ?_ Nat.zero_lt_one fun s2 v10 hl10 e10 hr10 => ?_
    · intro j u hu
      rw [add_lit, Nat.zero_add, hb9.cell]; exact hu
    · simp only; have : (sl.len + 1) * 24 ≤ 9 * 24 := Nat.mul_le_mul (by omega) (by omega); omega
    · simp only; omega
    · have hb10 := e10.blk ((e8.trans e9).blk hbn id) fun hh => by omega
      refine hb10.s1 (by simp) fun v11 o11 hb11 => ?_
      have hs10 := e10.1
      have e011 : Ext0 σ v11 := Ext.fresh (Ext.fresh ((e.trans e8).trans e9) e10 fun b hb => by omega) o11.ext fun b hb => by omega
      refine arN (m := i + 1) (by omega) (by omega) ⟨⟨i + 1, s2, qs ++ [s'], fun b => E b ∨ v.size ≤ b ∧ b < v8.size, rfl, by omega, e011, hb11, ?_, ⟨?_, fun j s xs hj hx => ?_⟩, fun b hb => ?_⟩, by omega⟩
      · rw [List.map_append]
        refine (RowR.loc _ _ _).keep ((RowR.loc _ _ _).mono hr10 fun b _ hb => ?_) o11.ext fun b _ hb he => by have := hb.1; omega
        rcases hb with hb | hb
        · exact ⟨hb.1, fun hd => by
            rcases hd with hd | hd
            · exact hb.2.1 hd
            · omega⟩
        · exact ⟨by omega, fun hd => by
            rcases hd with hd | hd
            · have := (hE b hd).2; omega
            · omega⟩
      · rw [List.length_append, hBn.1, htl, List.length_take]; simp; omega
      · have mv : ∀ {s : Sl} {ys : List Int} {G : Rg}, SlR s 1 (intsI ys) v9 G → (∀ b, G b → σ.size < b ∧ ¬ (σ.size < b ∧ ¬ E b ∧ b < v.size)) → SlR s 1 (intsI ys) v11 G := fun hS hn =>
          (SlR.loc _ _ _).keep ((SlR.loc _ _ _).keep hS e10 fun b _ hb => (hn b hb).2) o11.ext fun b _ hb he => by have := (hn b hb).1; omega
        have htk : t.bs.take (i + 1) = t.bs.take i ++ [t.bs[i]] := by rw [List.take_add_one, List.getElem?_eq_getElem hi']; rfl
        rw [htk] at hx
        have hql : qs.length = i := by rw [hBn.1, htl]
        rcases Nat.lt_or_ge j i with hji | hji
        · rw [List.getElem?_append_left (by omega)] at hj
          rw [List.getElem?_append_left (by omega)] at hx
          obtain ⟨k1, k2⟩ := hBn.2 j s xs hj hx
          exact ⟨(SlR.loc _ _ _).mono (mv ((SlR.loc _ _ _).keep0 ((SlR.loc _ _ _).keep0 k1 e8) e9) fun b hd => ⟨(hE b hd).1, fun hh => hh.2.1 hd⟩) fun b _ hd => .inl hd, k2⟩
        · rw [List.getElem?_append_right (by omega)] at hj
          rw [List.getElem?_append_right (by omega)] at hx
          have hj0 : j = i := by
            have := (List.getElem?_eq_some_iff.1 hj).1
            simp at this; omega
          subst hj0
          rw [hql, Nat.sub_self] at hj
          rw [htl, Nat.sub_self] at hx
          simp at hj hx; subst hj; subst hx
          have hcap : s'.len ≤ s'.cap := by
            rcases hr8.2 with ⟨q1, q2⟩ | ⟨_, _, _, _, _, q, _⟩
            · omega
            · exact q
          exact ⟨(SlR.loc _ _ _).mono (mv ((SlR.loc _ _ _).keep0 ((SlR.loc _ _ _).mono hr8.slR (G := fun b => v.size ≤ b ∧ b < v8.size) fun b hb hd => ⟨hd, hb⟩) e9) fun b hd => ⟨by omega, fun hh => by omega⟩) fun b _ hd => .inr hd, hcap⟩
      · have hs11 := o11.1
        rcases hb with hd | hd
        · have := hE b hd; omega
        · omega
  · have hii : i = t.bs.length := by simp only at hge; omega
    subst hii
    rw [List.take_length] at hBn
    refine hR v σ.size e (Nat.le_refl _) ⟨⟨sl, qs, E, hbn, (RowR.loc _ _ _).mono hrn fun b _ hb => ⟨Nat.le_of_lt hb.1, by omega, hb.2⟩, hBn, fun b hb => ⟨Nat.le_of_lt (hE b hb).1, by have := (hE b hb).1; omega⟩⟩, Nat.le_refl _, h.b1, h.r1, h.few, h.low, h.all⟩

end Go.Ar

-- PmC
namespace Go.Ar
open Go Go.Vc Go.Proofs
open Go.Bu (runOk)
set_option linter.unusedSimpArgs false
set_option linter.unusedVariables false

variable {σ : Hp} {F : Rg} {p : Nat} {ow : Nat → Nat}

def markV (l : List (Nat × Nat × Nat)) : List Value := l.flatMap fun r => [.int .i64 (r.1 : Int), .int .i64 (r.2.1 : Int), .int .i64 (r.2.2 : Int)]
theorem markV_len (l : List (Nat × Nat × Nat)) : (markV l).length = 3 * l.length := by
  induction l with
  | nil => rfl
  | cons x l ih => simp only [markV, List.flatMap_cons, List.length_append, List.length_cons, List.length_nil] at *; omega
theorem markV_append (a b : List (Nat × Nat × Nat)) : markV (a ++ b) = markV a ++ markV b := by simp [markV]
theorem markV_get {l : List (Nat × Nat × Nat)} {i : Nat} {r : Nat × Nat × Nat} (h : l[i]? = some r) :
    (markV l)[3 * i]? = some (.int .i64 (r.1 : Int)) ∧ (markV l)[3 * i + 1]? = some (.int .i64 (r.2.1 : Int)) ∧ (markV l)[3 * i + 2]? = some (.int .i64 (r.2.2 : Int)) := by
  induction l generalizing i with
  | nil => simp at h
  | cons x l ih =>
    have e : markV (x :: l) = [.int .i64 (x.1 : Int), .int .i64 (x.2.1 : Int), .int .i64 (x.2.2 : Int)] ++ markV l := by simp [markV]
    rw [e]
    cases i with
    | zero => simp at h; subst h; simp
    | succ i =>
      have := ih (i := i) (by simpa using h)
      rw [show 3 * (i + 1) = 3 * i + 3 by omega]
      simpa using this
/-- The pages below `x` with numbers are those of the marks. -/
def Marked (ow : Nat → Nat) (x : Nat) (l : List (Nat × Nat × Nat)) : Prop :=
  l.length ≤ x ∧ (∀ r ∈ l, 1 ≤ r.2.1 ∧ r.1 + r.2.1 ≤ x ∧ ∀ y, r.1 ≤ y → y < r.1 + r.2.1 → ow y = r.2.2) ∧ ∀ y, y < x → ow y ≠ 0 → ∃ r ∈ l, r.1 ≤ y ∧ y < r.1 + r.2.1
theorem Marked.skip {x : Nat} {l : List (Nat × Nat × Nat)} (h : Marked ow x l) (h0 : ow x = 0) : Marked ow (x + 1) l :=
  ⟨by have := h.1; omega, fun r hr => ⟨(h.2.1 r hr).1, by have := (h.2.1 r hr).2.1; omega, (h.2.1 r hr).2.2⟩, fun y hy hn => h.2.2 y (by
    rcases Nat.lt_or_ge y x with h1 | h1
    · exact h1
    · have : y = x := by omega
      subst this; exact absurd h0 hn) hn⟩
theorem Marked.new {x : Nat} {l : List (Nat × Nat × Nat)} (h : Marked ow x l) : Marked ow (x + 1) (l ++ [(x, 1, ow x)]) := by
  refine ⟨by simp; exact h.1, fun r hr => ?_, fun y hy hn => ?_⟩
  · rcases List.mem_append.1 hr with h1 | h1
    · exact ⟨(h.2.1 r h1).1, by have := (h.2.1 r h1).2.1; omega, (h.2.1 r h1).2.2⟩
    · simp at h1; subst h1
      exact ⟨Nat.le_refl _, Nat.le_refl _, fun y h1 h2 => by simp only at h1 h2 ⊢; rw [show y = x by omega]⟩
  · rcases Nat.lt_or_ge y x with h1 | h1
    · obtain ⟨r, hr, h2⟩ := h.2.2 y h1 hn
      exact ⟨r, List.mem_append_left _ hr, h2⟩
    · exact ⟨(x, 1, ow x), by simp, by simp only; omega⟩
theorem Marked.more {x a m no : Nat} {l : List (Nat × Nat × Nat)} (h : Marked ow x (l ++ [(a, m, no)])) (he : a + m = x) (hno : ow x = no) : Marked ow (x + 1) (l ++ [(a, m + 1, no)]) := by
  refine ⟨by have := h.1; simp at this ⊢; omega, fun r hr => ?_, fun y hy hn => ?_⟩
  · rcases List.mem_append.1 hr with h1 | h1
    · have := h.2.1 r (List.mem_append_left _ h1)
      exact ⟨this.1, by omega, this.2.2⟩
    · simp at h1; subst h1
      have := h.2.1 (a, m, no) (by simp)
      refine ⟨by simp only; omega, by simp only; omega, fun y h1 h2 => ?_⟩
      simp only at h1 h2 ⊢
      rcases Nat.lt_or_ge y (a + m) with h3 | h3
      · exact this.2.2 y h1 h3
      · rw [show y = x by omega]; exact hno
  · rcases Nat.lt_or_ge y x with h1 | h1
    · obtain ⟨r, hr, h2⟩ := h.2.2 y h1 hn
      rcases List.mem_append.1 hr with h3 | h3
      · exact ⟨r, List.mem_append_left _ h3, h2⟩
      · simp at h3; subst h3
        exact ⟨(a, m + 1, no), by simp, by simp only at h2 ⊢; omega⟩
    · exact ⟨(a, m + 1, no), by simp, by simp only; have := h.2.1 (a, m, no) (by simp); simp only at this; omega⟩

set_option maxRecDepth 20000 in
theorem Marks_ok (h : PmH σ F p ow) {R : Sl → Hp → Prop} (hR : ∀ s σ' l, Ext0 σ σ' → Marked ow 1024 l → RowR s 3 (markV l) σ' (fun b => σ.size ≤ b) → R s σ') : pagemap_Map_Marks.call (some ⟨p, 0, none⟩) σ R := by
  refine pagemap_Map_Marks.of_vc ?_
  unfold pagemap_Map_Marks.vc
  refine loop2 (a := .s) (bb := .i .i64) (fun (out : Sl) (t : Int) v => ∃ (x : Nat) (l : List (Nat × Nat × Nat)), t = (x : Int) ∧ x ≤ 1024 ∧ Ext0 σ v ∧ Marked ow x l ∧ RowR out 3 (markV l) v (fun b => σ.size ≤ b)) (fun _ t _ => 1024 - t.toNat)
    ⟨0, [], rfl, by omega, Ext.refl _ _, ⟨by simp, by simp, fun y hy => by omega⟩, RowR.nil _ _ _ _⟩ ?_
  rintro out t v ⟨x, l, rfl, hx, e, hM, hrow⟩
  refine ifD (fun hlt => ?_) fun hge => ?_
  · have hx' : x < 1024 := by omega
    have hlen : out.len = l.length := by have := hrow.1; rw [markV_len] at this; omega
    have hll := hM.1
    refine Get_ok (PmH.loc.keep0 h e) _ ?_
    have hv : owI ow (x : Int) = ow x := by unfold owI; rw [if_pos (by omega)]; rfl
    rw [hv]
    refine ar (by omega) (by omega) ?_
    rw [beqN0]
    refine iff_ (fun h0 => ?_) fun h0 => ?_
    · exact arN (m := x + 1) (by omega) (by omega) ⟨⟨x + 1, l, rfl, by omega, e, hM.skip (by simpa using h0), hrow⟩, by omega⟩
    have new : ∀ ty1 ty2 : Nat, Nw (.cells #[.int .i64 (x : Int), .int .i64 1, .int .i64 ((ow x : Nat) : Int)] ty1 (0, 0)) v fun n20 v5 => App out 3 24 ty2 [.int .i64 0, .int .i64 0, .int .i64 0] ⟨(some n20), 1, 1⟩ v5 fun out1 v6 =>
        Ar .i64 ((x : Int) + 1) fun t602 => (∃ (x' : Nat) (l : List (Nat × Nat × Nat)), t602 = (x' : Int) ∧ x' ≤ 1024 ∧ Ext0 σ v6 ∧ Marked ow x' l ∧ RowR out1 3 (markV l) v6 (fun b => σ.size ≤ b)) ∧ 1024 - t602.toNat < 1024 - (x : Int).toNat := by
      intro ty1 ty2
      refine hrow.push (vs := [.int .i64 (x : Int), .int .i64 1, .int .i64 ((ow x : Nat) : Int)]) (fun b hb => Nat.le_trans e.1 hb) rfl rfl (by simp [one1]) (by omega) (by omega) fun s' v6 hl' e' ho' => ?_
      refine arN (m := x + 1) (by omega) (by omega) ⟨⟨x + 1, _, rfl, by omega, Ext.fresh e e' fun _ h => h, hM.new, ?_⟩, by omega⟩
      rw [markV_append]; exact ho'
    refine JnB.intro ?_
    rcases List.eq_nil_or_concat l with hl0 | ⟨l', ⟨a, m, no⟩, hl'⟩
    · subst hl0
      refine ifDF (by simp at hlen; omega) (JnB.intro (ifF rfl (ifF rfl (new _ _))))
    · rw [List.concat_eq_append] at hl'
      subst hl'
      have hlast : (l' ++ [(a, m, no)])[l'.length]? = some (a, m, no) := by simp
      have hg := markV_get hlast
      simp only at hg
      have hlen' : out.len = l'.length + 1 := by rw [hlen]; simp
      have hnn : ((out.len : Nat) : Int) - 1 = ((l'.length : Nat) : Int) := by omega
      have hr := (hM.2.1 (a, m, no) (by simp))
      simp only at hr
      have hcell : ∀ {d : Nat} {y : Int} {K : Int → Prop}, d < 3 → (markV (l' ++ [(a, m, no)]))[3 * l'.length + d]? = some (.int .i64 y) → K y → Ix out.a out.len (((out.len : Nat) : Int) - 1) 3 fun z => LdI .i64 (z.add d) v K := by
        intro d y K hd hy hK
        obtain ⟨b, o, ha, hc⟩ := hrow.slR.cell hy
        rw [ha, hnn]
        refine ix (by omega) (by omega) ?_
        rw [add_lit, add_lit]
        refine ldI ?_ hK
        rw [show o + (l'.length : Int).toNat * 3 + d = o + (3 * l'.length + d) by omega]; exact hc
      refine ifDT (by omega) (hcell (d := 0) (by omega) hg.1 (hcell (d := 1) (by omega) hg.2.1 (arN (m := a + m) (by omega) (by omega) (JnB.intro ?_))))
      rw [beqN]
      refine iff_ (fun hc1 => hcell (d := 2) (by omega) hg.2.2 ?_) fun hc1 => ifF rfl (new _ _)
      rw [beqN]
      refine iff_ (fun hc2 => ?_) fun hc2 => new _ _
      have e1 : a + m = x := by simpa using hc1
      have e2 : no = ow x := by simpa using hc2
      refine hcell (d := 1) (by omega) hg.2.1 (arN (m := m + 1) (by omega) (by omega) ?_)
      rcases hrow.2 with ⟨h0, _⟩ | ⟨b, cs, hq, hab, hbb, hle, hcl, htt⟩
      · omega
      rw [hab, hnn]
      refine ix (by omega) (by omega) ?_
      rw [add_lit, add_lit]
      refine hrow.st (j := 3 * l'.length + 1) (by rw [markV_len]; simp; omega) (fun b' hb' => by rw [hab] at hb'; cases hb'; congr 1; omega) fun v7 e7 hr7 => ?_
      refine arN (m := x + 1) (by omega) (by omega) ⟨⟨x + 1, l' ++ [(a, m + 1, no)], rfl, by omega, Ext.fresh e e7 fun _ h => h, hM.more e1 e2.symm, ?_⟩, by omega⟩
      have : (markV (l' ++ [(a, m, no)])).set (3 * l'.length + 1) (.int .i64 ((m + 1 : Nat) : Int)) = markV (l' ++ [(a, m + 1, no)]) := by
        rw [markV_append, markV_append, List.set_append_right _ _ (by rw [markV_len]; omega), markV_len]
        rw [show 3 * l'.length + 1 - 3 * l'.length = 1 by omega]
        simp [markV]
      rw [this] at hr7
      exact hr7
  · have hxx : x = 1024 := by omega
    subst hxx
    exact hR out v l e hM hrow

theorem PClone_ok (h : PmH σ F p ow) {R : Option Addr → Hp → Prop} (hR : ∀ σ' p', Ext0 σ σ' → σ.size ≤ p' → PmH σ' (fun b => σ.size ≤ b) p' ow → R (some ⟨p', 0, none⟩) σ') : pagemap_Map_Clone.call (some ⟨p, 0, none⟩) σ R := by
  refine pagemap_Map_Clone.of_vc ?_
  unfold pagemap_Map_Clone.vc
  refine good_ok h (ifF rfl (PNew_ok fun v1 p' e1 hp' hP1 => Marks_ok (PmH.loc.keep0 h e1) fun s v2 l e2 hM hrow => ?_))
  have hlen : s.len = l.length := by have := hrow.1; rw [markV_len] at this; omega
  have hll := hM.1
  have hP2 := PmH.loc.cut (PmH.loc.keep0 (PmH.loc.cut hP1) e2)
  have hs1 := e1.1
  have hs2 := e2.1
  refine loop1 (a := .i .i64) (fun (t : Int) v => ∃ i : Nat, t = (i : Int) ∧ i ≤ l.length ∧ Ext0 σ v ∧ (∃ G : Rg, (∀ b, G b → σ.size ≤ b ∧ (b < v1.size ∨ v2.size ≤ b)) ∧ PmH v G p' (fun y => if (l.take i).any (fun r => decide (r.1 ≤ y) && decide (y < r.1 + r.2.1)) then ow y else 0)) ∧ RowR s 3 (markV l) v (fun b => v1.size ≤ b ∧ b < v2.size) ∧ v2.size ≤ v.size) (fun t _ => l.length - t.toNat)
    ⟨0, rfl, by omega, e1.trans e2, ⟨_, fun b hb => ⟨hb.1.1, .inl hb.1.2⟩, PmH.congr hP2 fun x hx => by simp⟩, (RowR.loc _ _ _).mono hrow fun b hb hf => ⟨hf, hb⟩, Nat.le_refl _⟩ ?_
  rintro t v ⟨i, rfl, hi, e, ⟨G, hG, hP⟩, hr, hv2⟩
  refine ifD (fun hlt => ?_) fun hge => ?_
  · have hi' : i < l.length := by omega
    have hx : l[i]? = some l[i] := List.getElem?_eq_getElem hi'
    have hg := markV_get hx
    have hm := hM.2.1 l[i] (List.getElem_mem hi')
    generalize l[i] = r at hx hg hm
    obtain ⟨a, m, no⟩ := r
    simp only at hg hm
    obtain ⟨b, o, ha, hc0⟩ := hr.slR.cell hg.1
    obtain ⟨b1, o1, ha1, hc1⟩ := hr.slR.cell hg.2.1
    obtain ⟨b2, o2, ha2, hc2⟩ := hr.slR.cell hg.2.2
    rw [ha] at ha1 ha2
    cases ha1; cases ha2
    rw [ha]
    refine ix (by omega) (by omega) ?_
    rw [add_lit]
    have ee : o + (i : Int).toNat * 3 = o + 3 * i := by omega
    rw [ee]
    refine ldI0 (by simpa using hc0) (ldI0 (by rw [Nat.add_assoc]; exact hc1) (ldI0 (by rw [Nat.add_assoc]; exact hc2) ?_))
    refine nw (cs := [.int .i64 0, .int .i64 0, .int .i64 0]) fun v4 hz4 e4 hb4 => hb4.s1 (by simp) fun v5 o5 b5 => b5.s1 (by simp) fun v6 o6 b6 => b6.s1 (by simp) fun v7 o7 b7 => b7.rI rfl (b7.rI rfl (b7.rI rfl ?_))
    have e47 : Ext0 v v7 := Ext.fresh (Ext.fresh (Ext.fresh e4 o5.ext fun i hi => by omega) o6.ext fun i hi => by omega) o7.ext fun i hi => by omega
    have hP7 := PmH.loc.cut (PmH.loc.keep0 (PmH.loc.cut hP) e47)
    have hv7 := e47.1
    have step : ∀ v8, Ext (Cut (Cut G v) v7) v7 v8 → PmH v8 (Grow (Cut (Cut G v) v7) v7) p' (setO (fun y => if (l.take i).any (fun r => decide (r.1 ≤ y) && decide (y < r.1 + r.2.1)) then ow y else 0) a m no) → Ar .i64 ((i : Int) + 1) fun t25 =>
        (∃ j : Nat, t25 = (j : Int) ∧ j ≤ l.length ∧ Ext0 σ v8 ∧ (∃ G : Rg, (∀ b, G b → σ.size ≤ b ∧ (b < v1.size ∨ v2.size ≤ b)) ∧ PmH v8 G p' (fun y => if (l.take j).any (fun r => decide (r.1 ≤ y) && decide (y < r.1 + r.2.1)) then ow y else 0)) ∧ RowR s 3 (markV l) v8 (fun b => v1.size ≤ b ∧ b < v2.size) ∧ v2.size ≤ v8.size) ∧ l.length - t25.toNat < l.length - (i : Int).toNat := by
      intro v8 e8 h8
      have hv8 := e8.1
      refine arN (m := i + 1) (by omega) (by omega) ⟨⟨i + 1, rfl, by omega, Ext.fresh (e.trans e47) e8 fun b hb => (hG b hb.1.1).1, ⟨_, fun b hb => ?_, PmH.congr h8 fun y hy => ?_⟩, (RowR.loc _ _ _).keep ((RowR.loc _ _ _).keep0 hr e47) e8 fun b _ hb hc => by have := (hG b hc.1.1).2; omega, by omega⟩, by omega⟩
      · rcases hb with hb | hb
        · exact hG b hb.1.1
        · exact ⟨by have := e.1; omega, .inr (by omega)⟩
      · have htk : l.take (i + 1) = l.take i ++ [(a, m, no)] := by rw [List.take_add_one, hx]; rfl
        have hok : runOk 1024 (a : Int) (m : Int) = true := by simp only [runOk, Bool.and_eq_true, decide_eq_true_eq]; omega
        simp only [setO, hok, if_true, htk, List.any_append, List.any_cons, List.any_nil, Bool.or_false]
        by_cases hin : a ≤ y ∧ y < a + m
        · rw [if_pos hin, if_pos (by simp [hin])]
          exact (hm.2.2 y hin.1 hin.2).symm
        · rw [if_neg hin]
          have : (decide (a ≤ y) && decide (y < a + m)) = false := by
            rw [← Bool.not_eq_true]; simpa using hin
          rw [this, Bool.or_false]
    refine pset_ok hP7 a m (by omega) (by omega) no (fun hk => ?_) fun x y hx hy h1 h2 v8 e8 h8 => ?_
    · have : runOk 1024 (a : Int) (m : Int) = true := by simp only [runOk, Bool.and_eq_true, decide_eq_true_eq]; omega
      rw [this] at hk; cases hk
    · have hxa : x = a := by omega
      have hym : y = m := by omega
      subst hxa; subst hym
      exact step v8 e8 h8
  · have hii : i = l.length := by omega
    subst hii
    rw [List.take_length] at hP
    refine hR v p' e hp' (PmH.congr (PmH.loc.mono hP fun b _ hb => (hG b hb).1) fun x hx => ?_)
    by_cases h0 : ow x = 0
    · simp [h0]
    · obtain ⟨r, hr1, hr2⟩ := hM.2.2 x hx h0
      rw [if_pos (List.any_eq_true.2 ⟨r, hr1, by simpa using hr2⟩)]

end Go.Ar

-- Gspace
namespace Go.Proofs
open Go.Vc
set_option linter.unusedVariables false
set_option maxRecDepth 100000
def space_Space_Pages.hint : Hn := .seq (.o 1) (.seq (.seq (.o 3) (.cond (.seq (.o 1) (.leaf)) (.leaf))) (.seq (.o 6) (.leaf)))
def space_Space_Pages.vc (s : Option Addr) (σ : Hp) (R : Int → Hp → Prop) : Prop :=
 space_Space_made.call s σ fun t4 v =>
 If (!t4) (R 0 v)
  (NilP s fun a7 =>
  LdS (a7.add 0) v fun t9 =>
  R ((t9.len : Nat) : Int) v)
theorem space_Space_Pages.of_vc {s : Option Addr} {σ : Hp} {R : Int → Hp → Prop} (hv : space_Space_Pages.vc s σ R) : space_Space_Pages.call s σ R :=
 fnK_sound Tryz.func27 (x := space_Space_Pages.hint) (args := [.pointer s]) (rs := [.one (.i .i64)]) (R := R) (Eq.mpr (by kernel_rfl) hv)
def space_New.hint : Hn := .seq (.o 2) (.seq (.seq (.reg (.seq [.op, .op, .op, .grd false 2 [.op, .op]])) (.cond (.seq (.o 2) (.leaf)) (.leaf))) (.seq (.o 7) (.leaf)))
def space_New.vc (pages : Int) (σ : Hp) (R : Option Addr → Int → Hp → Prop) : Prop :=
 JnB (fun r v =>
  If r (R none 1 v)
   (Mk pages pages 2 126 [.bool false, .bool false] v fun t11 v1 =>
   Nw (.map #[] 0) v1 fun n12 v2 =>
   Nw (.cells #[.slice t11.a t11.len t11.cap, .map (some n12.block), .int .i64 0] 81 (0, 0)) v2 fun n14 v3 =>
   R (some n14) 0 v3)) fun J =>
 If (decide (pages < 1)) (J true σ)
  (J (decide (pages > 1024)) σ)
theorem space_New.of_vc {pages : Int} {σ : Hp} {R : Option Addr → Int → Hp → Prop} (hv : space_New.vc pages σ R) : space_New.call pages σ R :=
 fnK_sound Tryz.func36 (x := space_New.hint) (args := [.int .i64 pages]) (rs := [.one .p, .one (.i .i64)]) (R := R) (Eq.mpr (by kernel_rfl) hv)
def space_Space_Unmap.hint : Hn := .seq (.o 1) (.seq (.o 6) (.leaf))
def space_Space_Unmap.vc (s : Option Addr) (start : Int) (pages : Int) (σ : Hp) (R : Int → Hp → Prop) : Prop :=
 LdB ((Addr.mk 1 0 none).add 0) σ fun t10 =>
 LdB ((Addr.mk 1 0 none).add 1) σ fun t101 =>
 space_Space_leave.call s start pages t10 t101 σ fun t11 v =>
 R t11 v
theorem space_Space_Unmap.of_vc {s : Option Addr} {start : Int} {pages : Int} {σ : Hp} {R : Int → Hp → Prop} (hv : space_Space_Unmap.vc s start pages σ R) : space_Space_Unmap.call s start pages σ R :=
 fnK_sound Tryz.func76 (x := space_Space_Unmap.hint) (args := [.pointer s, .int .i64 start, .int .i64 pages]) (rs := [.one (.i .i64)]) (R := R) (Eq.mpr (by kernel_rfl) hv)
def space_Space_made.hint : Hn := .seq (.o 1) (.seq (.reg (.seq [.op, .op, .op, .grd true 6 [.op, .op, .op, .op, .op, .op], .op])) (.leaf))
def space_Space_made.vc (s : Option Addr) (σ : Hp) (R : Bool → Hp → Prop) : Prop :=
 JnB (fun r v =>
  R r v) fun J =>
 If (!s.isNone) (NilP s fun a7 =>
  LdS (a7.add 0) σ fun t9 =>
  J (decide (((t9.len : Nat) : Int) > 0)) σ)
  (J false σ)
theorem space_Space_made.of_vc {s : Option Addr} {σ : Hp} {R : Bool → Hp → Prop} (hv : space_Space_made.vc s σ R) : space_Space_made.call s σ R :=
 fnK_sound Tryz.func77 (x := space_Space_made.hint) (args := [.pointer s]) (rs := [.one .b]) (R := R) (Eq.mpr (by kernel_rfl) hv)
def space_Space_leave.hint : Hn := .seq (.o 2) (.seq (.o 9) (.seq (.block (.seq (.o 3) (.cond (.seq (.o 2) (.leaf)) (.seq (.o 4) (.cond (.seq (.o 1) (.leaf)) (.leaf)))))) (.seq (.o 5) (.seq (.o 1) (.leaf)))))
def space_Space_leave.vc (s : Option Addr) (start : Int) (pages : Int) (to : Bool) (to1 : Bool) (σ : Hp) (R : Int → Hp → Prop) : Prop :=
 Nw (.cells #[.bool to, .bool to1] 126 (0, 0)) σ fun n7 v =>
 space_Space_run.call s start pages v fun t15 t151 v1 =>
 If (t151 != 0) (R t151 v1)
  (LdB ((Addr.mk 1 0 none).add 0) v1 fun t24 =>
  LdB ((Addr.mk 1 0 none).add 1) v1 fun t241 =>
  slices_Contains_space_page_space_page.call t15 t24 t241 v1 fun t25 v2 =>
  If t25 (R 7 v2)
   (LdB (n7.add 0) v2 fun t29 =>
   LdB (n7.add 1) v2 fun t291 =>
   space_Space_set.call s start pages t29 t291 v2 fun v3 =>
   R 0 v3))
theorem space_Space_leave.of_vc {s : Option Addr} {start : Int} {pages : Int} {to : Bool} {to1 : Bool} {σ : Hp} {R : Int → Hp → Prop} (hv : space_Space_leave.vc s start pages to to1 σ R) : space_Space_leave.call s start pages to to1 σ R :=
 fnK_sound Tryz.func156 (x := space_Space_leave.hint) (args := [.pointer s, .int .i64 start, .int .i64 pages, .agg #[.bool to, .bool to1]]) (rs := [.one (.i .i64)]) (R := R) (Eq.mpr (by kernel_rfl) hv)
def space_Space_run.hint : Hn := .seq (.o 2) (.seq (.block (.seq (.o 4) (.cond (.seq (.o 2) (.leaf)) (.seq (.reg (.seq [.op, .op, .op, .grd false 2 [.op, .op], .op, .grd false 7 [.op, .op, .op, .op, .op, .op, .op], .op, .grd false 9 [.op, .op, .op, .op, .op, .op, .op, .op, .op], .op])) (.cond (.seq (.o 2) (.leaf)) (.leaf)))))) (.seq (.o 11) (.leaf)))
def space_Space_run.vc (s : Option Addr) (start : Int) (pages : Int) (σ : Hp) (R : Sl → Int → Hp → Prop) : Prop :=
 space_Space_made.call s σ fun t10 v =>
 If (!t10) (R ⟨none, 0, 0⟩ 5 v)
  (JnB (fun r v1 =>
   JnB (fun r1 v2 =>
    JnB (fun r2 v3 =>
     If r2 (R ⟨none, 0, 0⟩ 1 v3)
      (NilP s fun a40 =>
      LdS (a40.add 0) v3 fun t42 =>
      Ar .i64 (start + pages) fun t46 =>
      SlcL t42 2 start t46 (t42.cap : Nat) fun t47 =>
      R t47 0 v3)) fun J2 =>
    If r1 (J2 true v2)
     (NilP s fun a31 =>
     LdS (a31.add 0) v2 fun t33 =>
     Ar .i64 (((t33.len : Nat) : Int) - start) fun t36 =>
     J2 (decide (pages > t36)) v2)) fun J1 =>
   If r (J1 true v1)
    (NilP s fun a22 =>
    LdS (a22.add 0) v1 fun t24 =>
    J1 (decide (start > ((t24.len : Nat) : Int))) v1)) fun J =>
  If (decide (start < 0)) (J true v)
   (J (decide (pages < 1)) v))
theorem space_Space_run.of_vc {s : Option Addr} {start : Int} {pages : Int} {σ : Hp} {R : Sl → Int → Hp → Prop} (hv : space_Space_run.vc s start pages σ R) : space_Space_run.call s start pages σ R :=
 fnK_sound Tryz.func219 (x := space_Space_run.hint) (args := [.pointer s, .int .i64 start, .int .i64 pages]) (rs := [.one .s, .one (.i .i64)]) (R := R) (Eq.mpr (by kernel_rfl) hv)
def space_Space_set.hint : Hn := .seq (.o 1) (.seq (.o 2) (.block (.loop [(8, .one (.i .i64))] (.seq (.seq (.o 5) (.cond (.leaf) (.leaf))) (.seq (.block (.seq (.reg (.tail 7 [.op, .op, .op, .op, .op, .op, .op] [.op])) (.o 6))) (.o 3))))))
def space_Space_set.vc (s : Option Addr) (start : Int) (pages : Int) (to : Bool) (to1 : Bool) (σ : Hp) (R : Hp → Prop) : Prop :=
 Nw (.cells #[.bool to, .bool to1] 126 (0, 0)) σ fun n7 v =>
 LoopK [(.i .i64)] (fun I => I start v) fun J (p : Int) v1 =>
 Ar .i64 (start + pages) fun t13 =>
 If (decide (p < t13)) (NilP s fun a18 =>
  LdS (a18.add 0) v1 fun t20 =>
  LdB (n7.add 0) v1 fun t22 =>
  LdB (n7.add 1) v1 fun t221 =>
  Ix t20.a t20.len p 2 fun a23 =>
  St1 (a23.add 0) (.bool t22) v1 fun v2 =>
  St1 (a23.add 1) (.bool t221) v2 fun v3 =>
  NilP s fun a25 =>
  LdM (a25.add 1) v3 fun t27 =>
  MDel .i64 .s t27 p v3 fun v4 =>
  Ar .i64 (p + 1) fun p1 =>
  J p1 v4)
  (R v1)
theorem space_Space_set.of_vc {s : Option Addr} {start : Int} {pages : Int} {to : Bool} {to1 : Bool} {σ : Hp} {R : Hp → Prop} (hv : space_Space_set.vc s start pages to to1 σ R) : space_Space_set.call s start pages to to1 σ R :=
 fnK_sound Tryz.func220 (x := space_Space_set.hint) (args := [.pointer s, .int .i64 start, .int .i64 pages, .agg #[.bool to, .bool to1]]) (rs := []) (R := R) (Eq.mpr (by kernel_rfl) hv)
def space_Space_Map.hint : Hn := .seq (.o 1) (.seq (.o 9) (.seq (.block (.seq (.o 3) (.cond (.seq (.o 2) (.leaf)) (.seq (.o 3) (.cond (.seq (.o 1) (.leaf)) (.leaf)))))) (.seq (.o 5) (.seq (.o 1) (.leaf)))))
def space_Space_Map.vc (s : Option Addr) (start : Int) (pages : Int) (σ : Hp) (R : Int → Hp → Prop) : Prop :=
 space_Space_run.call s start pages σ fun t13 t131 v =>
 If (t131 != 0) (R t131 v)
  (slices_ContainsFunc_space_page_space_page.call t13 ⟨279, #[], #[]⟩ v fun t22 v1 =>
  If t22 (R 5 v1)
   (LdB ((Addr.mk 0 0 none).add 0) v1 fun t26 =>
   LdB ((Addr.mk 0 0 none).add 1) v1 fun t261 =>
   space_Space_set.call s start pages t26 t261 v1 fun v2 =>
   R 0 v2))
theorem space_Space_Map.of_vc {s : Option Addr} {start : Int} {pages : Int} {σ : Hp} {R : Int → Hp → Prop} (hv : space_Space_Map.vc s start pages σ R) : space_Space_Map.call s start pages σ R :=
 fnK_sound Tryz.func226 (x := space_Space_Map.hint) (args := [.pointer s, .int .i64 start, .int .i64 pages]) (rs := [.one (.i .i64)]) (R := R) (Eq.mpr (by kernel_rfl) hv)
def space_Space_Map_L1.hint : Hn := .seq (.o 2) (.seq (.o 4) (.leaf))
def space_Space_Map_L1.vc (p : Bool) (p1 : Bool) (σ : Hp) (R : Bool → Hp → Prop) : Prop :=
 Nw (.cells #[.bool p, .bool p1] 126 (0, 0)) σ fun n1 v =>
 LdB (n1.add 0) v fun t3 =>
 LdB (n1.add 1) v fun t31 =>
 LdB ((Addr.mk 1 0 none).add 0) v fun t4 =>
 LdB ((Addr.mk 1 0 none).add 1) v fun t41 =>
 R (!((t3 == t4) && ((t31 == t41) && true))) v
theorem space_Space_Map_L1.of_vc {p : Bool} {p1 : Bool} {σ : Hp} {R : Bool → Hp → Prop} (hv : space_Space_Map_L1.vc p p1 σ R) : space_Space_Map_L1.call p p1 σ R :=
 fnK_sound Tryz.func279 (x := space_Space_Map_L1.hint) (args := [.agg #[.bool p, .bool p1]]) (rs := [.one .b]) (R := R) (Eq.mpr (by kernel_rfl) hv)
end Go.Proofs

-- SpcA
namespace Go.Ar
open Go Go.Vc Go.Proofs
open Go.Bu (runOk)
set_option linter.unusedSimpArgs false
set_option linter.unusedVariables false

variable {σ : Hp} {F : Rg} {p q r : Nat} {sp : Sp}

/-! ## The package's variables -/
structure Gl (σ : Hp) : Prop where
  c0 : cell σ ⟨0, 0, none⟩ = some (.bool true)
  c1 : cell σ ⟨0, 1, none⟩ = some (.bool false)
  u0 : cell σ ⟨1, 0, none⟩ = some (.bool false)
  u1 : cell σ ⟨1, 1, none⟩ = some (.bool false)
structure Gd (σ : Hp) : Prop where
  d0 : cell σ ⟨2, 0, none⟩ = some (.bool true)
  d1 : cell σ ⟨2, 1, none⟩ = some (.bool true)
/-- The region has none of them. -/
def Off (F : Rg) : Prop := ∀ b, F b → b ≠ 0 ∧ b ≠ 1
theorem cell_lt' {h : Hp} {b o : Nat} {v : Value} (hc : cell h ⟨b, o, none⟩ = some v) : b < h.size := (cell_lt hc).1
theorem Gl.keep {σ' : Hp} (g : Gl σ) (e : Ext F σ σ') (hF : Off F) : Gl σ' := by
  have n1 : ¬ F 0 := fun h => (hF _ h).1 rfl
  have n2 : ¬ F 1 := fun h => (hF _ h).2 rfl
  exact ⟨(cell_ext e (cell_lt' g.c0) n1).trans g.c0, (cell_ext e (cell_lt' g.c1) n1).trans g.c1, (cell_ext e (cell_lt' g.u0) n2).trans g.u0, (cell_ext e (cell_lt' g.u1) n2).trans g.u1⟩
theorem Gd.keep {σ' : Hp} (g : Gd σ) (e : Ext F σ σ') (hF : ¬ F 2) : Gd σ' := ⟨(cell_ext e (cell_lt' g.d0) hF).trans g.d0, (cell_ext e (cell_lt' g.d1) hF).trans g.d1⟩
theorem Gd.keep0 {σ' : Hp} (g : Gd σ) (e : Ext0 σ σ') : Gd σ' := g.keep e id
theorem Gl.keep0 {σ' : Hp} (g : Gl σ) (e : Ext0 σ σ') : Gl σ' := g.keep e fun _ h => h.elim
theorem Off.grow (hF : Off F) (g : Gl σ) : Off (Grow F σ) := fun b hb => by
  rcases hb with h | h
  · exact hF b h
  · have h1 := cell_lt' g.c0; have h2 := cell_lt' g.u0
    exact ⟨by omega, by omega⟩
theorem Off.sub {G : Rg} (hF : Off F) (h : ∀ b, G b → F b) : Off G := fun b hb => hF b (h b hb)

/-! ## Pages in memory -/
def pgC : Nat → Bool × Bool
  | 0 => (false, false)
  | 1 => (true, false)
  | _ => (true, true)
def pgV (st : List Nat) : List Value := st.flatMap fun x => [.bool (pgC x).1, .bool (pgC x).2]
theorem pgV_len (l : List Nat) : (pgV l).length = 2 * l.length := by
  induction l with
  | nil => rfl
  | cons x l ih => simp only [pgV, List.flatMap_cons, List.length_append, List.length_cons, List.length_nil] at *; omega
theorem pgV_get {l : List Nat} {i x : Nat} (h : l[i]? = some x) : (pgV l)[2 * i]? = some (.bool (pgC x).1) ∧ (pgV l)[2 * i + 1]? = some (.bool (pgC x).2) := by
  induction l generalizing i with
  | nil => simp at h
  | cons y l ih =>
    have e : pgV (y :: l) = [.bool (pgC y).1, .bool (pgC y).2] ++ pgV l := by simp [pgV]
    rw [e]
    cases i with
    | zero => simp at h; subst h; simp
    | succ i =>
      have := ih (i := i) (by simpa using h)
      rw [show 2 * (i + 1) = 2 * i + 2 by omega]
      simpa using this
theorem pgV_set {l : List Nat} {i v : Nat} (h : i < l.length) (rest : List Value) : ((pgV l ++ rest).set (2 * i) (.bool (pgC v).1)).set (2 * i + 1) (.bool (pgC v).2) = pgV (l.set i v) ++ rest := by
  induction l generalizing i with
  | nil => simp at h
  | cons y l ih =>
    have e : ∀ z m, pgV (z :: m) = .bool (pgC z).1 :: .bool (pgC z).2 :: pgV m := fun z m => by simp [pgV]
    cases i with
    | zero => simp [e]
    | succ i =>
      have := ih (i := i) (by simpa using h)
      rw [List.set_cons_succ, e, e, show 2 * (i + 1) = 2 * i + 1 + 1 by omega]
      simp only [List.cons_append, List.set_cons_succ]
      rw [this]
theorem pgC_eq {x y : Nat} (hx : x ≤ 2) (hy : y ≤ 2) : (((pgC x).1 == (pgC y).1) && (((pgC x).2 == (pgC y).2) && true)) = (x == y) := by
  match x, y, hx, hy with
  | 0, 0, _, _ => rfl
  | 1, 1, _, _ => rfl
  | 2, 2, _, _ => rfl
  | 0, 1, _, _ => rfl
  | 0, 2, _, _ => rfl
  | 1, 0, _, _ => rfl
  | 1, 2, _, _ => rfl
  | 2, 0, _, _ => rfl
  | 2, 1, _, _ => rfl

/-! ## Maps, asked -/
theorem mget_cons {α : Type} (x : Int × α) (l : List (Int × α)) (k : Int) : mget (x :: l) k = if x.1 = k then some x.2 else mget l k := by
  unfold mget
  rw [List.find?_cons]
  by_cases h : x.1 = k
  · simp [h]
  · have : (x.1 == k) = false := by simpa using h
    rw [this, if_neg h]
theorem mget_mdel {α : Type} (l : List (Int × α)) (n k : Int) : mget (mdel l n) k = if k = n then none else mget l k := by
  unfold mdel
  induction l with
  | nil => simp [mget]
  | cons x l ih =>
    rw [List.filter_cons, mget_cons]
    by_cases hx : x.1 = n
    · have : (!(x.1 == n)) = false := by simp [hx]
      rw [this]
      simp only [Bool.false_eq_true, if_false, ih]
      by_cases hk : k = n
      · simp [hk]
      · have : ¬ x.1 = k := fun e => hk (e.symm.trans hx)
        simp [hk, this]
    · have : (!(x.1 == n)) = true := by simpa using hx
      rw [this, if_pos rfl, mget_cons, ih]
      by_cases hk : k = n
      · subst hk; simp [hx]
      · simp [hk]
/-! ## The space -/
/-- The words of a page. -/
def WdH (σ : Hp) (s : Sl) (b : Nat) (f : Nat → Int) : Prop := s.a = some ⟨b, 0, none⟩ ∧ s.len = 32 ∧ 32 ≤ s.cap ∧ ∃ cs, Blk σ b cs ∧ 32 ≤ cs.length ∧ ∀ j, j < 32 → cs[j]? = some (.int .i64 (f j))

structure SpH2 (σ : Hp) (F : Rg) (p q r : Nat) (l : List (Int × Sl)) (B : Nat → Nat) (sp : Sp) : Prop where
  hd : ∃ cap, sp.st.length ≤ cap ∧ Blk σ p [.slice (some ⟨q, 0, none⟩) sp.st.length cap, .map (some r), .int .i64 (sp.pk : Int)]
  row : ∃ rest, Blk σ q (pgV sp.st ++ rest)
  map : MapL σ r .i64 .s l
  keys : ∀ x : Int, (mget l x).isSome = true ↔ ∃ k : Nat, x = k ∧ sp.st[k]? = some 2
  wd : ∀ (k : Nat) s, mget l (k : Int) = some s → WdH σ s (B k) fun j => sp.wd (32 * k + j)
  inj : ∀ k k' : Nat, sp.st[k]? = some 2 → sp.st[k']? = some 2 → B k = B k' → k = k'
  out : ∀ k : Nat, sp.st[k]? = some 2 → F (B k) ∧ B k ≠ p ∧ B k ≠ q ∧ B k ≠ r
  fs : F p ∧ F q ∧ F r ∧ p ≠ q ∧ p ≠ r ∧ q ≠ r
  zero : ∀ w : Nat, sp.st[w / 32]? ≠ some 2 → sp.wd w = 0
  n1 : 1 ≤ sp.st.length
  n2 : sp.st.length ≤ 1024
  le2 : ∀ x ∈ sp.st, x ≤ 2
  pk : sp.pk ≤ 1024
def SpH3 (σ : Hp) (F : Rg) (p : Nat) (sp : Sp) : Prop := ∃ q r l B, SpH2 σ F p q r l B sp

theorem SpH2.entry {l : List (Int × Sl)} {B : Nat → Nat} (h : SpH2 σ F p q r l B sp) {k : Nat} (hk : sp.st[k]? = some 2) : ∃ s, mget l (k : Int) = some s ∧ WdH σ s (B k) fun j => sp.wd (32 * k + j) := by
  have := (h.keys (k : Int)).2 ⟨k, rfl, hk⟩
  obtain ⟨s, hs⟩ := Option.isSome_iff_exists.1 this
  exact ⟨s, hs, h.wd k s hs⟩
theorem SpH2.dirty {l : List (Int × Sl)} {B : Nat → Nat} (h : SpH2 σ F p q r l B sp) {k : Nat} {s : Sl} (hs : mget l (k : Int) = some s) : sp.st[k]? = some 2 := by
  obtain ⟨k', e, hk⟩ := (h.keys (k : Int)).1 (by rw [hs]; rfl)
  have : k = k' := by omega
  subst this; exact hk

theorem SpH3.loc : Lcl fun σ F => SpH3 σ F p sp := fun σ σ' F G ⟨q, r, l, B, h⟩ hz hs => by
  have kb : ∀ {b : Nat} {cs : List Value}, Blk σ b cs → F b → Blk σ' b cs ∧ G b := by
    rintro b cs ⟨e, he⟩ hf
    have := hs b (Blk.lt ⟨e, he⟩) hf
    exact ⟨⟨e, this.2.trans he⟩, this.1⟩
  obtain ⟨c, hc, hd⟩ := h.hd
  obtain ⟨rest, hrow⟩ := h.row
  obtain ⟨es, clk, hr, hm⟩ := h.map
  have hrr := hs r (Array.getElem?_eq_some_iff.1 hr).1 h.fs.2.2.1
  refine ⟨q, r, l, B, ⟨c, hc, (kb hd h.fs.1).1⟩, ⟨rest, (kb hrow h.fs.2.1).1⟩, ⟨es, clk, hrr.2.trans hr, hm⟩, h.keys, fun k s hk => ?_, h.inj, fun k hk => ?_, ⟨(kb hd h.fs.1).2, (kb hrow h.fs.2.1).2, hrr.1, h.fs.2.2.2⟩, h.zero, h.n1, h.n2, h.le2, h.pk⟩
  · obtain ⟨w1, w2, w3, cs, w4, w5⟩ := h.wd k s hk
    exact ⟨w1, w2, w3, cs, (kb w4 (h.out k (h.dirty hk)).1).1, w5⟩
  · obtain ⟨s, hsk, w1, w2, w3, cs, w4, w5⟩ := h.entry hk
    exact ⟨(kb w4 (h.out k hk).1).2, (h.out k hk).2⟩
theorem SpH3.keep0 {σ' : Hp} (h : SpH3 σ F p sp) (e : Ext0 σ σ') : SpH3 σ' F p sp := Lcl.keep0 SpH3.loc h e

variable {l : List (Int × Sl)} {B : Nat → Nat}
theorem SpH2.rS (h : SpH2 σ F p q r l B sp) {K : Sl → Prop} (hK : ∀ cap, sp.st.length ≤ cap → K ⟨some ⟨q, 0, none⟩, sp.st.length, cap⟩) : LdS (Addr.add ⟨p, 0, none⟩ 0) σ K := by
  obtain ⟨c, hc, hd⟩ := h.hd
  exact hd.rS rfl (hK c hc)
theorem SpH2.rM (h : SpH2 σ F p q r l B sp) {K : Option Nat → Prop} (hK : K (some r)) : LdM (Addr.add ⟨p, 0, none⟩ 1) σ K := by
  obtain ⟨c, hc, hd⟩ := h.hd
  exact hd.rM rfl hK
/-- A page's two bits. -/
theorem SpH2.rPg (h : SpH2 σ F p q r l B sp) {i x : Nat} (hx : sp.st[i]? = some x) {K : Bool → Bool → Prop} (hK : K (pgC x).1 (pgC x).2) : LdB (Addr.add ⟨q, 2 * i, none⟩ 0) σ fun a => LdB (Addr.add ⟨q, 2 * i, none⟩ 1) σ fun b => K a b := by
  obtain ⟨rest, hrow⟩ := h.row
  have hi := (List.getElem?_eq_some_iff.1 hx).1
  have hg := pgV_get hx
  refine hrow.rB (x := (pgC x).1) ?_ (hrow.rB (x := (pgC x).2) ?_ hK)
  · rw [Nat.add_zero, List.getElem?_append_left (by rw [pgV_len]; omega)]; exact hg.1
  · rw [List.getElem?_append_left (by rw [pgV_len]; omega)]; exact hg.2
theorem smade_ok' (h : SpH3 σ F p sp) {R : Bool → Hp → Prop} (hR : R true σ) : space_Space_made.call (some ⟨p, 0, none⟩) σ R := by
  refine space_Space_made.of_vc ?_
  unfold space_Space_made.vc
  obtain ⟨q, r, l, B, h⟩ := h
  have := h.n1
  refine JnB.intro (ifT rfl (nilP (h.rS fun cap _ => ?_)))
  rw [decide_eq_true (by simp only; omega)]
  exact hR
theorem Pages_ok (h : SpH3 σ F p sp) {R : Int → Hp → Prop} (hR : R (sp.st.length : Int) σ) : space_Space_Pages.call (some ⟨p, 0, none⟩) σ R := by
  refine space_Space_Pages.of_vc ?_
  unfold space_Space_Pages.vc
  have h' := h
  obtain ⟨q, r, l, B, h⟩ := h
  exact smade_ok' h' (ifF rfl (nilP (h.rS fun cap _ => hR)))

end Go.Ar

-- SpcB
namespace Go.Ar
open Go Go.Vc Go.Proofs
open Go.Bu (runOk)
set_option linter.unusedSimpArgs false
set_option linter.unusedVariables false

variable {σ : Hp} {F : Rg} {p q r : Nat} {sp : Sp} {l : List (Int × Sl)} {B : Nat → Nat}

theorem pgV_take (l : List Nat) (n : Nat) : pgV (l.take n) = (pgV l).take (2 * n) := by
  induction l generalizing n with
  | nil => simp [pgV]
  | cons y l ih =>
    have e : ∀ z m, pgV (z :: m) = .bool (pgC z).1 :: .bool (pgC z).2 :: pgV m := fun z m => by simp [pgV]
    cases n with
    | zero => simp [pgV]
    | succ n =>
      rw [List.take_succ_cons, e, e, ih, show 2 * (n + 1) = 2 * n + 1 + 1 by omega]
      simp
theorem pgV_drop (l : List Nat) (n : Nat) : pgV (l.drop n) = (pgV l).drop (2 * n) := by
  induction l generalizing n with
  | nil => simp [pgV]
  | cons y l ih =>
    have e : ∀ z m, pgV (z :: m) = .bool (pgC z).1 :: .bool (pgC z).2 :: pgV m := fun z m => by simp [pgV]
    cases n with
    | zero => simp [pgV]
    | succ n =>
      rw [List.drop_succ_cons, e, ih, show 2 * (n + 1) = 2 * n + 1 + 1 by omega]
      simp
theorem pgV_rep (n v : Nat) : pgV (List.replicate n v) = (List.replicate n [Value.bool (pgC v).1, .bool (pgC v).2]).flatten := by
  induction n with
  | zero => rfl
  | succ n ih => rw [List.replicate_succ, List.replicate_succ, List.flatten_cons, ← ih]; simp [pgV]

/-! ## The library on pages -/
theorem _root_.Go.Vc.SlR.rPg {s : Sl} {l : List Nat} (h : SlR s 2 (pgV l) σ F) {i x : Nat} (hx : l[i]? = some x) {K : Bool → Bool → Prop} (hK : K (pgC x).1 (pgC x).2) :
    Ix s.a s.len (i : Int) 2 fun a => LdB (a.add 0) σ fun u => LdB (a.add 1) σ fun w => K u w := by
  have hi := (List.getElem?_eq_some_iff.1 hx).1
  have hg := pgV_get hx
  obtain ⟨b, o, ha, hc⟩ := h.cell hg.1
  obtain ⟨b1, o1, ha1, hc1⟩ := h.cell hg.2
  rw [ha] at ha1; cases ha1
  have hl := h.1
  rw [pgV_len] at hl
  rw [ha]
  refine ix (by omega) (by omega) ?_
  rw [add_lit]
  refine ldB ?_ (ldB ?_ hK) <;> rw [add_lit]
  · rw [show o + (i : Int).toNat * 2 + 0 = o + 2 * i by omega]; exact hc
  · rw [show o + (i : Int).toNat * 2 + 1 = o + (2 * i + 1) by omega]; exact hc1
theorem _root_.Go.Vc.SlR.lenP {s : Sl} {l : List Nat} (h : SlR s 2 (pgV l) σ F) : s.len = l.length := by
  have := h.1; rw [pgV_len] at this; omega
theorem pIndex_ok {s : Sl} {xs : List Nat} (h : SlR s 2 (pgV xs) σ F) (hl : xs.length ≤ 1000000) (h2 : ∀ x ∈ xs, x ≤ 2) {v : Nat} (hv : v ≤ 2) {R : Int → Hp → Prop}
    (hR : ∀ (t : Int) σ', Ext0 σ σ' → decide (t ≥ 0) = xs.contains v → R t σ') : slices_Index_space_page_space_page.call s (pgC v).1 (pgC v).2 σ R := by
  refine slices_Index_space_page_space_page.of_vc ?_
  unfold slices_Index_space_page_space_page.vc
  have hlen := h.lenP
  refine nw (cs := [.bool (pgC v).1, .bool (pgC v).2]) fun w hz e hb => ?_
  have h := (SlR.loc _ _ _).keep0 h e
  refine loop1 (a := .i .i64) (fun (t : Int) h' => ∃ i : Nat, t = (i : Int) ∧ i ≤ xs.length ∧ h' = w ∧ ∀ j, j < i → xs[j]? ≠ some v) (fun t _ => xs.length - t.toNat) ⟨0, rfl, by omega, rfl, fun j hj => by omega⟩ ?_
  rintro t h' ⟨i, rfl, hi, rfl, hno⟩
  refine ifD (fun hlt => ?_) fun hge => ?_
  · have hi' : i < xs.length := by omega
    have hx : xs[i]? = some xs[i] := List.getElem?_eq_getElem hi'
    refine hb.rB rfl (hb.rB rfl (h.rPg hx ?_))
    rw [pgC_eq hv (h2 _ (List.getElem_mem hi'))]
    refine iff_ (fun he => ?_) fun he => ?_
    · have : v = xs[i] := by simpa using he
      refine hR _ _ e ?_
      have hc : xs.contains v = true := by rw [this]; simp
      rw [hc, decide_eq_true (by omega)]
    · have he' : ¬ v = xs[i] := by simpa using he
      refine arN (m := i + 1) (by omega) (by omega) ⟨⟨i + 1, rfl, by omega, rfl, fun j hj => ?_⟩, by omega⟩
      by_cases e : j = i
      · subst e; rw [hx]; intro e2; cases e2; exact he' rfl
      · exact hno j (by omega)
  · refine hR _ _ e ?_
    have : xs.contains v = false := by
      simp only [List.contains_eq_mem, decide_eq_false_iff_not]
      intro hm
      obtain ⟨j, hj⟩ := List.getElem?_of_mem hm
      have := (List.getElem?_eq_some_iff.1 hj).1
      exact hno j (by omega) hj
    rw [this]; rfl
theorem pContains_ok {s : Sl} {xs : List Nat} (h : SlR s 2 (pgV xs) σ F) (hl : xs.length ≤ 1000000) (h2 : ∀ x ∈ xs, x ≤ 2) {v : Nat} (hv : v ≤ 2) {R : Bool → Hp → Prop}
    (hR : ∀ σ', Ext0 σ σ' → R (xs.contains v) σ') : slices_Contains_space_page_space_page.call s (pgC v).1 (pgC v).2 σ R := by
  refine slices_Contains_space_page_space_page.of_vc ?_
  unfold slices_Contains_space_page_space_page.vc
  refine nw (cs := [.bool (pgC v).1, .bool (pgC v).2]) fun w hz e hb => hb.rB rfl (hb.rB rfl ?_)
  refine pIndex_ok ((SlR.loc _ _ _).keep0 h e) hl h2 hv fun t σ' e' ht => ?_
  rw [ht]; exact hR σ' (Ext.trans e e')
theorem mapped1_ok (g : Gl σ) {x : Nat} (hx : x ≤ 2) {R : Bool → Hp → Prop} (hR : ∀ σ', Ext0 σ σ' → R (x != 0) σ') : space_Space_Map_L1.call (pgC x).1 (pgC x).2 σ R := by
  refine space_Space_Map_L1.of_vc ?_
  unfold space_Space_Map_L1.vc
  refine nw (cs := [.bool (pgC x).1, .bool (pgC x).2]) fun v hz e hb => hb.rB rfl (hb.rB rfl ?_)
  have g := g.keep0 e
  refine ldB (by rw [← g.u0]; rfl) (ldB (by rw [← g.u1]; rfl) ?_)
  have e0 : (((pgC x).1 == false) && (((pgC x).2 == false) && true)) = (x == 0) := pgC_eq hx (y := 0) (by omega)
  rw [e0]
  exact hR v e
theorem pAny_ok {s : Sl} {xs : List Nat} (h : SlR s 2 (pgV xs) σ F) (g : Gl σ) (hl : xs.length ≤ 1000000) (h2 : ∀ x ∈ xs, x ≤ 2) {R : Bool → Hp → Prop}
    (hR : ∀ σ', Ext0 σ σ' → R (xs.any (· != 0)) σ') : slices_ContainsFunc_space_page_space_page.call s ⟨279, #[], #[]⟩ σ R := by
  refine slices_ContainsFunc_space_page_space_page.of_vc ?_
  unfold slices_ContainsFunc_space_page_space_page.vc
  refine slices_IndexFunc_space_page_space_page.of_vc ?_
  unfold slices_IndexFunc_space_page_space_page.vc
  have hlen := h.lenP
  refine loop1 (a := .i .i64) (fun (t : Int) h' => ∃ i : Nat, t = (i : Int) ∧ i ≤ xs.length ∧ Ext0 σ h' ∧ ∀ (j x : Nat), j < i → xs[j]? = some x → x = 0) (fun t _ => xs.length - t.toNat) ⟨0, rfl, by omega, Ext.refl _ _, fun j x hj => by omega⟩ ?_
  rintro t w ⟨i, rfl, hi, e, hno⟩
  refine ifD (fun hlt => ?_) fun hge => ?_
  · have hi' : i < xs.length := by omega
    have hx : xs[i]? = some xs[i] := List.getElem?_eq_getElem hi'
    refine ((SlR.loc _ _ _).keep0 h e).rPg hx ?_
    refine callF (all := #[.agg #[.bool (pgC xs[i]).1, .bool (pgC xs[i]).2]]) (by kernel_rfl) (by simp) ?_
    refine mapped1_ok (g.keep0 e) (h2 _ (List.getElem_mem hi')) fun w' e' => ?_
    refine iff_ (fun he => ?_) fun he => ?_
    · have : xs.any (· != 0) = true := List.any_eq_true.2 ⟨_, List.getElem_mem hi', he⟩
      have := hR w' (Ext.trans e e')
      rw [‹xs.any (· != 0) = true›] at this
      show R (decide ((i : Int) ≥ 0)) _
      rw [decide_eq_true (by omega)]; exact this
    · have he' : xs[i] = 0 := by simpa using he
      refine arN (m := i + 1) (by omega) (by omega) ⟨⟨i + 1, rfl, by omega, Ext.trans e e', fun j x hj hjx => ?_⟩, by omega⟩
      by_cases e : j = i
      · subst e; rw [hx] at hjx; cases hjx; exact he'
      · exact hno j x (by omega) hjx
  · have : xs.any (· != 0) = false := by
      rw [List.any_eq_false]
      intro x hm
      obtain ⟨j, hj⟩ := List.getElem?_of_mem hm
      have := (List.getElem?_eq_some_iff.1 hj).1
      simpa using hno j x (by omega) hj
    have := hR w e
    rw [‹xs.any (· != 0) = false›] at this
    exact this

/-! ## A part of the pages -/
theorem SpH2.part (h : SpH2 σ F p q r l B sp) {x y c : Nat} (hl : x + y ≤ sp.st.length) : SlR ⟨some ⟨q, 2 * x, none⟩, y, c⟩ 2 (pgV ((sp.st.drop x).take y)) σ F := by
  obtain ⟨rest, hrow⟩ := h.row
  have hlen : (pgV ((sp.st.drop x).take y)).length = y * 2 := by rw [pgV_len, List.length_take, List.length_drop]; omega
  refine ⟨hlen, .inr ⟨q, 2 * x, _, h.fs.2.1, rfl, hrow, fun j hj => ?_⟩⟩
  rw [hlen] at hj
  rw [List.getElem?_append_left (by rw [pgV_len]; omega), pgV_take, pgV_drop, List.getElem?_take, if_pos (by omega), List.getElem?_drop]
theorem run_ok (h : SpH3 σ F p sp) (a m : Int) {R : Sl → Int → Hp → Prop} (h0 : runOk sp.st.length a m = false → R ⟨none, 0, 0⟩ 1 σ)
    (h1 : ∀ (x y : Nat) s, a = x → m = y → 1 ≤ y → x + y ≤ sp.st.length → SlR s 2 (pgV ((sp.st.drop x).take y)) σ F → R s 0 σ) : space_Space_run.call (some ⟨p, 0, none⟩) a m σ R := by
  refine space_Space_run.of_vc ?_
  unfold space_Space_run.vc
  have h' := h
  obtain ⟨q, r, l, B, h⟩ := h
  have n2 := h.n2
  have bad : ¬ (0 ≤ a ∧ 1 ≤ m ∧ m ≤ sp.st.length - a) → R ⟨none, 0, 0⟩ 1 σ := fun hn => h0 (by simp only [runOk, ← Bool.decide_and]; exact decide_eq_false hn)
  refine smade_ok' h' (ifF rfl (JnB.intro (ifD (fun c1 => JnB.intro (ifT rfl (JnB.intro (ifT rfl (ifT rfl (bad (by omega))))))) fun c1 => ?_)))
  refine JnB.intro (ifD (fun c2 => JnB.intro (ifT rfl (ifT rfl (bad (by omega))))) fun c2 => nilP (h.rS fun cap hc => ?_))
  simp only
  refine JnB.intro (ifD (fun c3 => ifT rfl (bad (by omega))) fun c3 => ?_)
  refine nilP (h.rS fun cap hc => ar (by simp only; omega) (by simp only; omega) ?_)
  simp only
  refine ifD (fun c4 => bad (by omega)) fun c4 => ?_
  obtain ⟨x, rfl⟩ := Int.eq_ofNat_of_zero_le (show 0 ≤ a by omega)
  obtain ⟨y, rfl⟩ := Int.eq_ofNat_of_zero_le (show 0 ≤ m by omega)
  refine nilP (h.rS fun cap hc => arN (m := x + y) (by omega) (by omega) ?_)
  refine slc (by omega) (by simp only; omega) (Nat.le_refl _) ?_
  simp only
  rw [if_neg (by omega)]
  refine h1 x y _ rfl rfl (by omega) (by omega) ?_
  have := h.part (x := x) (y := y) (c := cap - x) (by omega)
  have e : (Option.map (fun (u : Addr) => u.add (x * 2)) (some (⟨q, 0, none⟩ : Addr))) = some ⟨q, 2 * x, none⟩ := by
    simp only [Option.map_some, add_lit]; congr 2; omega
  rw [e, Nat.add_sub_cancel_left]
  exact this

/-! ## One page is set -/
def Sp.set1 (s : Sp) (k v : Nat) : Sp := { s with st := s.st.set k v, wd := fun w => if k * 32 ≤ w ∧ w < (k + 1) * 32 then 0 else s.wd w }
theorem set_le2 {st : List Nat} (h : ∀ x ∈ st, x ≤ 2) {k v : Nat} (hv : v ≤ 2) : ∀ x ∈ st.set k v, x ≤ 2 := by
  intro x hx
  rcases List.mem_or_eq_of_mem_set hx with h1 | h1
  · exact h x h1
  · omega
theorem SpH2.set1 (h : SpH2 σ F p q r l B sp) {k v : Nat} (hk : k < sp.st.length) (hv : v ≤ 1) {σ' : Hp} (e : Ext (fun b => b = q ∨ b = r) σ σ') {rest : List Value}
    (hb : Blk σ' q (pgV (sp.st.set k v) ++ rest)) (hm : MapL σ' r .i64 .s (mdel l (k : Int))) : SpH2 σ' F p q r (mdel l (k : Int)) B (sp.set1 k v) := by
  have g2 : ∀ j : Nat, (sp.st.set k v)[j]? = some 2 ↔ j ≠ k ∧ sp.st[j]? = some 2 := fun j => by
    rw [List.getElem?_set]
    by_cases hjk : k = j
    · subst hjk
      rw [if_pos rfl, if_pos hk]
      constructor
      · intro h; have : v = 2 := by simpa using h
        omega
      · intro h; exact absurd rfl h.1
    · rw [if_neg hjk]; exact ⟨fun h => ⟨fun e => hjk e.symm, h⟩, fun h => h.2⟩
  obtain ⟨c, hc, hd⟩ := h.hd
  have np : ¬ (p = q ∨ p = r) := by have := h.fs; omega
  refine ⟨⟨c, by simpa [Sp.set1] using hc, by simpa [Sp.set1] using e.blk hd np⟩, ⟨rest, hb⟩, hm, fun x => ?_, fun j s hs => ?_, fun j j' h1 h2 => ?_, fun j hj => ?_, h.fs, fun w hw => ?_, by simpa [Sp.set1] using h.n1, by simpa [Sp.set1] using h.n2, set_le2 h.le2 (by omega), h.pk⟩
  · rw [mget_mdel]
    by_cases hx : x = (k : Int)
    · rw [if_pos hx]
      constructor
      · intro h; cases h
      · rintro ⟨j, rfl, hj⟩
        have := (g2 j).1 hj
        omega
    · rw [if_neg hx, h.keys]
      constructor
      · rintro ⟨j, rfl, hj⟩; exact ⟨j, rfl, (g2 j).2 ⟨by omega, hj⟩⟩
      · rintro ⟨j, rfl, hj⟩; exact ⟨j, rfl, ((g2 j).1 hj).2⟩
  · rw [mget_mdel] at hs
    by_cases hx : (j : Int) = (k : Int)
    · rw [if_pos hx] at hs; cases hs
    · rw [if_neg hx] at hs
      obtain ⟨w1, w2, w3, cs, w4, w5, w6⟩ := h.wd j s hs
      have ho := h.out j (h.dirty hs)
      refine ⟨w1, w2, w3, cs, e.blk w4 (by omega), w5, fun i hi => ?_⟩
      rw [w6 i hi]
      simp only [Sp.set1]
      rw [if_neg (by omega)]
  · exact h.inj j j' ((g2 j).1 h1).2 ((g2 j').1 h2).2
  · exact h.out j ((g2 j).1 hj).2
  · simp only [Sp.set1] at hw ⊢
    by_cases hin : k * 32 ≤ w ∧ w < (k + 1) * 32
    · rw [if_pos hin]
    · rw [if_neg hin]
      refine h.zero w fun h2 => hw ((g2 _).2 ⟨by omega, h2⟩)
theorem Sp.set_zero (s : Sp) (a v : Nat) : s.set a 0 v = s := by
  have h1 : setR s.st a (a + 0) v = s.st := by
    apply List.ext_getElem?
    intro i
    rw [setR_get]
    cases s.st[i]? with
    | none => rfl
    | some x => simp only [Option.map_some]; rw [if_neg (by omega)]
  have h2 : (fun w => if a * 32 ≤ w ∧ w < (a + 0) * 32 then 0 else s.wd w) = s.wd := by
    funext w; rw [if_neg (by omega)]
  simp only [Sp.set, h1, h2]
theorem Sp.set_succ (s : Sp) (a m v : Nat) (h : a + m < s.st.length) : (s.set a m v).set1 (a + m) v = s.set a (m + 1) v := by
  have h1 : (setR s.st a (a + m) v).set (a + m) v = setR s.st a (a + (m + 1)) v := by
    apply List.ext_getElem?
    intro i
    rw [List.getElem?_set, setR_get, setR_get, setR_len]
    by_cases hi : a + m = i
    · subst hi
      rw [if_pos rfl, if_pos h, List.getElem?_eq_getElem h, Option.map_some, if_pos (by omega)]
    · rw [if_neg hi]
      cases s.st[i]? with
      | none => rfl
      | some x =>
        simp only [Option.map_some]
        by_cases hin : a ≤ i ∧ i < a + m
        · rw [if_pos hin, if_pos (by omega)]
        · rw [if_neg hin, if_neg (by omega)]
  have h2 : (fun w => if (a + m) * 32 ≤ w ∧ w < (a + m + 1) * 32 then 0 else (if a * 32 ≤ w ∧ w < (a + m) * 32 then 0 else s.wd w)) = fun w => if a * 32 ≤ w ∧ w < (a + (m + 1)) * 32 then 0 else s.wd w := by
    funext w
    by_cases h1 : (a + m) * 32 ≤ w ∧ w < (a + m + 1) * 32
    · rw [if_pos h1, if_pos (by omega)]
    · rw [if_neg h1]
      by_cases h2 : a * 32 ≤ w ∧ w < (a + m) * 32
      · rw [if_pos h2, if_pos (by omega)]
      · rw [if_neg h2, if_neg (by omega)]
  simp only [Sp.set, Sp.set1, h1, h2]

theorem sset_ok (h : SpH3 σ F p sp) {x y v : Nat} (hl : x + y ≤ sp.st.length) (hv : v ≤ 1) {R : Hp → Prop} (hR : ∀ σ', Ext F σ σ' → SpH3 σ' F p (sp.set x y v) → R σ') :
    space_Space_set.call (some ⟨p, 0, none⟩) x y (pgC v).1 (pgC v).2 σ R := by
  refine space_Space_set.of_vc ?_
  unfold space_Space_set.vc
  have hn2 : sp.st.length ≤ 1024 := by obtain ⟨q, r, l, B, h⟩ := h; exact h.n2
  have hcut : SpH3 σ (Cut F σ) p sp := Lcl.cut SpH3.loc h
  refine nw (cs := [.bool (pgC v).1, .bool (pgC v).2]) fun u hz e hb => ?_
  have hc := hcut.keep0 e
  refine loop1 (a := .i .i64) (fun (t : Int) w => ∃ i : Nat, t = ((x + i : Nat) : Int) ∧ i ≤ y ∧ Ext (Cut F σ) u w ∧ Blk w σ.size [.bool (pgC v).1, .bool (pgC v).2] ∧ SpH3 w (Cut F σ) p (sp.set x i v)) (fun t _ => x + y - t.toNat)
    ⟨0, rfl, by omega, Ext.refl _ _, hb, by rw [Sp.set_zero]; exact hc⟩ ?_
  rintro t w ⟨i, rfl, hi, ew, hbw, q, r, l, B, hw⟩
  refine arN (m := x + y) (by omega) (by omega) (ifD (fun hlt => ?_) fun hge => ?_)
  · have hlen : (sp.set x i v).st.length = sp.st.length := setR_len _ _ _ _
    refine nilP (hw.rS fun cap hcap => hbw.rB rfl (hbw.rB rfl (ix (by omega) (by simp only; omega) ?_)))
    rw [add_lit, show 0 + ((x + i : Nat) : Int).toNat * 2 = 2 * (x + i) by omega]
    obtain ⟨rest, hrow⟩ := hw.row
    have hk : x + i < (sp.set x i v).st.length := by omega
    refine hrow.s1 (by rw [List.length_append, pgV_len]; omega) fun w1 o1 b1 => b1.s1 (by rw [List.length_set, List.length_append, pgV_len]; omega) fun w2 o2 b2 => ?_
    rw [Nat.add_zero, pgV_set hk] at b2
    have e2 : Ext (· = q) w w2 := o1.ext.trans o2.ext
    obtain ⟨c, hc', hd⟩ := hw.hd
    have hd2 := e2.blk hd hw.fs.2.2.2.1
    refine nilP (hd2.rM rfl ⟨l, e2.mapL hw.map (fun e => hw.fs.2.2.2.2.2 e.symm), fun w3 ho3 _ hm3 => ?_⟩)
    have o3 := ho3 r rfl
    have e3 : Ext (fun b => b = q ∨ b = r) w w3 := (e2.sub fun b hb => .inl hb).trans (o3.ext.sub fun b hb => .inr hb)
    have h3 := hw.set1 hk hv e3 (only_blk o3 b2 hw.fs.2.2.2.2.2) hm3
    rw [Sp.set_succ _ _ _ _ (by omega)] at h3
    have e4 : Ext (Cut F σ) w w3 := e3.sub fun b hb => by
      rcases hb with rfl | rfl
      · exact hw.fs.2.1
      · exact hw.fs.2.2.1
    refine arN (m := x + (i + 1)) (by omega) (by omega) ⟨⟨i + 1, rfl, by omega, ew.trans e4, e4.blk hbw fun hf => by have := hf.2; omega, _, _, _, _, h3⟩, by omega⟩
  · have : i = y := by omega
    subst this
    refine hR w (Ext.cut (e.to.trans ew)) (Lcl.mono SpH3.loc ⟨q, r, l, B, hw⟩ fun b _ hb => hb.1)

theorem Map_ok (h : SpH3 σ F p sp) (g : Gl σ) (hF : Off F) (a m : Int) {R : Int → Hp → Prop} (hR : ∀ σ', Ext F σ σ' → SpH3 σ' F p (mapS sp a m) → R (mapE sp a m) σ') :
    space_Space_Map.call (some ⟨p, 0, none⟩) a m σ R := by
  refine space_Space_Map.of_vc ?_
  unfold space_Space_Map.vc
  have hle : (∀ x ∈ sp.st, x ≤ 2) ∧ sp.st.length ≤ 1024 := by obtain ⟨q, r, l, B, h⟩ := h; exact ⟨h.le2, h.n2⟩
  refine run_ok h a m (fun hk => ?_) fun x y s hx hy h1 h2 hs => ?_
  · have e1 : mapE sp a m = 1 := by unfold mapE; rw [hk]; rfl
    have e2 : mapS sp a m = sp := by unfold mapS; rw [e1]; rfl
    have := hR σ (Ext.refl _ _)
    rw [e1, e2] at this
    exact ifT rfl (this h)
  · subst hx; subst hy
    have hk : runOk sp.st.length (x : Int) (y : Int) = true := by simp only [runOk, Bool.and_eq_true, decide_eq_true_eq]; omega
    refine ifF rfl (pAny_ok hs g (by rw [List.length_take, List.length_drop]; omega) (fun z hz => hle.1 z (List.mem_of_mem_drop (List.mem_of_mem_take hz))) fun σ1 e1 => ?_)
    have em : mapE sp x y = if ((sp.st.drop x).take y).any (· != 0) then 5 else 0 := by unfold mapE; rw [hk]; rfl
    refine iff_ (fun hany => ?_) fun hany => ?_
    · rw [hany] at em
      have e2 : mapS sp x y = sp := by unfold mapS; rw [em]; rfl
      have := hR σ1 (Ext0.to e1)
      rw [em, e2] at this
      exact this (h.keep0 e1)
    · rw [hany] at em
      have e2 : mapS sp x y = sp.set x y 1 := by unfold mapS; rw [em]; rfl
      have g1 := g.keep0 e1
      refine ldB (by rw [← g1.c0]; rfl) (ldB (by rw [← g1.c1]; rfl) ?_)
      refine sset_ok (v := 1) (h.keep0 e1) h2 (by omega) fun σ2 e3 h3 => ?_
      have := hR σ2 (Ext.trans (Ext0.to e1) e3)
      rw [em, e2] at this
      exact this h3

theorem leave_ok (h : SpH3 σ F p sp) (g : Gl σ) (hF : Off F) (a m : Int) {v : Nat} (hv : v ≤ 1) {R : Int → Hp → Prop} (hR : ∀ σ', Ext F σ σ' → SpH3 σ' F p (leaveS sp a m v) → R (leaveE sp a m) σ') :
    space_Space_leave.call (some ⟨p, 0, none⟩) a m (pgC v).1 (pgC v).2 σ R := by
  refine space_Space_leave.of_vc ?_
  unfold space_Space_leave.vc
  have hle : (∀ x ∈ sp.st, x ≤ 2) ∧ sp.st.length ≤ 1024 := by obtain ⟨q, r, l, B, h⟩ := h; exact ⟨h.le2, h.n2⟩
  have hcut : SpH3 σ (Cut F σ) p sp := Lcl.cut SpH3.loc h
  refine nw (cs := [.bool (pgC v).1, .bool (pgC v).2]) fun u hz e hb => ?_
  have hu := hcut.keep0 e
  have back : ∀ w s', SpH3 w (Cut F σ) p s' → SpH3 w F p s' := fun w s' h => Lcl.mono SpH3.loc h fun b _ hb => hb.1
  refine run_ok hu a m (fun hk => ?_) fun x y s hx hy h1 h2 hs => ?_
  · have e1 : leaveE sp a m = 1 := by unfold leaveE; rw [hk]; rfl
    have e2 : leaveS sp a m v = sp := by unfold leaveS; rw [e1]; rfl
    have := hR u (Ext0.to e)
    rw [e1, e2] at this
    exact ifT rfl (this (back _ _ hu))
  · subst hx; subst hy
    have hk : runOk sp.st.length (x : Int) (y : Int) = true := by simp only [runOk, Bool.and_eq_true, decide_eq_true_eq]; omega
    have gu := g.keep0 e
    refine ifF rfl (ldB (by rw [← gu.u0]; rfl) (ldB (by rw [← gu.u1]; rfl) ?_))
    refine pContains_ok (v := 0) hs (by rw [List.length_take, List.length_drop]; omega) (fun z hz => hle.1 z (List.mem_of_mem_drop (List.mem_of_mem_take hz))) (by omega) fun σ1 e1 => ?_
    have em : leaveE sp x y = if ((sp.st.drop x).take y).contains 0 then 7 else 0 := by unfold leaveE; rw [hk]; rfl
    refine iff_ (fun hany => ?_) fun hany => ?_
    · rw [hany] at em
      have e2 : leaveS sp x y v = sp := by unfold leaveS; rw [em]; rfl
      have := hR σ1 (Ext0.to (Ext.trans e e1))
      rw [em, e2] at this
      exact this (back _ _ (hu.keep0 e1))
    · rw [hany] at em
      have e2 : leaveS sp x y v = sp.set x y v := by unfold leaveS; rw [em]; rfl
      have hb1 := Ext.blk e1 hb id
      refine hb1.rB rfl (hb1.rB rfl ?_)
      refine sset_ok (hu.keep0 e1) h2 hv fun σ2 e3 h3 => ?_
      have := hR σ2 (Ext.cut (Ext.trans (Ext0.to (Ext.trans e e1)) e3))
      rw [em, e2] at this
      exact this (back _ _ h3)
theorem Unmap_ok (h : SpH3 σ F p sp) (g : Gl σ) (hF : Off F) (a m : Int) {R : Int → Hp → Prop} (hR : ∀ σ', Ext F σ σ' → SpH3 σ' F p (leaveS sp a m 0) → R (leaveE sp a m) σ') :
    space_Space_Unmap.call (some ⟨p, 0, none⟩) a m σ R := by
  refine space_Space_Unmap.of_vc ?_
  unfold space_Space_Unmap.vc
  exact ldB (n := (pgC 0).1) g.u0 (ldB (n := (pgC 0).2) g.u1 (leave_ok (v := 0) h g hF a m (by omega) hR))
end Go.Ar

-- SpcC
namespace Go.Ar
open Go Go.Vc Go.Proofs
open Go.Bu (runOk)
set_option linter.unusedSimpArgs false
set_option linter.unusedVariables false

variable {σ : Hp} {F : Rg} {p q r : Nat} {sp : Sp} {l : List (Int × Sl)} {B : Nat → Nat}

/-! ## A new one -/
def newSp (n : Nat) : Sp := ⟨List.replicate n 0, fun _ => 0, 0⟩
theorem newSp_H {σ : Hp} {F : Rg} {p q r n c : Nat} (h1 : 1 ≤ n) (h2 : n ≤ 1024) (hc : n ≤ c) (hd : Blk σ p [.slice (some ⟨q, 0, none⟩) n c, .map (some r), .int .i64 0]) (hq : Blk σ q (pgV (List.replicate n 0))) (hr : MapL σ r .i64 .s [])
    (hF : F p ∧ F q ∧ F r) (hne : p ≠ q ∧ p ≠ r ∧ q ≠ r) : SpH2 σ F p q r [] (fun _ => 0) (newSp n) := by
  have no : ∀ k : Nat, (List.replicate n 0)[k]? ≠ some 2 := fun k hk => by
    rw [List.getElem?_replicate] at hk
    split at hk <;> cases hk
  refine ⟨⟨c, by simpa [newSp] using hc, by simpa [newSp] using hd⟩, ⟨[], by simpa [newSp] using hq⟩, hr, fun x => ?_, fun k s hs => (by cases hs), fun k k' h1 => absurd h1 (no k), fun k hk => absurd hk (no k), ⟨hF.1, hF.2.1, hF.2.2, hne⟩, fun w _ => rfl, by simpa [newSp] using h1, by simpa [newSp] using h2, fun x hx => ?_, by simp [newSp]⟩
  · constructor
    · intro h; cases h
    · rintro ⟨k, _, hk⟩; exact absurd hk (no k)
  · have := List.eq_of_mem_replicate hx
    omega
theorem SpcNew_ok {n : Nat} (h1 : 1 ≤ n) (h2 : n ≤ 1024) {R : Option Addr → Int → Hp → Prop} (hR : ∀ σ' p', Ext0 σ σ' → σ.size ≤ p' → SpH3 σ' (fun b => σ.size ≤ b) p' (newSp n) → R (some ⟨p', 0, none⟩) 0 σ') : space_New.call (n : Int) σ R := by
  refine space_New.of_vc ?_
  unfold space_New.vc
  refine JnB.intro (ifDF (by omega) ?_)
  rw [decide_eq_false (by omega)]
  refine ifF rfl (mk (by omega) (by omega) fun u1 z1 e1 b1 => nwMap fun u2 z2 e2 m2 => nw (cs := [.slice (some ⟨σ.size, 0, none⟩) n n, .map (some u1.size), .int .i64 0]) fun u3 z3 e3 b3 => ?_)
  have hq := Ext.blk e3 (Ext.blk e2 b1 id) id
  have hr := Ext.mapL e3 (m2 .i64 .s) id
  refine hR u3 _ (Ext.trans (Ext.trans e1 e2) e3) (by omega) ⟨σ.size, u1.size, [], _, newSp_H h1 h2 (Nat.le_refl _) b3 ?_ hr ⟨by omega, by omega, by omega⟩ (by omega)⟩
  rw [pgV_rep]; exact hq
end Go.Ar

-- VcT
namespace Go.Vc
open Go
set_option linter.unusedSimpArgs false
set_option linter.unusedVariables false

/-- How many entries the iterator has yet to give. -/
def itN (h : Hp) (it r : Nat) : Nat :=
  match h[it]?, h[r]? with
  | some (.mapIter _ _ seen _), some (.map es _) => (es.toList.filter fun e => !seen.contains e.born).length
  | _, _ => 0
variable {σ : Hp} {k : IntKind} {c : CK} {l todo : List (Int × c.T)} {cur : Option (Int × c.T)} {r it : Nat}
theorem It.num {h : Hp} (hi : It h it k c (some r) l todo cur) : itN h it r = todo.length := by
  obtain ⟨es, clk, seen, h1, h2, h3, h4, h5, h6, h7, h8⟩ := hi
  unfold itN
  rw [h1, h2]
  have := congrArg List.length h7
  simpa using this
theorem It.keep {h h' : Hp} (hi : It h it k c (some r) l todo cur) (h1 : h'[it]? = h[it]?) (h2 : h'[r]? = h[r]?) : It h' it k c (some r) l todo cur := by
  obtain ⟨es, clk, seen, a1, a2, rest⟩ := hi
  exact ⟨es, clk, seen, h1.trans a1, h2.trans a2, rest⟩
/-- A walk through a map that stays as it is. -/
theorem rng0 {A : Hp → Prop} {body : Int → c.T → Hp → (Hp → Prop) → Prop} (hm : MapL σ r k c l) (I : List (Int × c.T) → Hp → Prop)
    (h0 : ∀ v, v.size = σ.size + 1 → Ext0 σ v → I l v)
    (hend : ∀ v, I [] v → A v)
    (hstep : ∀ todo n x v v' (J : Hp → Prop), I todo v → (n, x) ∈ todo → OnlyB v v' σ.size → σ.size < v.size → (∀ w, w[σ.size]? = v'[σ.size]? → w[r]? = v'[r]? → I (todo.filter fun y => !(y.1 == n)) w → J w) → body n x v' J) :
    Rng k c (some r) σ fun it v3 => LoopK [] (fun I => I v3) fun J1 v4 => Nxt k c it v4 (A v4) fun _ _ v5 => Ent k c it v5 fun key1 val1 => body key1 val1 v5 J1 := by
  refine ⟨l, hm, fun v hz hb hi => ?_⟩
  have e0 : Ext0 σ v := ⟨by omega, fun b hb' _ => hb b hb'⟩
  refine loop0 (fun w => ∃ todo cur, It w σ.size k c (some r) l todo cur ∧ I todo w ∧ σ.size < w.size) (fun w => itN w σ.size r) ⟨l, none, hi, h0 v hz e0, by omega⟩ ?_
  rintro w ⟨todo, cur, hiw, hI, hlt⟩
  refine ⟨rfl, some r, l, todo, cur, hiw, fun ht => ?_, fun n x hx w' ho hi' => ?_⟩
  · subst ht; exact hend w hI
  · refine ⟨rfl, some r, l, _, n, x, hi', hstep todo n x w w' _ hI hx ho hlt fun u hu1 hu2 hIu => ?_⟩
    have hiu := hi'.keep hu1 hu2
    refine ⟨⟨_, _, hiu, hIu, ?_⟩, ?_⟩
    · obtain ⟨es, clk, seen, a1, _⟩ := hiu
      exact (Array.getElem?_eq_some_iff.1 a1).1
    · rw [hiu.num, hiw.num]
      exact List.length_filter_lt_length_iff_exists.2 ⟨(n, x), hx, by simp⟩
/-- .. with one number that is carried along. -/
theorem rng1 {a : CK} {x0 : a.T} {A : a.T → Hp → Prop} {body : Int → c.T → a.T → Hp → (a.T → Hp → Prop) → Prop} (hm : MapL σ r k c l) (I : List (Int × c.T) → a.T → Hp → Prop)
    (h0 : ∀ v, v.size = σ.size + 1 → Ext0 σ v → I l x0 v)
    (hend : ∀ z v, I [] z v → A z v)
    (hstep : ∀ todo n x z v v' (J : a.T → Hp → Prop), I todo z v → (n, x) ∈ todo → OnlyB v v' σ.size → σ.size < v.size → (∀ z' w, w[σ.size]? = v'[σ.size]? → w[r]? = v'[r]? → I (todo.filter fun y => !(y.1 == n)) z' w → J z' w) → body n x z v' J) :
    Rng k c (some r) σ fun it v3 => LoopK [a] (fun I => I x0 v3) fun J1 z v4 => Nxt k c it v4 (A z v4) fun _ _ v5 => Ent k c it v5 fun key1 val1 => body key1 val1 z v5 J1 := by
  refine ⟨l, hm, fun v hz hb hi => ?_⟩
  have e0 : Ext0 σ v := ⟨by omega, fun b hb' _ => hb b hb'⟩
  refine loop1 (a := a) (fun z w => ∃ todo cur, It w σ.size k c (some r) l todo cur ∧ I todo z w ∧ σ.size < w.size) (fun _ w => itN w σ.size r) ⟨l, none, hi, h0 v hz e0, by omega⟩ ?_
  rintro z w ⟨todo, cur, hiw, hI, hlt⟩
  refine ⟨rfl, some r, l, todo, cur, hiw, fun ht => ?_, fun n x hx w' ho hi' => ?_⟩
  · subst ht; exact hend z w hI
  · refine ⟨rfl, some r, l, _, n, x, hi', hstep todo n x z w w' _ hI hx ho hlt fun z' u hu1 hu2 hIu => ?_⟩
    have hiu := hi'.keep hu1 hu2
    refine ⟨⟨_, _, hiu, hIu, ?_⟩, ?_⟩
    · obtain ⟨es, clk, seen, a1, _⟩ := hiu
      exact (Array.getElem?_eq_some_iff.1 a1).1
    · rw [hiu.num, hiw.num]
      exact List.length_filter_lt_length_iff_exists.2 ⟨(n, x), hx, by simp⟩

end Go.Vc
