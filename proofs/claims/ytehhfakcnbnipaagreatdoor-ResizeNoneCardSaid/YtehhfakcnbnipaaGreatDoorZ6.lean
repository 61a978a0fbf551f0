/- Texts joined. -/
import Derived.Shelf.SlSortCmp.NoneTotal
import Derived.Ground.SlsfProg
import Derived.Test.YtehhfakcnbnipaaGreatDoorProg
import Derived.Test.YtehhfakcnbnipaaGreatDoorRows
import Derived.ChangeVars
import Derived.JoinedOf
import Derived.RowKit
import Derived.WalkKit
import Derived.ProofKit
import Derived.OpenShut
import Derived.ChangeOld
import Derived.Carry
import Derived.Test.YtehhfakcnbnipaaGreatDoorZ5
set_option linter.unusedVariables false
set_option linter.unusedSimpArgs false
namespace Go.Ar
open Go Go.Vc Go.Proofs


variable {σ w : Hp}
abbrev T3 := Int × Int × Int
def v3 (x : T3) : List Value := [.int .i64 x.1, .int .i64 x.2.1, .int .i64 x.2.2]
def v3s (l : List T3) : List Value := l.flatMap v3
theorem v3s_len (l : List T3) : (v3s l).length = l.length * 3 := by
 induction l with
 | nil => rfl
 | cons x l ih => simp only [v3s, List.flatMap_cons, List.length_append, v3, List.length_cons, List.length_nil] at *; omega
theorem v3s_snoc (l : List T3) (x : T3) : v3s (l ++ [x]) = v3s l ++ v3 x := by simp [v3s]
theorem v3s_get : ∀ {l : List T3} {i : Nat} {x : T3}, l[i]? = some x -> ∀ {d : Nat}, d < 3 -> (v3s l)[i * 3 + d]? = (v3 x)[d]?
 | [], _, _, h, _, _ => by simp at h
 | y :: l, 0, x, h, d, hd => by
  simp at h; subst h
  have e : v3s (y :: l) = v3 y ++ v3s l := rfl
  rw [e, List.getElem?_append_left (by simp [v3]; omega)]; congr 1; omega
 | y :: l, i + 1, x, h, d, hd => by
  have e : v3s (y :: l) = v3 y ++ v3s l := rfl
  have e3 : (v3 y).length = 3 := rfl
  rw [e, List.getElem?_append_right (by omega), e3, show (i + 1) * 3 + d - 3 = i * 3 + d by omega]
  exact v3s_get (by simpa using h) hd
theorem own_acts {Q : Rg} {s : Sl} {l : List T3} (h : Own Q σ s 3 (v3s l)) : Acts σ s l := by
 have hl := h.1
 rw [v3s_len] at hl
 refine ⟨by omega, fun i x y z hx => ?_⟩
 obtain ⟨b, ha, h0⟩ := h.cell (j := i * 3 + 0) (v := .int .i64 x) ((v3s_get hx (by omega)).trans rfl)
 obtain ⟨b', ha', h1⟩ := h.cell (j := i * 3 + 1) (v := .int .i64 y) ((v3s_get hx (by omega)).trans rfl)
 rw [ha] at ha'; cases ha'
 obtain ⟨b', ha', h2⟩ := h.cell (j := i * 3 + 2) (v := .int .i64 z) ((v3s_get hx (by omega)).trans rfl)
 rw [ha] at ha'; cases ha'
 refine ⟨b, 0, ha, cell_lt' h0, ?_, ?_, ?_⟩
 ·rw [show 0 + i * 3 = i * 3 + 0 by omega]; exact h0
 ·rw [show 0 + i * 3 + 1 = i * 3 + 1 by omega]; exact h1
 ·rw [show 0 + i * 3 + 2 = i * 3 + 2 by omega]; exact h2
def mPages (s w : Int) (n : Nat) : Int := ([4, 3, 2, 1].take n).foldl (fun (r p : Int) => if s <= p * 256 /\ w * ((p * 256) % s) <= p * 256 then p else r) 4
def mBatch (s : Int) : Int := min 32 (max 2 (512 / s))
def mCls (s w : Int) : T3 := (s, mPages s w 4, mBatch s)
def stF : Nat -> Int -> Int -> Int
 | 0, d, _ => d
 | n + 1, d, q => if 2 * d <= q then stF n (2 * d) q else d
def mStep (s w : Int) : Int := stF 8 8 (s / w)
def mObj (x : T3) : Int := x.2.1 * 256 / x.1
theorem mPages_le (s w : Int) (n : Nat) : 1 <= mPages s w n /\ mPages s w n <= 4 := by
 have key : ∀ (l : List Int) (r : Int), (∀ p ∈ l, 1 <= p /\ p <= 4) -> 1 <= r /\ r <= 4 -> 1 <= l.foldl (fun (r p : Int) => if s <= p * 256 /\ w * ((p * 256) % s) <= p * 256 then p else r) r /\ l.foldl (fun (r p : Int) => if s <= p * 256 /\ w * ((p * 256) % s) <= p * 256 then p else r) r <= 4 := by
  intro l
  induction l with
  | nil => intro r _ h; exact h
  | cons p l ih =>
   intro r hl hr
   rw [List.foldl_cons]
   refine ih _ (fun q hq => hl q (List.mem_cons_of_mem _ hq)) ?_
   split
   ·exact hl p List.mem_cons_self
   ·exact hr
 refine key _ _ (fun p hp => ?_) (by omega)
 have := List.mem_of_mem_take hp
 simp at this; omega
theorem mclass_ok (s w : Int) (h1 : 8 <= s) (h2 : s <= 512) (hw1 : 2 <= w) (hw2 : w <= 16) {R : Int -> Int -> Int -> Hp -> Prop} (hR : ∀ σ', Ext0 σ σ' -> R (mCls s w).1 (mCls s w).2.1 (mCls s w).2.2 σ') : freeholdref01_class.call s w σ R := by
 refine freeholdref01_class.of_vc ?_
 unfold freeholdref01_class.vc
 have hb0 : 1 <= 512 / s /\ 512 / s <= 64 := ⟨by rw [Int.le_ediv_iff_mul_le (by omega)]; omega, Int.ediv_le_of_le_mul (by omega) (by omega)⟩
 refine nw (cs := [.int .i64 0, .int .i64 0, .int .i64 0]) fun v hz e hb => nz (by omega) (ar (by rw [tdiv_nn (by omega)]; omega) (by rw [tdiv_nn (by omega)]; omega) ?_)
 rw [tdiv_nn (by omega)]
 refine nw (cs := [.int .i64 0, .int .i64 0, .int .i64 0]) fun v1 hz1 e1 hb1 => hb1.s1 (by simp) fun v2 o2 b2 => b2.s1 (by simp) fun v3' o3 b3 => b3.s1 (by simp) fun v4 o4 b4 => ?_
 have hne : σ.size ≠ v.size := by omega
 have hbv := only_blk o4 (only_blk o3 (only_blk o2 (e1.blk hb id) hne) hne) hne
 have e4 : Ext0 σ v4 := ((((e.trans e1).only o2 (.inr (by omega))).only o3 (.inr (by omega))).only o4 (.inr (by omega)))
 have hbat : (if 32 < (if 2 > 512 / s then 2 else 512 / s) then 32 else (if 2 > 512 / s then 2 else 512 / s)) = mBatch s := by unfold mBatch; omega
 rw [hbat] at b4
 refine loop1 (a := .i .i64) (fun (z : Int) u => ∃ n : Nat, n <= 4 /\ z = 4 - (n : Int) /\ Ext0 σ u /\ Blk u σ.size [.int .i64 0, .int .i64 0, .int .i64 0] /\ Blk u v.size [.int .i64 s, .int .i64 (mPages s w n), .int .i64 (mBatch s)]) (fun z _ => z.toNat) ⟨0, by omega, rfl, e4, hbv, b4⟩ ?_
 rintro (z : Int) u ⟨n, hn, rfl, eu, hu, bu⟩
 refine ifD (fun hge => ?_) fun hlt => ?_
 ·have hn3 : n < 4 := by omega
  have hsn : mPages s w (n + 1) = if s <= (4 - (n : Int)) * 256 /\ w * (((4 - (n : Int)) * 256) % s) <= (4 - (n : Int)) * 256 then 4 - (n : Int) else mPages s w n := by
   have ht : ([4, 3, 2, 1] : List Int)[n]? = some (4 - (n : Int)) := by
    rcases (show n = 0 ∨ n = 1 ∨ n = 2 ∨ n = 3 by omega) with rfl | rfl | rfl | rfl <;> rfl
   unfold mPages
   rw [List.take_add_one, ht, List.foldl_append]; rfl
  refine ar (by omega) (by omega) ?_
  refine jnB_p (fun r u' => u' = u /\ r = decide (s <= (4 - (n : Int)) * 256 /\ w * (((4 - (n : Int)) * 256) % s) <= (4 - (n : Int)) * 256)) (fun r u' ⟨hu', hr⟩ => ?_) fun J hJ => ?_
  ·subst hu'
   by_cases hc : s <= (4 - (n : Int)) * 256 /\ w * (((4 - (n : Int)) * 256) % s) <= (4 - (n : Int)) * 256
   ·rw [decide_eq_true hc] at hr
    rw [if_pos hc] at hsn
    refine ifT hr (bu.s1 (by simp) fun u1 o1 b1 => ar (by omega) (by omega) ⟨⟨n + 1, by omega, by omega, eu.only o1 (.inr (by omega)), only_blk o1 hu hne, by rw [hsn]; exact b1⟩, by omega⟩)
   ·rw [decide_eq_false hc] at hr
    rw [if_neg hc] at hsn
    exact ifF hr (ar (by omega) (by omega) ⟨⟨n + 1, by omega, by omega, eu, hu, by rw [hsn]; exact bu⟩, by omega⟩)
  ·have hm1 := Int.emod_nonneg ((4 - (n : Int)) * 256) (show s ≠ 0 by omega)
   have hm2 := Int.emod_lt_of_pos ((4 - (n : Int)) * 256) (show 0 < s by omega)
   have hm3 : w * (((4 - (n : Int)) * 256) % s) <= 16 * 512 := Int.mul_le_mul hw2 (by omega) hm1 (by omega)
   have hm4 : 0 <= w * (((4 - (n : Int)) * 256) % s) := Int.mul_nonneg (by omega) hm1
   refine ifD (fun h1 => ar (by omega) (by omega) (nz (by omega) ?_)) fun h1 => hJ _ _ ⟨rfl, (decide_eq_false fun hx => h1 hx.1).symm⟩
   rw [tmod_nn (by omega)]
   refine ar (by omega) (by omega) (ar (by omega) (by omega) (hJ _ _ ⟨rfl, ?_⟩))
   rw [decide_eq_decide]
   exact ⟨fun hx => ⟨h1, hx⟩, fun hx => hx.2⟩
 ·have hn4 : n = 4 := by omega
  subst hn4
  refine bu.rI rfl (bu.rI rfl (bu.rI rfl (hu.s1 (by simp) fun u1 o1 b1 => b1.s1 (by simp) fun u2 o2 b2 => b2.s1 (by simp) fun u3 o3 b3 => b3.rI rfl (b3.rI rfl (b3.rI rfl (hR u3 ?_))))))
  exact ((eu.only o1 (.inr (by omega))).only o2 (.inr (by omega))).only o3 (.inr (by omega))
theorem mStep_ok (s w : Int) (h1 : 8 <= s) (h2 : s <= 512) (hw1 : 2 <= w) {R : Int -> Hp -> Prop} (hR : 8 <= mStep s w -> mStep s w <= 256 -> R (mStep s w) σ) : freeholdref01_step.call s w σ R := by
 refine freeholdref01_step.of_vc ?_
 unfold freeholdref01_step.vc
 have hq : 0 <= s / w /\ s / w <= 256 := ⟨Int.ediv_nonneg (by omega) (by omega), by
  have : s / w <= s / 2 := by
   apply Int.le_ediv_of_mul_le (by omega)
   have := Int.ediv_mul_le s (show w ≠ 0 by omega)
   have h3 : s / w * 2 <= s / w * w := Int.mul_le_mul_of_nonneg_left hw1 (Int.ediv_nonneg (by omega) (by omega))
   omega
  omega⟩
 refine loop1 (a := .i .i64) (fun (d : Int) u => u = σ /\ ∃ n : Nat, stF n d (s / w) = mStep s w /\ 8 <= d /\ d <= 256 /\ 512 <= d * 2 ^ n) (fun d _ => 1000 - d.toNat) ⟨rfl, 8, rfl, by omega, by omega, by decide⟩ ?_
 rintro (d : Int) u ⟨rfl, n, hst, hd1, hd2, hdn⟩
 refine ar (by omega) (by omega) (nz (by omega) (ar (by rw [tdiv_nn (by omega)]; omega) (by rw [tdiv_nn (by omega)]; omega) ?_))
 rw [tdiv_nn (by omega)]
 cases n with
 | zero => simp at hdn; omega
 | succ n =>
  refine ifD (fun hle => ar (by omega) (by omega) ⟨⟨rfl, n, ?_, by omega, by omega, ?_⟩, by omega⟩) fun hgt => ?_
  ·rw [stF, if_pos hle] at hst; exact hst
  ·rw [Int.pow_succ] at hdn
   have : 2 * d * 2 ^ n = d * (2 ^ n * 2) := by rw [Int.mul_comm 2 d, Int.mul_assoc, Int.mul_comm 2 (2 ^ n)]
   omega
  ·rw [stF, if_neg hgt] at hst
   rw [← hst] at hR
   exact hR hd1 hd2
theorem mObj_ok (x : T3) (h1 : 8 <= x.1) (h2 : x.1 <= 512) (h3 : 1 <= x.2.1) (h4 : x.2.1 <= 4) {R : Int -> Hp -> Prop} (hR : ∀ σ', Ext0 σ σ' -> R (mObj x) σ') : freeholdref01_Objects.call x.1 x.2.1 x.2.2 σ R := by
 refine freeholdref01_Objects.of_vc ?_
 unfold freeholdref01_Objects.vc
 refine nw (cs := [.int .i64 x.1, .int .i64 x.2.1, .int .i64 x.2.2]) fun v hz e hb => ?_
 refine loop1 (a := .i .i64) (fun (n : Int) u => Ext0 σ u /\ Blk u σ.size [.int .i64 x.1, .int .i64 x.2.1, .int .i64 x.2.2] /\ 0 <= n /\ n <= 128 /\ n * x.1 <= x.2.1 * 256) (fun n _ => 1000 - n.toNat) ⟨e, hb, by omega, by omega, by omega⟩ ?_
 rintro (n : Int) u ⟨eu, bu, hn0, hn1, hn⟩
 have hm : (n + 1) * x.1 <= 129 * 512 := Int.mul_le_mul (by omega) h2 (by omega) (by omega)
 have hm0 : 0 <= (n + 1) * x.1 := Int.mul_nonneg (by omega) (by omega)
 refine ar (by omega) (by omega) (bu.rI rfl (ar (by omega) (by omega) (bu.rI rfl (ar (by omega) (by omega) ?_))))
 refine ifD (fun hle => ar (by omega) (by omega) ⟨⟨eu, bu, by omega, ?_, hle⟩, by omega⟩) fun hgt => ?_
 ·have : (n + 1) * 8 <= (n + 1) * x.1 := Int.mul_le_mul_of_nonneg_left h1 (by omega)
  omega
 ·have : mObj x = n := by
   unfold mObj
   have a1 : n <= x.2.1 * 256 / x.1 := (Int.le_ediv_iff_mul_le (by omega)).2 hn
   have a2 : x.2.1 * 256 / x.1 < n + 1 := (Int.ediv_lt_iff_lt_mul (by omega)).2 (by omega)
   omega
  have h5 := hR u eu
  rw [this] at h5; exact h5
end Go.Ar
namespace Go.Ar
open Go Go.Vc Go.Proofs


variable {σ w : Hp}
def allF : Nat -> Int -> Int -> List T3
 | 0, _, _ => []
 | n + 1, s, w => if s < 512 then mCls s w :: allF n (s + mStep s w) w else []
def allM (w : Int) : List T3 := allF 64 8 w ++ [mCls 512 w]
def keepM (l : List T3) (i : Nat) : Bool := i == l.length - 1 || (match l[i]?, l[i + 1]? with
 | some x, some y => x.2.1 != y.2.1 || mObj x != mObj y
 | _, _ => false)
def outM (l : List T3) (n : Nat) : List T3 := (List.range n).filterMap fun i => if keepM l i then l[i]? else none
def makeM (w : Int) : List T3 := outM (allM w) (allM w).length
def T3ok (x : T3) : Prop := 8 <= x.1 /\ x.1 <= 512 /\ 1 <= x.2.1 /\ x.2.1 <= 4
theorem mCls_ok (s w : Int) (h1 : 8 <= s) (h2 : s <= 512) : T3ok (mCls s w) := ⟨h1, h2, mPages_le s w 4⟩
theorem app3 {Q : Rg} {s : Sl} {l : List T3} {e1 e2 : Nat} (ho : Own Q σ s 3 (v3s l)) (hQ : ∀ b, σ.size <= b -> Q b) (hl : l.length <= 1000) (x : T3) {K : Sl -> Hp -> Prop} (hK : ∀ s' σ', Ext Q σ σ' -> Own Q σ' s' 3 (v3s (l ++ [x])) -> K s' σ') :
 Nw (.cells #[.int .i64 x.1, .int .i64 x.2.1, .int .i64 x.2.2] e1 (0, 0)) σ fun n20 v3 => App s 3 24 e2 [.int .i64 0, .int .i64 0, .int .i64 0] ⟨some n20, 1, 1⟩ v3 K := by
 have hsl : s.len = l.length := by have := ho.1; rw [v3s_len] at this; omega
 refine nw (cs := v3 x) fun v hz e hb => ?_
 refine (ho.keep0 e).app (ys := v3 x) (fun b hb => hQ b (by omega)) rfl rfl ?_ (by simp [v3, one1]) ?_ ?_ Nat.zero_lt_one fun s' v' _ e' h' _ => hK s' v' ?_ ?_
 ·intro j u hu
  rw [add_lit, Nat.zero_add, hb.cell]; exact hu
 ·simp only
  have : (s.len + 1) * 24 <= 1001 * 24 := Nat.mul_le_mul (by omega) (by omega)
  omega
 ·simp only; omega
 ·exact (Ext0.to e).trans (e'.sub fun b hb => ((ho.keep0 e).blk_lt hb).1)
 ·rw [v3s_snoc]; exact h'
theorem Make_ok (w : Int) (hw1 : 2 <= w) (hw2 : w <= 16) {R : Sl -> Int -> Hp -> Prop} (hR : ∀ s' σ', Ext0 σ σ' -> Acts σ' s' (makeM w) -> R s' 0 σ') : freeholdref01_Make.call w σ R := by
 refine freeholdref01_Make.of_vc ?_
 unfold freeholdref01_Make.vc
 refine JnB.intro (ifDF (by omega) (ifF (decide_eq_false (by omega)) ?_))
 refine loop2 (a := .s) (bb := .i .i64) (fun (all : Sl) (s : Int) u => ∃ (n : Nat) (done : List T3), 8 <= s /\ s <= 768 /\ Ext0 σ u /\ Own (fun b => σ.size <= b) u all 3 (v3s done) /\ done ++ allF n s w = allF 64 8 w /\ 512 <= s + 8 * (n : Int) /\ (∀ x ∈ done, T3ok x) /\ done.length + n = 64) (fun _ s _ => 1000 - s.toNat) ⟨64, [], by omega, by omega, Ext.refl _ _, Own.nil _ _ _, rfl, by omega, by simp, by simp⟩ ?_
 rintro (all : Sl) (s : Int) u ⟨n, done, hs1, hs2, eu, ho, hdone, hn, hok, hlen⟩
 refine ifD (fun hlt => ?_) fun hge => ?_
 ·obtain ⟨n, rfl⟩ : ∃ m, n = m + 1 := ⟨n - 1, by omega⟩
  refine mclass_ok s w (by omega) (by omega) hw1 hw2 fun v2 e2 => ?_
  refine app3 (ho.keep0 e2) (fun b hb => by have := eu.1; have := e2.1; omega) (by omega) (mCls s w) fun all1 v4 e4 h4 => ?_
  have e04 : Ext0 σ v4 := Ext.newT (eu.trans e2) e4 fun b hb => .inr hb
  refine mStep_ok s w (by omega) (by omega) hw1 fun d1 d2 => ar (by omega) (by omega) ⟨⟨n, done ++ [mCls s w], by omega, by omega, e04, h4, ?_, by omega, fun x hx => ?_, by simp; omega⟩, by omega⟩
  ·rw [← hdone, List.append_assoc]
   congr 1
   conv => rhs; rw [allF, if_pos hlt]
   rfl
  ·rcases List.mem_append.1 hx with h1 | h1
   ·exact hok x h1
   ·rw [List.mem_singleton] at h1; subst h1; exact mCls_ok s w (by omega) (by omega)
 ·have hnil : allF n s w = [] := by
   cases n with
   | zero => rfl
   | succ n => rw [allF, if_neg hge]
  rw [hnil, List.append_nil] at hdone
  refine mclass_ok 512 w (by omega) (by omega) hw1 hw2 fun v6 e6 => ?_
  refine app3 (ho.keep0 e6) (fun b hb => by have := eu.1; have := e6.1; omega) (by omega) (mCls 512 w) fun all2 v8 e8 h8 => ?_
  have e08 : Ext0 σ v8 := Ext.newT (eu.trans e6) e8 fun b hb => .inr hb
  rw [hdone] at h8
  have hok8 : ∀ x ∈ allM w, T3ok x := fun x hx => by
   rcases List.mem_append.1 hx with h1 | h1
   ·rw [← hdone] at h1; exact hok x h1
   ·rw [List.mem_singleton] at h1; subst h1; exact mCls_ok 512 w (by omega) (by omega)
  have hml : (allM w).length <= 65 := by unfold allM; rw [← hdone]; simp; omega
  have h8 : Own (fun b => σ.size <= b) v8 all2 3 (v3s (allM w)) := h8
  generalize hall : allM w = l at h8 hok8 hml
  have hmk : makeM w = outM l l.length := by unfold makeM; rw [hall]
  have hl2 : all2.len = l.length := by have := h8.1; rw [v3s_len] at this; omega
  refine loop2 (a := .s) (bb := .i .i64) (fun (out : Sl) (z : Int) u => ∃ i : Nat, z = (i : Int) /\ i <= l.length /\ Ext0 v8 u /\ Own (fun b => v8.size <= b) u out 3 (v3s (outM l i)) /\ (outM l i).length <= i) (fun _ z _ => l.length - z.toNat) ⟨0, rfl, by omega, Ext.refl _ _, Own.nil _ _ _, by simp [outM]⟩ ?_
  rintro (out : Sl) (z : Int) u ⟨i, rfl, hi, eu8, hout, hol⟩
  refine ifD (fun hlt => ?_) fun hge => ?_
  ·have hi' : i < l.length := by omega
   have hx : l[i]? = some l[i] := List.getElem?_eq_getElem hi'
   generalize l[i] = x at hx
   have hxo := hok8 x (List.mem_of_getElem? hx)
   have hsn : outM l (i + 1) = outM l i ++ (if keepM l i then [x] else []) := by
    unfold outM
    rw [List.range_succ, List.filterMap_append]
    congr 1
    by_cases hk : keepM l i = true
    ·simp [hk, hx]
    ·simp [hk]
   have hA : ∀ m, Ext0 u m -> Acts m all2 l := fun m em => own_acts (h8.keep0 (eu8.trans em))
   refine jnP2c (fun r u' => Ext0 u u' /\ r = keepM l i) (fun r u' ⟨eu', hr⟩ => ?_) fun J3 hJ3 => ?_
   ·have hou := hout.keep0 eu'
    cases hk : keepM l i with
    | true =>
     rw [hk] at hr hsn
     refine ifT hr (acts_rd (hA u' eu') hx ?_)
     refine app3 hou (fun b hb => by have := eu8.1; have := eu'.1; omega) (by omega) x fun out1 v12 e12 h12 => ?_
     refine arN (m := i + 1) (by omega) (by omega) ⟨⟨i + 1, rfl, by omega, Ext.newT (eu8.trans eu') e12 fun b hb => .inr hb, ?_, ?_⟩, by omega⟩
     ·rw [hsn]; exact h12
     ·rw [hsn]; simp; omega
    | false =>
     rw [hk] at hr hsn
     refine ifF hr (arN (m := i + 1) (by omega) (by omega) ⟨⟨i + 1, rfl, by omega, eu8.trans eu', ?_, ?_⟩, by omega⟩)
     ·rw [hsn]; simpa using hou
     ·rw [hsn]; simp; omega
   ·refine ⟨fun m => Ext0 u m, Ext.refl _ _, ar (by omega) (by omega) ?_⟩
    refine iff_ (fun hlast => hJ3 _ _ ⟨Ext.refl _ _, ?_⟩) fun hnl => ?_
    ·have : i = l.length - 1 := by simp only [beq_iff_eq] at hlast; omega
     unfold keepM; rw [this]; simp
    ·have hi2 : i + 1 < l.length := by simp only [beq_eq_false_iff_ne] at hnl; omega
     have hy : l[i + 1]? = some l[i + 1] := List.getElem?_eq_getElem hi2
     generalize l[i + 1] = y at hy
     have hyo := hok8 y (List.mem_of_getElem? hy)
     have hkp : keepM l i = (x.2.1 != y.2.1 || mObj x != mObj y) := by
      unfold keepM
      rw [hx, hy]
      have : (i == l.length - 1) = false := by simp only [beq_eq_false_iff_ne]; omega
      rw [this]; rfl
     have hcx := fun (m : Hp) (em : Ext0 u m) => (hA m em).2 i x.1 x.2.1 x.2.2 hx
     have hcy := fun (m : Hp) (em : Ext0 u m) => (hA m em).2 (i + 1) y.1 y.2.1 y.2.2 hy
     obtain ⟨b, o, ha, _, _⟩ := hcx u (Ext.refl _ _)
     have rx : ∀ m, Ext0 u m -> cell m ⟨b, o + i * 3, none⟩ = some (.int .i64 x.1) /\ cell m ⟨b, o + i * 3 + 1, none⟩ = some (.int .i64 x.2.1) /\ cell m ⟨b, o + i * 3 + 2, none⟩ = some (.int .i64 x.2.2) := fun m em => by
      obtain ⟨b', o', ha', _, h⟩ := hcx m em
      rw [ha] at ha'; cases ha'; exact h
     have ry : ∀ m, Ext0 u m -> cell m ⟨b, o + (i + 1) * 3, none⟩ = some (.int .i64 y.1) /\ cell m ⟨b, o + (i + 1) * 3 + 1, none⟩ = some (.int .i64 y.2.1) /\ cell m ⟨b, o + (i + 1) * 3 + 2, none⟩ = some (.int .i64 y.2.2) := fun m em => by
      obtain ⟨b', o', ha', _, h⟩ := hcy m em
      rw [ha] at ha'; cases ha'; exact h
     have ixx : ∀ {K : Addr -> Prop}, K ⟨b, o + i * 3, none⟩ -> Ix all2.a all2.len (i : Int) 3 K := fun hK => by
      rw [ha]; exact ix (by omega) (by omega) (by rw [add_lit, Int.toNat_natCast]; exact hK)
     have ixy : ∀ {K : Addr -> Prop}, K ⟨b, o + (i + 1) * 3, none⟩ -> Ix all2.a all2.len ((i + 1 : Nat) : Int) 3 K := fun hK => by
      rw [ha]; exact ix (by omega) (by omega) (by rw [add_lit, Int.toNat_natCast]; exact hK)
     refine ixx ⟨x.2.1, fun m em => by rw [add_lit]; exact (rx m em).2.1, arN (m := i + 1) (by omega) (by omega) (ixy ⟨y.2.1, fun m em => by rw [add_lit]; exact (ry m em).2.1, ?_⟩)⟩
     refine iff_ (fun hp => hJ3 _ _ ⟨Ext.refl _ _, by rw [hkp, hp]; rfl⟩) fun hp => ?_
     refine ixx ⟨x.1, fun m em => by rw [add_lit]; exact (rx m em).1, ⟨x.2.1, fun m em => by rw [add_lit]; exact (rx m em).2.1, ⟨x.2.2, fun m em => by rw [add_lit]; exact (rx m em).2.2, ?_⟩⟩⟩
     refine arN (m := i + 1) (by omega) (by omega) (ixy ⟨y.1, fun m em => by rw [add_lit]; exact (ry m em).1, ⟨y.2.1, fun m em => by rw [add_lit]; exact (ry m em).2.1, ⟨y.2.2, fun m em => by rw [add_lit]; exact (ry m em).2.2, ?_⟩⟩⟩)
     refine mObj_ok x hxo.1 hxo.2.1 hxo.2.2.1 hxo.2.2.2 fun v13 e13 => ⟨e13, mObj_ok y hyo.1 hyo.2.1 hyo.2.2.1 hyo.2.2.2 fun v14 e14 => ⟨e13.trans e14, hJ3 _ _ ⟨e13.trans e14, by rw [hkp, hp]; rfl⟩⟩⟩
  ·have hil : i = l.length := by omega
   subst hil
   refine hR out u (e08.trans eu8) ?_
   rw [hmk]; exact own_acts hout
theorem make_valid : ∀ w : Nat, 2 <= w -> w <= 16 -> validT (makeM (w : Int)) = true := by
 have h : ((List.range 17).all fun w => decide (w < 2) || validT (makeM (w : Int))) = true := by decide +kernel
 intro w h1 h2
 have := List.all_eq_true.1 h w (List.mem_range.2 (by omega))
 simp only [Bool.or_eq_true, decide_eq_true_eq] at this
 exact this.resolve_left (by omega)
end Go.Ar
namespace Go.Ar
open Go.Vc (mget mset mdel)


def i63 (x : Int) : Bool := decide (x <= 9223372036854775807)
def stepB (H : Hw) (t : Nat) : Ph -> Bool
 | .take k => decide (k < H.tb.length) && (match takeL (H.cls k) ((H.thr t).li k) with
  | (some y, _) => i63 y
  | (none, _) => true)
 | .transfer k _ => decide (k < H.tb.length) && (fromTrE (H.arn t) (k : Int) != 0 || !(fromTrV (H.arn t) (k : Int)).isEmpty)
 | .central _ _ => true
 | .grow _ _ => true
 | .fill => match (H.thr t).hands with
  | (k, x :: xs) :: _ => decide (k < H.tb.length) && (i63 x && decide (((H.thr t).li k).os.length + xs.length <= 256))
  | _ => false
 | .large m => decide (takeAV (H.arn t) H.sp (m : Int) 1 <= 1000000)
 | .find x => i63 x && ((mget H.live x).isSome && decide (0 <= x))
 | .put k _ => decide (k < H.tb.length) && !(H.thr t).hands.isEmpty
 | .back => match (H.thr t).hands with
  | (_, xs) :: _ => (xs.all fun x => i63 x && decide (0 <= ownerH H.ars x)) && decide (xs.length <= 1000000)
  | _ => false
 | .give _ a => decide (0 <= a) && (decide (a.toNat < H.ars.length) && H.ars.all fun A => A.runs.all fun r => decide (r.1 <= 1000000))
 | .drain => true
theorem i63_ok {x : Int} (h : i63 x = true) : I63 x := by
 unfold i63 at h; unfold I63; exact of_decide_eq_true h
theorem stepB_ok {H : Hw} {t : Nat} {p : Ph} (h : stepB H t p = true) : StepP H t p := by
 cases p with
 | take k =>
  simp only [stepB, Bool.and_eq_true, decide_eq_true_eq] at h
  refine ⟨h.1, fun y l hy => ?_⟩
  have h2 := h.2
  rw [hy] at h2
  exact i63_ok h2
 | transfer k w =>
  simp only [stepB, Bool.and_eq_true, decide_eq_true_eq, Bool.or_eq_true] at h
  refine ⟨h.1, fun h0 he => ?_⟩
  rw [h0, he] at h
  simp at h
 | central k w => trivial
 | grow k w => trivial
 | fill =>
  simp only [stepB] at h
  split at h
  ·rename_i k x xs r hh
   simp only [Bool.and_eq_true, decide_eq_true_eq] at h
   exact ⟨k, x, xs, r, hh, h.1, i63_ok h.2.1, h.2.2⟩
  ·cases h
 | large m =>
  simp only [stepB, decide_eq_true_eq] at h
  exact h
 | find x =>
  simp only [stepB, Bool.and_eq_true, decide_eq_true_eq] at h
  exact ⟨i63_ok h.1, fun hn => by rw [hn] at h; simp at h, fun b _ => h.2.2⟩
 | put k x =>
  simp only [stepB, Bool.and_eq_true, decide_eq_true_eq] at h
  exact ⟨h.1, fun he => by rw [he] at h; simp at h⟩
 | back =>
  simp only [stepB] at h
  split at h
  ·rename_i k xs r hh
   simp only [Bool.and_eq_true, decide_eq_true_eq, List.all_eq_true] at h
   exact ⟨k, xs, r, hh, fun x hx => ⟨i63_ok (h.1 x hx).1, (h.1 x hx).2⟩, h.2⟩
  ·cases h
 | give s a =>
  simp only [stepB, Bool.and_eq_true, decide_eq_true_eq, List.all_eq_true] at h
  exact ⟨h.1, h.2.1, h.2.2⟩
 | drain => trivial
def runB : Nat -> Hw -> Nat -> Ph -> Option (Hw × Int × Int)
 | 0, _, _, _ => none
 | n + 1, H, t, p => if stepB H t p && decide ((H.thr t).hands.length <= 900) then (match (stepH H t p).2.1 with
  | none => some (stepO H t p, (stepH H t p).2.2.1, (stepH H t p).2.2.2)
  | some p' => runB n (stepO H t p) t p') else none
theorem runB_ok : ∀ {n : Nat} {H : Hw} {t : Nat} {p : Ph} {r : Hw × Int × Int}, runB n H t p = some r -> ∃ m, RunN m H t p r.1 r.2.1 r.2.2
 | 0, _, _, _, _, h => by simp [runB] at h
 | n + 1, H, t, p, r, h => by
  rw [runB] at h
  split at h
  ·rename_i hc
   simp only [Bool.and_eq_true, decide_eq_true_eq] at hc
   have hok : StepOk H t p := ⟨stepB_ok hc.1, fun g hg => by rw [← thr_eq hg]; exact hc.2⟩
   split at h
   ·rename_i hn
    cases h
    exact ⟨1, .done hok hn⟩
   ·rename_i p' hs
    obtain ⟨m, hm⟩ := runB_ok h
    exact ⟨m + 1, .next hok hs hm⟩
  ·cases h
def wholeB (H : Hw) (thread kind size align addr : Int) : Option (Hw × Int × Int) := match startH H thread kind size align addr with
 | .inl e => if e = 0 then none else some (H, 0, e)
 | .inr (t, p) => runB 40 (setPh H t (some p)) t p
theorem wholeB_ok {H : Hw} {thread kind size align addr : Int} {r : Hw × Int × Int} (h : wholeB H thread kind size align addr = some r) : Whole H thread kind size align addr r.1 r.2.1 r.2.2 := by
 unfold wholeB at h
 split at h
 ·rename_i e he
  split at h
  ·cases h
  ·rename_i hne
   cases h
   exact .inl ⟨he, hne, rfl, rfl⟩
 ·rename_i t p he
  obtain ⟨m, hm⟩ := runB_ok h
  exact .inr ⟨t, p, m, he, hm⟩
def tb8 : List Cls := (makeM 8).map toCls
def w0 : Hw := newHw tb8 ⟨64, 1, 1, 1024, 2⟩
def nxt (H : Hw) (kind size addr : Int) : Hw × Int × Int := (wholeB H 0 kind size (if kind = 0 then 8 else 0) addr).getD (H, 0, 99)
def w1 : Hw × Int × Int := nxt w0 0 24 0
def w2 : Hw × Int × Int := nxt w1.1 0 300 0
def w2s : Hw := { w2.1 with sp := shiftS w2.1.sp w2.2.1 4096 3 }
def w3 : Hw × Int × Int := nxt w2s 1 0 4096
def w4 : Hw × Int × Int := nxt w3.1 0 16 0
def abc : ByteArray := ByteArray.mk #[97, 98, 99]
def w5 : Hw := { w4.1 with sp := putS w4.1.sp w4.2.1 abc 1 }
theorem nxt_ok {H : Hw} {kind size addr : Int} (h : (nxt H kind size addr).2.2 ≠ 99) : Whole H 0 kind size (if kind = 0 then 8 else 0) addr (nxt H kind size addr).1 (nxt H kind size addr).2.1 (nxt H kind size addr).2.2 := by
 unfold nxt at *
 cases hw : wholeB H 0 kind size (if kind = 0 then 8 else 0) addr with
 | none => rw [hw] at h; exact absurd rfl h
 | some r => exact wholeB_ok hw
theorem w1_ok : w1.2 = (4096, 0) := by decide +kernel
theorem w1_u : usableH w1.1 4096 = some 24 /\ readyE w1.1 0 = 0 /\ goodH w1.1.tb 20 8 = (24, 0) := by decide +kernel
theorem w2_e : w2.2.2 = 0 := by decide +kernel
theorem w2_ok : w2.2.1 = 5120 /\ usableH w2.1 5120 = some 320 /\ goodH w1.1.tb 300 8 = (320, 0) := by decide +kernel
theorem w4_ok : w4.2 = (4352, 0) := by decide +kernel
theorem w5_ok : readV w5.sp 4352 = 3 /\ readV w5.sp 4360 = 6513249 /\ (getV w5 4352).toList = abc.toList /\ getE w5 4352 = 0 /\ usableH w5 4352 = some 16 := by decide +kernel
theorem w0_ok : readyE w0 0 = 0 /\ goodH w0.tb 24 8 = (24, 0) /\ readyE w3.1 0 = 0 := by decide +kernel
theorem tb8_ok : validT (tb8.map clsT) = true := by decide +kernel
theorem w0_c : CfOk w0 := ⟨by decide, by decide +kernel, tb8_ok⟩
theorem nxtW {H : Hw} {kind size addr al a e : Int} {N : Hw × Int × Int} (hN : N = nxt H kind size addr) (h : N.2 = (a, e)) (hne : e ≠ 99) (hal : al = if kind = 0 then 8 else 0) : Whole H 0 kind size al addr N.1 a e := by
 have h1 := nxt_ok (H := H) (kind := kind) (size := size) (addr := addr) (by rw [← hN, h]; exact hne)
 rw [← hN, h, ← hal] at h1
 exact h1
theorem w1_w : Whole w0 0 0 24 8 0 w1.1 4096 0 := nxtW rfl w1_ok (by decide) rfl
theorem w2_w : Whole w1.1 0 0 300 8 0 w2.1 5120 0 := nxtW rfl (Prod.ext w2_ok.1 w2_e) (by decide) rfl
theorem w3_2 : w3.2 = (0, 0) := by decide +kernel
theorem w3_w : Whole w2s 0 1 0 0 4096 w3.1 0 0 := nxtW rfl w3_2 (by decide) rfl
theorem w4_w : Whole w3.1 0 0 16 8 0 w4.1 4352 0 := nxtW rfl w4_ok (by decide) rfl
theorem w2s_e : w2s = { w2.1 with sp := shiftS w2.1.sp 5120 4096 ((min (320 : Int) 24).toNat / 8) } := by
 unfold w2s; rw [w2_ok.1]; rfl
theorem w5_e : w5 = { w4.1 with sp := putS w4.1.sp 4352 abc ((abc.size + 7) / 8) } := by
 unfold w5; rw [w4_ok]; rfl
theorem w0_u : usableH w0 0 = none := by decide +kernel
theorem w0_e : newHw ((makeM 8).map toCls) ⟨(64 : Int).toNat, (1 : Int).toNat, (1 : Int).toNat, (1024 : Int).toNat, (2 : Int).toNat⟩ = w0 := rfl
end Go.Ar
namespace Go.Proofs
open Go.Shelf
def Tryz.sortFL_ren : Go.Shelf.Ren := ⟨fun | 6 => 229 | 15 => 141 | 14 => 263 | 28 => 209 | 29 => 210 | 20 => 283 | 21 => 284 | 22 => 285 | 23 => 286 | 24 => 287 | 25 => 288 | 26 => 289 | 27 => 290 | 46 => 296 | 47 => 245 | 48 => 246 | 49 => 297 | 50 => 298 | 57 => 300 | n => n, fun | 22 => 112 | 24 => 119 | 25 => 311 | 3 => 3 | 39 => 219 | 0 => 0 | 53 => 290 | 55 => 86 | 4 => 4 | 46 => 284 | 45 => 283 | 50 => 266 | 5 => 5 | 9 => 9 | 66 => 324 | 70 => 328 | 76 => 351 | 77 => 352 | n => n, fun | n => n⟩
theorem Tryz.sortFL : Go.Proofs.SlLaysF0.n6 Tryz.prog Tryz.sortFL_ren := {
 mixed := by kernel_rfl
 f6 := ⟨Tryz.f229.name, by decide, Tryz.func229.trans (congrArg some (by kernel_rfl))⟩
 f14 := ⟨Tryz.f263.name, by decide, Tryz.func263.trans (congrArg some (by kernel_rfl))⟩
 f15 := Tryz.func141.trans (congrArg some (by kernel_rfl))
 f20 := ⟨Tryz.f283.name, by decide, Tryz.func283.trans (congrArg some (by kernel_rfl))⟩
 f21 := ⟨Tryz.f284.name, by decide, Tryz.func284.trans (congrArg some (by kernel_rfl))⟩
 f22 := ⟨Tryz.f285.name, by decide, Tryz.func285.trans (congrArg some (by kernel_rfl))⟩
 f23 := ⟨Tryz.f286.name, by decide, Tryz.func286.trans (congrArg some (by kernel_rfl))⟩
 f24 := ⟨Tryz.f287.name, by decide, Tryz.func287.trans (congrArg some (by kernel_rfl))⟩
 f25 := ⟨Tryz.f288.name, by decide, Tryz.func288.trans (congrArg some (by kernel_rfl))⟩
 f26 := ⟨Tryz.f289.name, by decide, Tryz.func289.trans (congrArg some (by kernel_rfl))⟩
 f27 := ⟨Tryz.f290.name, by decide, Tryz.func290.trans (congrArg some (by kernel_rfl))⟩
 f28 := Tryz.func209.trans (congrArg some (by kernel_rfl))
 f29 := Tryz.func210.trans (congrArg some (by kernel_rfl))
 f46 := ⟨Tryz.f296.name, by decide, Tryz.func296.trans (congrArg some (by kernel_rfl))⟩
 f47 := Tryz.func245.trans (congrArg some (by kernel_rfl))
 f48 := Tryz.func246.trans (congrArg some (by kernel_rfl))
 f49 := ⟨Tryz.f297.name, by decide, Tryz.func297.trans (congrArg some (by kernel_rfl))⟩
 f50 := ⟨Tryz.f298.name, by decide, Tryz.func298.trans (congrArg some (by kernel_rfl))⟩
 f57 := ⟨Tryz.f300.name, by decide, Tryz.func300.trans (congrArg some (by kernel_rfl))⟩
 t0 := Tryz.underlying0
 a0 := Tryz.isAgg0
 z0 := Tryz.sizeOf0
 v0 := Tryz.zeroValue0
 t3 := Tryz.underlying3
 a3 := Tryz.isAgg3
 z3 := Tryz.sizeOf3
 v3 := Tryz.zeroValue3
 t4 := Tryz.underlying4
 a4 := Tryz.isAgg4
 z4 := Tryz.sizeOf4
 v4 := Tryz.zeroValue4
 t5 := Tryz.underlying5
 a5 := Tryz.isAgg5
 z5 := Tryz.sizeOf5
 v5 := Tryz.zeroValue5
 t9 := Tryz.underlying9
 a9 := Tryz.isAgg9
 z9 := Tryz.sizeOf9
 v9 := Tryz.zeroValue9
 t22 := Tryz.underlying112
 a22 := Tryz.isAgg112
 z22 := Tryz.sizeOf112
 v22 := Tryz.zeroValue112
 t25 := Tryz.underlying311
 a25 := Tryz.isAgg311
 z25 := Tryz.sizeOf311
 v25 := Tryz.zeroValue311
 t39 := Tryz.underlying219
 a39 := Tryz.isAgg219
 z39 := Tryz.sizeOf219
 v39 := Tryz.zeroValue219
 t45 := Tryz.underlying283
 a45 := Tryz.isAgg283
 z45 := Tryz.sizeOf283
 v45 := Tryz.zeroValue283
 t46 := Tryz.underlying284
 a46 := Tryz.isAgg284
 z46 := Tryz.sizeOf284
 v46 := Tryz.zeroValue284
 t50 := Tryz.underlying266
 a50 := Tryz.isAgg266
 z50 := Tryz.sizeOf266
 v50 := Tryz.zeroValue266
 t53 := Tryz.underlying290
 a53 := Tryz.isAgg290
 z53 := Tryz.sizeOf290
 v53 := Tryz.zeroValue290
 t55 := Tryz.underlying86
 a55 := Tryz.isAgg86
 z55 := Tryz.sizeOf86
 v55 := Tryz.zeroValue86
 t66 := Tryz.underlying324
 a66 := Tryz.isAgg324
 z66 := Tryz.sizeOf324
 v66 := Tryz.zeroValue324
 t70 := Tryz.underlying328
 a70 := Tryz.isAgg328
 z70 := Tryz.sizeOf328
 v70 := Tryz.zeroValue328
 t76 := Tryz.underlying351
 a76 := Tryz.isAgg351
 z76 := Tryz.sizeOf351
 v76 := Tryz.zeroValue351
 t77 := Tryz.underlying352
 a77 := Tryz.isAgg352
 z77 := Tryz.sizeOf352
 v77 := Tryz.zeroValue352 }
end Go.Proofs
namespace Go.Ar
open Go Go.Vc Go.Proofs Go.RowKit Go.Sort Go.Shelf Go.Lib


abbrev BtK := Fin 64 × Sl
instance : Inhabited BtK := ⟨(0, ⟨none, 0, 0⟩)⟩
def encB (x : BtK) : List Value := [.int .i64 (x.1.val : Int), .slice x.2.a x.2.len x.2.cap]
def cfB (x y : BtK) : Int := (x.1.val : Int) - (y.1.val : Int)
theorem cmpB (x y : BtK) (W : World) : Calls Tryz.prog 230 #[.agg #[.int .i64 (x.1.val : Int), .slice x.2.a x.2.len x.2.cap], .agg #[.int .i64 (y.1.val : Int), .slice y.2.a y.2.len y.2.cap]] W fun e w' => e = .returned (.int .i64 (cfB x y)) /\ ∃ q os', w' = grow (W.drewN q) os' := by
 have hw : IntKind.i64.wrap ((x.1.val : Int) - (y.1.val : Int)) = cfB x y := by
  have h1 := x.1.isLt; have h2 := y.1.isLt
  unfold cfB
  exact wrap_i64 (by omega) (by omega)
 go_enter Tryz.func230, Tryz.ntmps230
 go_wp2
 go_ret
 exact ⟨rfl, 0, _, by rw [alloc_eq_grow, alloc_eq_grow, grow_grow]; rfl⟩
theorem swoB : SWO (ltOf cfB) where
 irrefl x := by simp [ltOf, cfB]
 trans x y z h1 h2 := by
  have h1 := of_decide_eq_true h1
  have h2 := of_decide_eq_true h2
  unfold cfB at h1 h2
  exact decide_eq_true (by unfold cfB; omega)
 ntrans x y z h1 h2 := by
  have h1 := of_decide_eq_false h1
  have h2 := of_decide_eq_false h2
  unfold cfB at h1 h2
  exact decide_eq_false (by unfold cfB; omega)
def unK (x : BtK) : Nat × Sl := (x.1.val, x.2)
theorem flB (l : List BtK) (j : Nat) (hj : j < l.length * 2) : (btsV (l.map unK))[j]? = some (flatK encB 2 l.toArray)[j]! := by
 rw [get_flatK _ _ _ _ (by simpa using hj)]
 have hi : j / 2 < l.length := by omega
 have e1 : l.toArray[j / 2]! = l[j / 2] := by rw [getElem!_pos _ _ (by simpa using hi)]; simp
 have hg : (l.map unK)[j / 2]? = some (unK l[j / 2]) := by simp [hi]
 have := btsV_get hg (d := j % 2) (by omega)
 rw [show 2 * (j / 2) + j % 2 = j by omega] at this
 rw [this, e1]
 have hd : j % 2 = 0 ∨ j % 2 = 1 := by omega
 rcases hd with h | h <;> rw [h] <;> rfl
theorem sortB : SortB := by
 intro σ F s xs hrow hk hlen R hR
 rintro w rfl
 have hsl : s.len = xs.length := by have := hrow.1; rw [btsV_len] at this; omega
 rcases hrow.2 with ⟨h0, hc0⟩ | ⟨b, cs, hF, ha, hb, hle, hcl, ht⟩
 ·have hxs : xs = [] := List.length_eq_zero_iff.1 (by omega)
  have := AnyF.slices_SortFunc_none Tryz.sortFL s.a s.cap (.func (.func 230) #[] #[]) w
  show Calls _ _ #[.slice s.a s.len s.cap, .func (.func 230) #[] #[]] w _
  rw [h0]
  refine this.mono ?_
  rintro e w' ⟨rfl, rfl⟩
  subst hxs
  exact ⟨.refl _, [], rfl, hR [] _ (.refl _) List.Pairwise.nil (Ext.refl _ _) hrow⟩
 ·have hlt : ∀ x ∈ xs, x.1 < 64 := hk
  let toK : Nat × Sl -> BtK := fun x => (Fin.ofNat 64 x.1, x.2)
  have hun : (xs.map toK).map unK = xs := by
   rw [List.map_map]
   conv => rhs; rw [← List.map_id xs]
   apply List.map_congr_left
   intro x hx
   simp only [Function.comp, toK, unK, Fin.ofNat, id]
   rw [Nat.mod_eq_of_lt (hlt x hx)]
  have hdl : (xs.map toK).length = xs.length := by simp
  generalize xs.map toK = l at hun hdl
  have hbl := hb.lt
  have hH : HoldsK encB 2 w b 0 l.toArray := by
   intro j hj
   simp only [size_flatK, List.size_toArray] at hj
   have hc : Vc.cell w.heap ⟨b, 0 + j, none⟩ = some (flatK encB 2 l.toArray)[j]! := by
    rw [hb.cell, Nat.zero_add, ← flB l j hj, hun]
    rw [← ht, List.getElem?_take, if_pos (by rw [btsV_len]; omega)]
   exact ⟨hc, hb.frz⟩
  have eg : ∀ args w, (callFunc 230 args).run Tryz.prog w = .ok (.enter 230 args) w := enters_of Tryz.func230 (by kernel_rfl) rfl
  have hagg : ∀ w, (isAgg (Tryz.sortFL_ren.t 24)).run Tryz.prog w = .ok true w := fun w => by
   have h := isAgg_run (P := Tryz.prog) (t := Tryz.sortFL_ren.t 24) (d := (Tryz.prog.underlying (Tryz.sortFL_ren.t 24)).getD .bool) (by kernel_rfl) w
   rwa [show isAggD ((Tryz.prog.underlying (Tryz.sortFL_ren.t 24)).getD .bool) = true by kernel_rfl] at h
  have hsz : ∀ w, (Go.sizeOf (Tryz.sortFL_ren.t 24)).run Tryz.prog w = .ok 2 w := fun w => by
   have h := sizeOf_run (P := Tryz.prog) (t := Tryz.sortFL_ren.t 24) (by kernel_rfl) w
   rwa [show Tryz.prog.cellsOf (Tryz.sortFL_ren.t 24) = 2 by kernel_rfl] at h
  have hcon := AnyQ.slices_SortFunc Tryz.sortFL 2 hagg hsz encB (fun _ => rfl) (fun x v hv => by simp only [encB, List.mem_cons, List.not_mem_nil, or_false] at hv; rcases hv with rfl | rfl <;> rfl) cfB swoB 230 #[] b 0 s.cap l.toArray w eg (fun _ _ _ _ x y => cmpB x y _) hH hbl (by simp only [List.size_toArray]; omega)
  show Calls _ _ #[.slice s.a s.len s.cap, .func (.func 230) #[] #[]] w _
  rw [ha, show s.len = l.toArray.size by simp only [List.size_toArray]; omega]
  refine hcon.mono ?_
  rintro e w' ⟨rfl, d', n, os, hp, hso, rfl⟩
  have hds : d'.size = l.length := by simpa using hp.1
  have hperm : d'.toList.Perm l := by
   have h3 := hp.2.2
   rw [show l.toArray.size = d'.size by simp [hds]] at h3
   have e1 : (d'.extract 0 d'.size) = d' := by simp
   have e2 : (l.toArray.extract 0 d'.size) = l.toArray := by rw [hds]; simp
   rw [e1, e2] at h3
   simpa using h3
  obtain ⟨ty, hob⟩ := hb
  have hheap : (sortWorldK encB 2 w b 0 n d' os).heap = (w.heap.modify b (onCells (putCells id 0 (flatK encB 2 d')))) ++ os := rfl
  have hsm : (w.heap.modify b (onCells (putCells id 0 (flatK encB 2 d')))).size = w.heap.size := by simp
  refine ⟨⟨rfl, rfl, rfl, by rw [hheap, Array.size_append, hsm]; omega⟩, [], rfl, ?_⟩
  rw [hheap]
  have hext : Ext F w.heap ((w.heap.modify b (onCells (putCells id 0 (flatK encB 2 d')))) ++ os) := by
   refine ⟨by rw [Array.size_append, hsm]; omega, fun q hq hf => ?_⟩
   rw [Array.getElem?_append_left (by rw [hsm]; exact hq), Array.getElem?_modify, if_neg fun (e : b = q) => hf (by rw [← e]; exact hF)]
  refine hR (d'.toList.map unK) _ ?_ ?_ hext ⟨?_, .inr ⟨b, (putCells id 0 (flatK encB 2 d') cs.toArray).toList, hF, ha, ⟨ty, ?_⟩, hle, ?_, ?_⟩⟩
  ·rw [← hun]; exact hperm.map _
  ·rw [List.pairwise_map]
   rw [List.pairwise_iff_getElem]
   intro i j hi hj hij
   have h1 := hso i j (by omega) hij (by simp only [Array.length_toList] at hj; simp only [List.size_toArray]; omega)
   rw [getElem!_pos d' i (by simpa using hi), getElem!_pos d' j (by simpa using hj)] at h1
   have h1 := of_decide_eq_false h1
   unfold cfB at h1
   simp only [unK, Array.getElem_toList]
   omega
  ·rw [btsV_len, List.length_map, Array.length_toList, hds]; omega
  ·rw [Array.getElem?_append_left (by rw [hsm]; exact hbl), Array.getElem?_modify, if_pos rfl, hob]
   simp [onCells]
  ·simp [putCells, hcl]
  ·rw [btsV_len, List.length_map, Array.length_toList, hds]
   apply List.ext_getElem?
   intro j
   rw [List.getElem?_take]
   by_cases hj : j < l.length * 2
   ·rw [if_pos hj, flB d'.toList j (by simpa [hds] using hj)]
    have hjc : j < cs.length := by
     have : l.length * 2 <= s.cap * 2 := Nat.mul_le_mul_right _ (by omega)
     omega
    simp only [putCells, Array.getElem?_toList, Array.getElem?_mapIdx, List.getElem?_toArray, List.getElem?_eq_getElem hjc, Option.map_some]
    rw [if_pos ⟨by omega, by rw [size_flatK, hds]; omega⟩]
    simp
   ·rw [if_neg hj, List.getElem?_eq_none (by rw [btsV_len, List.length_map, Array.length_toList, hds]; omega)]
end Go.Ar
namespace Go.Proofs
open Go.Vc

set_option maxRecDepth 100000
def freeholdlaw12_Small.hint : Hn := .seq (.o 1) (.seq (.o 4) (.leaf))
def freeholdlaw12_Small.vc (σ : Hp) (R : Option Addr -> Hp -> Prop) : Prop :=
 freeholdlaw12_Begin_Own.call 8 64 1 1 1024 2 σ fun t3 v =>
 R t3 v
theorem freeholdlaw12_Small.of_vc {σ : Hp} {R : Option Addr -> Hp -> Prop} (hv : freeholdlaw12_Small.vc σ R) : freeholdlaw12_Small.call σ R :=
 fnK_sound Tryz.func45 (x := freeholdlaw12_Small.hint) (args := []) (rs := [.one .p]) (R := R) (Eq.mpr (by kernel_rfl) hv)
def freeholdlaw12_Begin_Own.hint : Hn := .seq (.o 2) (.seq (.o 8) (.seq (.o 9) (.seq (.seq (.o 2) (.cond (.seq (.o 1) (.leaf)) (.leaf))) (.seq (.o 2) (.leaf)))))
def freeholdlaw12_Begin_Own.vc (b : Int) (b1 : Int) (b2 : Int) (b3 : Int) (b4 : Int) (b5 : Int) (σ : Hp) (R : Option Addr -> Hp -> Prop) : Prop :=
 Nw (.cells #[.int .i64 b, .int .i64 b1, .int .i64 b2, .int .i64 b3, .int .i64 b4, .int .i64 b5] 46 (0, 0)) σ fun n1 v =>
 LdI .i64 (n1.add 0) v fun t9 =>
 freeholdref01_Make.call t9 v fun t10 t101 v1 =>
 LdI .i64 ((n1.add 1).add 0) v1 fun t16 =>
 LdI .i64 ((n1.add 1).add 1) v1 fun t161 =>
 LdI .i64 ((n1.add 1).add 2) v1 fun t162 =>
 LdI .i64 ((n1.add 1).add 3) v1 fun t163 =>
 LdI .i64 ((n1.add 1).add 4) v1 fun t164 =>
 heap_New.call t10 t16 t161 t162 t163 t164 v1 fun t17 t171 v2 =>
 If (t171 != 0) (R none v2)
 (R t17 v2)
theorem freeholdlaw12_Begin_Own.of_vc {b : Int} {b1 : Int} {b2 : Int} {b3 : Int} {b4 : Int} {b5 : Int} {σ : Hp} {R : Option Addr -> Hp -> Prop} (hv : freeholdlaw12_Begin_Own.vc b b1 b2 b3 b4 b5 σ R) : freeholdlaw12_Begin_Own.call b b1 b2 b3 b4 b5 σ R :=
 fnK_sound Tryz.func47 (x := freeholdlaw12_Begin_Own.hint) (args := [.agg #[.int .i64 b, .int .i64 b1, .int .i64 b2, .int .i64 b3, .int .i64 b4, .int .i64 b5]]) (rs := [.one .p]) (R := R) (Eq.mpr (by kernel_rfl) hv)
end Go.Proofs
namespace Go.Proofs
open Go.Vc

set_option maxRecDepth 100000
def freeholdlaw16_awake.hint : Hn := .seq (.o 1) (.seq (.o 2) (.seq (.seq (.o 2) (.cond (.seq (.o 1) (.leaf)) (.leaf))) (.seq (.o 7) (.seq (.o 7) (.seq (.o 8) (.seq (.o 8) (.seq (.o 7) (.seq (.o 8) (.seq (.o 9) (.seq (.o 8) (.seq (.reg (.seq [.op, .op, .op, .grd true 2 [.op, .op], .op, .grd true 2 [.op, .op], .op, .grd true 2 [.op, .op], .op, .grd true 3 [.op, .op, .op], .op, .grd true 2 [.op, .op], .op, .grd true 3 [.op, .op, .op], .op, .grd true 2 [.op, .op], .op, .grd true 2 [.op, .op], .op, .grd true 2 [.op, .op], .op, .grd true 2 [.op, .op], .op, .grd true 2 [.op, .op], .op, .grd true 2 [.op, .op], .op, .grd true 2 [.op, .op], .op])) (.leaf))))))))))))
def freeholdlaw16_awake.vc (σ : Hp) (R : Bool -> Hp -> Prop) : Prop :=
 freeholdlaw12_Small.call σ fun vh v =>
 If vh.isNone (R false v)
 (resize_Good.call vh 24 8 v fun t23 t231 v1 =>
 resize_Realloc.call vh 0 0 24 v1 fun t28 t281 v2 =>
 resize_Realloc.call vh 0 t28 20 v2 fun t34 t341 v3 =>
 resize_Realloc.call vh 0 t28 300 v3 fun t40 t401 v4 =>
 resize_Put.call vh 0 (ByteArray.mk #[97, 98, 99]) v4 fun t45 t451 v5 =>
 heap_Heap_Read.call vh t45 v5 fun t51 t511 v6 =>
 Ar .i64 (t45 + 8) fun t57 =>
 heap_Heap_Read.call vh t57 v6 fun t58 t581 v7 =>
 resize_Get.call vh t45 v7 fun t64 t641 v8 =>
 JnB (fun r v9 =>
 JnB (fun r1 v10 =>
 JnB (fun r2 v11 =>
 JnB (fun r3 v12 =>
 JnB (fun r4 v13 =>
 JnB (fun r5 v14 =>
 JnB (fun r6 v15 =>
 JnB (fun r7 v16 =>
 JnB (fun r8 v17 =>
 JnB (fun r9 v18 =>
 JnB (fun r10 v19 =>
 JnB (fun r11 v20 =>
 JnB (fun r12 v21 =>
 R r12 v21) fun J12 =>
 If r11 (J12 (t641 == 0) v20)
 (J12 false v20)) fun J11 =>
 If r10 (J11 (t64.toList == (ByteArray.mk #[97, 98, 99]).toList) v19)
 (J11 false v19)) fun J10 =>
 If r9 (J10 (t58 == 6513249) v18)
 (J10 false v18)) fun J9 =>
 If r8 (J9 (t51 == 3) v17)
 (J9 false v17)) fun J8 =>
 If r7 (J8 (t451 == 0) v16)
 (J8 false v16)) fun J7 =>
 If r6 (J7 (t401 == 0) v15)
 (J7 false v15)) fun J6 =>
 If r5 (J6 (t40 != 0) v14)
 (J6 false v14)) fun J5 =>
 If r4 (J5 (t40 != t28) v13)
 (J5 false v13)) fun J4 =>
 If r3 (J4 (t341 == 0) v12)
 (J4 false v12)) fun J3 =>
 If r2 (J3 (t34 == t28) v11)
 (J3 false v11)) fun J2 =>
 If r1 (J2 (t281 == 0) v10)
 (J2 false v10)) fun J1 =>
 If r (J1 (t28 == 4096) v9)
 (J1 false v9)) fun J =>
 If (t23 == 24) (J (t231 == 0) v8)
 (J false v8))
theorem freeholdlaw16_awake.of_vc {σ : Hp} {R : Bool -> Hp -> Prop} (hv : freeholdlaw16_awake.vc σ R) : freeholdlaw16_awake.call σ R :=
 fnK_sound Tryz.func18 (x := freeholdlaw16_awake.hint) (args := []) (rs := [.one .b]) (R := R) (Eq.mpr (by kernel_rfl) hv)
end Go.Proofs
namespace Go.Proofs
open Go.Vc

set_option maxRecDepth 100000
def freeholdlaw16_ResizeNone.hint : Hn := .seq (.o 1) (.seq (.o 3) (.sjn [(13, .one .p)] (.seq (.o 1) (.cond (.o 1) (.leaf))) (.seq (.o 9) (.seq (.o 10) (.seq (.o 10) (.seq (.o 9) (.seq (.o 9) (.seq (.o 8) (.seq (.reg (.seq [.op, .op, .op, .grd true 2 [.op, .op], .op, .grd true 2 [.op, .op], .op, .grd true 2 [.op, .op], .op, .grd true 2 [.op, .op], .op, .grd true 2 [.op, .op], .op, .grd true 3 [.op, .op, .op], .op, .grd true 2 [.op, .op], .op, .grd true 6 [.op, .op, .op, .op, .op, .op], .op, .grd true 2 [.op, .op], .op, .grd true 2 [.op, .op], .op, .grd true 2 [.op, .op], .op, .grd true 2 [.op, .op], .op, .grd true 1 [.op], .op])) (.leaf))))))))))
def freeholdlaw16_ResizeNone.vc (thread : Int) (a : Int) (b : Int) (l : Sl) (s : ByteArray) (vnone : Bool) (σ : Hp) (R : Bool -> Hp -> Prop) : Prop :=
 Nw (.cells #[.slice none 0 0, .int .i64 0, .int .i64 0, .int .i64 0, .int .i64 0, .int .i64 0, .pointer none, .slice none 0 0, .slice none 0 0, .map none] 32 (0, 0)) σ fun n27 v =>
 Jn [.p] (fun (vh : Option Addr) v1 =>
 resize_Good.call vh a b v1 fun t33 t331 v2 =>
 resize_Realloc.call vh thread a b v2 fun t41 t411 v3 =>
 resize_Calloc.call vh thread a b v3 fun t49 t491 v4 =>
 resize_Many.call vh thread l v4 fun t56 t561 v5 =>
 resize_Put.call vh thread s v5 fun t63 t631 v6 =>
 resize_Get.call vh a v6 fun t69 t691 v7 =>
 JnB (fun r v8 =>
 JnB (fun r1 v9 =>
 JnB (fun r2 v10 =>
 JnB (fun r3 v11 =>
 JnB (fun r4 v12 =>
 JnB (fun r5 v13 =>
 JnB (fun r6 v14 =>
 JnB (fun r7 v15 =>
 JnB (fun r8 v16 =>
 JnB (fun r9 v17 =>
 JnB (fun r10 v18 =>
 JnB (fun r11 v19 =>
 JnB (fun r12 v20 =>
 R r12 v20) fun J13 =>
 If r11 (freeholdlaw16_awake.call v19 fun t128 v21 =>
 J13 t128 v21)
 (J13 false v19)) fun J12 =>
 If r10 (J12 (t691 == 1) v18)
 (J12 false v18)) fun J11 =>
 If r9 (J11 (t69.toList == (ByteArray.mk #[]).toList) v17)
 (J11 false v17)) fun J10 =>
 If r8 (J10 (t631 == 1) v16)
 (J10 false v16)) fun J9 =>
 If r7 (J9 (t63 == 0) v15)
 (J9 false v15)) fun J8 =>
 If r6 (resize_Move.call vh a b thread v14 fun t108 v22 =>
 J8 (t108 == 1) v22)
 (J8 false v14)) fun J7 =>
 If r5 (J7 (t561 == 1) v13)
 (J7 false v13)) fun J6 =>
 If r4 (J6 (((t56.len : Nat) : Int) == 0) v12)
 (J6 false v12)) fun J5 =>
 If r3 (J5 (t491 == 1) v11)
 (J5 false v11)) fun J4 =>
 If r2 (J4 (t49 == 0) v10)
 (J4 false v10)) fun J3 =>
 If r1 (J3 (t411 == 1) v9)
 (J3 false v9)) fun J2 =>
 If r (J2 (t41 == 0) v8)
 (J2 false v8)) fun J1 =>
 If (t33 == 0) (J1 (t331 == 1) v7)
 (J1 false v7)) fun J =>
 If vnone (J none v)
 (J (some n27) v)
theorem freeholdlaw16_ResizeNone.of_vc {thread : Int} {a : Int} {b : Int} {l : Sl} {s : ByteArray} {vnone : Bool} {σ : Hp} {R : Bool -> Hp -> Prop} (hv : freeholdlaw16_ResizeNone.vc thread a b l s vnone σ R) : freeholdlaw16_ResizeNone.call thread a b l s vnone σ R :=
 fnK_sound Tryz.func3 (x := freeholdlaw16_ResizeNone.hint) (args := [.int .i64 thread, .int .i64 a, .int .i64 b, .slice l.a l.len l.cap, .string s, .bool vnone]) (rs := [.one .b]) (R := R) (Eq.mpr (by kernel_rfl) hv)
end Go.Proofs
namespace Go.Ar
open Go Go.Vc Go.Proofs


variable {σ u u' : Hp} {F : Rg} {L : LayH} {H H' : Hw} {N : Nat}
attribute [local irreducible] w0 w1 w2 w2s w3 w4 w5 nxt tb8
theorem cfSp (h : CfOk H) (sp : Sp) : CfOk { H with sp := sp } := ⟨h.1, h.2.1, h.2.2⟩
theorem HH.norm (h : HH u (fun b => N <= b) L H) (hN : N <= u.size) {L' : LayH} (h' : HH u' (Grow (fun b => N <= b) u) L' H') : HH u' (fun b => N <= b) L' H' :=
 h'.mono (fun b _ hb => by
  have hb : N <= b ∨ u.size <= b := hb
  show N <= b
  omega) h.o h.o2
theorem Small_ok (g : Gl σ) (gd : Gd σ) {R : Option Addr -> Hp -> Prop} (hR : ∀ σ' L N, Ext0 σ σ' -> σ.size <= N -> N <= σ'.size -> HH σ' (fun b => N <= b) L w0 -> R (some ⟨L.p, 0, none⟩) σ') : freeholdlaw12_Small.call σ R := by
 refine freeholdlaw12_Small.of_vc ?_
 unfold freeholdlaw12_Small.vc
 refine freeholdlaw12_Begin_Own.of_vc ?_
 unfold freeholdlaw12_Begin_Own.vc
 refine nw (cs := [.int .i64 8, .int .i64 64, .int .i64 1, .int .i64 1, .int .i64 1024, .int .i64 2]) fun v hz e hb => hb.rI rfl ?_
 refine Make_ok 8 (by decide) (by decide) fun s v1 e1 ha => ?_
 have hb1 := e1.blk hb id
 have e01 := e.trans e1
 refine hb1.rI2 rfl (hb1.rI2 rfl (hb1.rI2 rfl (hb1.rI2 rfl (hb1.rI2 rfl ?_))))
 refine HNew_ok ha (g.keep0 e01) (gd.keep0 e01) 64 1 1 1024 2 (fun hv => ?_) (fun _ hc => ?_) fun _ _ v2 L e2 h2 => ?_
 ·have := make_valid 8 (by decide) (by decide)
  rw [show ((8 : Nat) : Int) = 8 from rfl] at this
  rw [this] at hv; cases hv
 ·exact absurd hc (by decide)
 ·rw [w0_e] at h2
  exact ifF rfl (hR v2 L v1.size (e01.trans e2) e01.1 e2.1 h2)
set_option maxRecDepth 8000 in
theorem awake16_ok (g : Gl σ) (gd : Gd σ) {R : Bool -> Hp -> Prop} (hR : ∀ σ', Ext0 σ σ' -> R true σ') : freeholdlaw16_awake.call σ R := by
 refine freeholdlaw16_awake.of_vc ?_
 unfold freeholdlaw16_awake.vc
 refine Small_ok g gd fun v L N e hsN hNv h0 => ifF rfl ?_
 have c0 := w0_c
 refine Good_ok h0 c0 24 8 fun v1 e1 => ?_
 have h1 := h0.keep0 e1
 have n1 : N <= v1.size := Nat.le_trans hNv e1.1
 rw [w0_ok.2.1]
 have hw1 := w1_w
 refine Realloc_ok sortB h1 c0 (ReaR.first w0_ok.1 rfl (by decide) (by decide) hw1) (fun b hb => ?_) fun v2 ts2 e2 h2' => ?_
 ·rw [w0_u] at hb; cases hb
 have h2 := h1.norm n1 h2'
 have n2 : N <= v2.size := Nat.le_trans n1 e2.1
 have c1 := c0.keep (keep_whole hw1)
 have hu1 : ∀ b, usableH w1.1 4096 = some b -> 0 <= b /\ b <= 1000000000 := fun b hb => by
  rw [w1_u.1] at hb; cases hb; decide
 refine Realloc_ok sortB h2 c1 (ReaR.same (u := 24) w1_u.2.1 (by decide) (by decide) (by decide) w1_u.1 (by rw [w1_u.2.2]; decide)) hu1 fun v3 ts3 e3 h3' => ?_
 have h3 := h2.norm n2 h3'
 have n3 : N <= v3.size := Nat.le_trans n2 e3.1
 have hw2 := w2_w
 have hw3 := w3_w
 rw [w2s_e] at hw3
 refine Realloc_ok sortB h3 c1 (ReaR.moved (u := 24) (u2 := 320) w1_u.2.1 (by decide) (by decide) (by decide) w1_u.1 (by rw [w2_ok.2.2]; decide) hw2 w2_ok.2.1 (by decide) (by decide) (by decide) hw3) hu1 fun v4 ts4 e4 h4' => ?_
 have h4 := h3.norm n3 h4'
 have n4 : N <= v4.size := Nat.le_trans n3 e4.1
 have c2 := c1.keep (keep_whole hw2)
 have c3 : CfOk w3.1 := CfOk.keep (H := { w2.1 with sp := shiftS w2.1.sp 5120 4096 ((min (320 : Int) 24).toNat / 8) }) (cfSp c2 _) (keep_whole hw3)
 have hw4 : Whole w3.1 0 0 ((((abc.size + 7) / 8 + 1) * 8 : Nat) : Int) 8 0 w4.1 4352 0 := w4_w
 refine RPut_ok sortB h4 c3 (s := abc) (PutR.ok w0_ok.2.2 (by decide) hw4 (by decide) (by decide)) fun v5 ts5 e5 h5' => ?_
 rw [← w5_e] at h5'
 have h5 := h4.norm n4 h5'
 have n5 : N <= v5.size := Nat.le_trans n4 e5.1
 have c5 : CfOk w5 := by rw [w5_e]; exact cfSp (H := w4.1) (CfOk.keep (H := w3.1) c3 (keep_whole hw4)) _
 have e05 : Ext0 σ v5 := by
  have q1 := e.trans e1
  have q2 := Ext.newT q1 e2 fun b hb => .inr (by show σ.size <= b; have : N <= b := hb; omega)
  have q3 := Ext.newT q2 e3 fun b hb => .inr (by show σ.size <= b; have : N <= b := hb; omega)
  have q4 := Ext.newT q3 e4 fun b hb => .inr (by show σ.size <= b; have : N <= b := hb; omega)
  exact Ext.newT q4 e5 fun b hb => .inr (by show σ.size <= b; have : N <= b := hb; omega)
 refine hRead_ok' h5 4352 (by decide) fun v6 e6 => ?_
 rw [w5_ok.1]
 refine ar (by decide) (by decide) (hRead_ok' (h5.keep0 e6) 4360 (by decide) fun v7 e7 => ?_)
 rw [w5_ok.2.1]
 refine RGet_ok ((h5.keep0 e6).keep0 e7) c5 4352 (by decide) (fun u hu => ?_) (fun _ => by decide) fun v8 e8 => ?_
 ·rw [w5_ok.2.2.2.2] at hu; cases hu; decide
 rw [w5_ok.2.2.2.1]
 have hfin := hR v8 (((e05.trans e6).trans e7).trans e8)
 refine JnB.intro (ifT rfl (JnB.intro (ifT rfl (JnB.intro (ifT rfl (JnB.intro (ifT rfl (JnB.intro (ifT rfl (JnB.intro (ifT rfl (JnB.intro (ifT rfl (JnB.intro (ifT rfl (JnB.intro (ifT rfl (JnB.intro (ifT rfl (JnB.intro (ifT rfl (JnB.intro (ifT ?_ (JnB.intro (ifT ?_ hfin)))))))))))))))))))))))))
 ·rfl
 ·rw [w5_ok.2.2.1]; decide +kernel
theorem none16_ok (g : Gl σ) (gd : Gd σ) (thread a b : Int) (l : Sl) (s : ByteArray) (nn : Bool) {R : Bool -> Hp -> Prop} (hR : ∀ σ', Ext0 σ σ' -> R true σ') : freeholdlaw16_ResizeNone.call thread a b l s nn σ R := by
 refine freeholdlaw16_ResizeNone.of_vc ?_
 unfold freeholdlaw16_ResizeNone.vc
 refine nw (cs := unV) fun v hz e hb => jnPp (fun vh w => NoHeap vh w /\ Ext0 σ w) (fun vh w ⟨hn, ew⟩ => ?_) fun J hJ => ?_
 ·refine nGood_ok hn a b fun v2 e2 => nRealloc_ok (hn.keep0 e2) thread a b fun v3 e3 => nCalloc_ok ((hn.keep0 e2).keep0 e3) thread a b fun v4 e4 => nMany_ok (((hn.keep0 e2).keep0 e3).keep0 e4) thread l fun v5 e5 => nPut_ok ((((hn.keep0 e2).keep0 e3).keep0 e4).keep0 e5) thread s fun v6 e6 => nGet_ok (((((hn.keep0 e2).keep0 e3).keep0 e4).keep0 e5).keep0 e6) a fun v7 e7 => ?_
  have hn7 := (((((hn.keep0 e2).keep0 e3).keep0 e4).keep0 e5).keep0 e6).keep0 e7
  have e07 : Ext0 σ v7 := (((((ew.trans e2).trans e3).trans e4).trans e5).trans e6).trans e7
  refine JnB.intro (ifT rfl (JnB.intro (ifT rfl (JnB.intro (ifT rfl (JnB.intro (ifT rfl (JnB.intro (ifT rfl (JnB.intro (ifT rfl (JnB.intro (ifT rfl (JnB.intro (ifT rfl ?_)))))))))))))))
  refine nMove_ok hn7 a b thread fun v22 e22 => ?_
  refine JnB.intro (ifT rfl (JnB.intro (ifT rfl (JnB.intro (ifT rfl (JnB.intro (ifT ?_ (JnB.intro (ifT rfl ?_)))))))))
  ·decide +kernel
  ·exact awake16_ok (g.keep0 (e07.trans e22)) (gd.keep0 (e07.trans e22)) fun v21 e21 => hR v21 ((e07.trans e22).trans e21)
 ·refine iff_ (fun h1 => hJ _ _ ⟨.inl rfl, e⟩) fun h0 => hJ _ _ ⟨.inr ⟨_, rfl, hb⟩, e⟩
end Go.Ar
namespace Go.Ar
open Go Go.Vc Go.Proofs Go.ChangeShapes Go.WideShapes Go.RowKit Go.Deep


theorem bool_of_trod {H : Type} {enc : TypeId × Value -> H} {P : Program} {w : World} {base : Nat} {sp : Nat -> Bool} {held : Bool} {fuel : Nat} {t : TypeId} {c : Value} {y : DataW H × List MemPlace}
 (ht : P.underlying t = some .bool) (h : DataW.trod enc P w base sp held fuel t [c] = some y) : ∃ n, c = .bool n /\ y = (.lit (.bool n), []) := by
 cases fuel with
 | zero => simp [DataW.trod] at h
 | succ fuel =>
  cases c <;> simp [DataW.trod, ht] at h
  rename_i n
  exact ⟨n, rfl, by simpa using h.symm⟩
theorem two_cells {P : Program} {w : World} {t : TypeId} {f0 f1 : Field} {cs : Array Value} {fuel : Nat} {p : List MemPlace} {x y : Bool} (ht : P.underlying t = some (.struct #[f0, f1])) (hone : oneCellFields P #[f0, f1] = true) (hC : P.cellsOf t = 2)
 (h0 : P.underlying f0.type = some .bool) (h1 : P.underlying f1.type = some .bool) (h : DataW.trod (fun _ => ()) P w 0 (fun _ => true) false fuel t cs.toList = some (.agg [.lit (.bool x), .lit (.bool y)], p)) : cs = #[.bool x, .bool y] := by
 obtain ⟨ys, n, hn, hy, hlen, hyl, hff⟩ := DataW.trod_struct ht h
 obtain ⟨l⟩ := cs
 have hl2 : l.length = 2 := by rw [← hC]; simpa using hlen
 match l, hl2 with
 | [c0, c1], _ =>
  have k0 := hff 0 f0 rfl
  have k1 := hff 1 f1 rfl
  obtain ⟨o0, q0⟩ := hone_of hone 0 f0 rfl
  obtain ⟨o1, q1⟩ := hone_of hone 1 f1 rfl
  rw [o0, q0] at k0
  rw [o1, q1] at k1
  match ys, hyl with
  | [y0, y1], _ =>
   obtain ⟨n0, rfl, e0⟩ := bool_of_trod h0 (c := c0) (y := y0) (by simpa using k0)
   obtain ⟨n1, rfl, e1⟩ := bool_of_trod h1 (c := c1) (y := y1) (by simpa using k1)
   subst e0; subst e1
   simp at hy
   obtain ⟨⟨rfl, rfl⟩, _⟩ := hy
   rfl
theorem cell_of {w : World} {a : Addr} {v : Value} (h : w.cell? a = some v) : cell w.heap a = some v := h
end Go.Ar