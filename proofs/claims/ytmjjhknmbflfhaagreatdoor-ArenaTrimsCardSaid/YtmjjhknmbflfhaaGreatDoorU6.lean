/- Texts joined. -/
import Derived.Test.YtmjjhknmbflfhaaGreatDoorRows
import Derived.ChangeVars
import Derived.JoinedOf
import Derived.RowKit
import Derived.WalkKit
import Derived.ProofKit
import Derived.OpenShut
import Derived.ChangeOld
import Derived.Carry
import Derived.Test.YtmjjhknmbflfhaaGreatDoorU5
set_option linter.unusedVariables false
set_option linter.unusedSimpArgs false
namespace Go.Ar
open Go Go.Vc Go.Proofs
open Go.Bu (runOk giveS takeAt cnt)


variable {σ : Hp} {F : Rg} {L : LayW} {W : Wd} {k : Nat} {A : AR} {xs : List (Int × Int × Int)}
def theW (xs : List (Int × Int × Int)) (pages many room : Int) (us : List Act) : Wd := playW (newW (xs.map toCls) (nW pages) (roomW room) (someN many)) us
theorem acts_below {table : Sl} (ht : Acts σ table xs) : xs ≠ [] -> ∀ b o, table.a = some ⟨b, o, none⟩ -> b < σ.size := by
 intro hne b o ho
 cases xs with
 | nil => exact (hne rfl).elim
 | cons x l =>
  obtain ⟨b', o', h1, h2, _⟩ := ht.2 0 x.1 x.2.1 x.2.2 rfl
  rw [ho] at h1; cases h1; exact h2
theorem start_ok (g : Gl σ) (gd : Gd σ) {N : Nat} (hN : N <= σ.size) (hgl : Off fun b => N <= b) (hgd : ¬ N <= 2) {table : Sl} (ht : Acts σ table xs) (htN : xs ≠ [] -> ∀ b o, table.a = some ⟨b, o, none⟩ -> b < N) {pages many room : Int} (hp : 0 <= pages /\ pages <= 255) (hm : 0 <= many /\ many <= 255) (hr : 0 <= room /\ room <= 255)
 {l : Sl} {us : List Act} (hl : Acts6 σ N l us) (hgr : greatW us = false) {R : Bool -> Hp -> Prop} (hR : ∀ σ', Ext0 σ σ' -> R true σ') {K : Option Addr -> Hp -> Prop}
 (hK : validT xs = true -> ∀ σ' L, Ext (fun b => N <= b) σ σ' -> WOk σ' N L (theW xs pages many room us) table xs -> K (some ⟨L.w, 0, none⟩) σ') :
 freeholdlaw10_world.call table pages many room l σ fun t34 t341 v2 =>
  If (!t341) (freeholdref01_Valid.call table v2 fun t40 v3 =>
   JnB (fun r v4 =>
    R r v4) fun J =>
   If (!t40) (freeholdlaw10_alive.call v3 fun t43 v5 =>
    J t43 v5)
    (J false v3))
   (K t34 v2) := by
 obtain ⟨h40, hl40⟩ := greatW_no hgr
 refine world_ok g gd hN hgl hgd ht htN hp hm hr hl h40 hl40 (fun hv v2 e2 => ?_) fun hv v2 L e2 hw => ?_
 ·refine ifT rfl (RValid_ok (acts_keep0 ht e2) fun v3 e3 => JnB.intro ?_)
  have E := Ext.trans e2 e3
  rw [hv]
  exact ifT rfl (alive_ok (g.keep0 E) fun v5 e5 => hR v5 (Ext.trans E e5))
 ·exact ifF rfl (hK hv v2 L e2 hw)
theorem begin_ok (g : Gl σ) (gd : Gd σ) {table : Sl} (ht : Acts σ table xs) {pages many room : Int} (hp : 0 <= pages /\ pages <= 255) (hm : 0 <= many /\ many <= 255) (hr : 0 <= room /\ room <= 255)
 {l : Sl} {us : List Act} (hl : Acts6 σ σ.size l us) (hll : us.length <= 9223372036854775807) {R : Bool -> Hp -> Prop} (hR : ∀ σ', Ext0 σ σ' -> R true σ') {K : Option Addr -> Hp -> Prop}
 (hK : validT xs = true -> ∀ σ' L, Ext0 σ σ' -> WOk σ' σ.size L (theW xs pages many room us) table xs -> K (some ⟨L.w, 0, none⟩) σ') :
 freeholdlaw10_great.call l σ fun t26 v =>
  If t26 (freeholdlaw10_alive.call v fun t27 v1 =>
   R t27 v1)
   (freeholdlaw10_world.call table pages many room l v fun t34 t341 v2 =>
   If (!t341) (freeholdref01_Valid.call table v2 fun t40 v3 =>
    JnB (fun r v4 =>
     R r v4) fun J =>
    If (!t40) (freeholdlaw10_alive.call v3 fun t43 v5 =>
     J t43 v5)
     (J false v3))
    (K t34 v2)) := by
 refine great_ok hl hll (iff_ (fun hgr => alive_ok g hR) fun hgr => ?_)
 exact start_ok g gd (Nat.le_refl _) (gl_lt g) (by have := gd_lt gd; omega) ht (acts_below ht) hp hm hr hl hgr hR fun hv v2 L e2 hw => hK hv v2 L (e2.mono fun b hb hc => by omega) hw
theorem WOk.keep0 {N : Nat} {table : Sl} (h : WOk σ N L W table xs) {σ' : Hp} (e : Ext0 σ σ') : WOk σ' N L W table xs := ⟨h.d.keep0 e, h.t⟩
theorem pages_ok' (h : WH σ F L W) {R : Int -> Hp -> Prop} (hR : R (W.sp.st.length : Int) σ) : space_Space_Pages.call (some ⟨L.hs, 0, none⟩) σ R := Pages_ok h.sp hR
def ownedN (A : AR) (n : Nat) : Nat := (List.range n).countP fun (p : Nat) => ownsA A (p : Int)
theorem ownedN_le (A : AR) (n : Nat) : ownedN A n <= n := by
 unfold ownedN
 refine Nat.le_trans List.countP_le_length ?_
 rw [List.length_range]; exact Nat.le_refl _
theorem ownedN_succ (A : AR) (n : Nat) : ownedN A (n + 1) = ownedN A n + if ownsA A (n : Int) then 1 else 0 := by
 unfold ownedN
 rw [List.range_succ, List.countP_append]
 cases h : ownsA A (n : Int) <;> simp [h]
theorem owned_ok (h : WH σ F L W) (hn : W.sp.st.length <= 1000) (hk : W.ars[k]? = some A) {R : Int -> Hp -> Prop} (hR : R ((ownedN A W.sp.st.length : Nat) : Int) σ) : freeholdlaw10_World_owned.call (some ⟨L.w, 0, none⟩) (k : Int) σ R := by
 refine freeholdlaw10_World_owned.of_vc ?_
 unfold freeholdlaw10_World_owned.vc
 obtain ⟨Y, hy, hYh, hA⟩ := h.ar hk
 refine loop2 (a := .i .i64) (bb := .i .i64) (fun (n : Int) (t : Int) v => ∃ i : Nat, t = (i : Int) /\ i <= W.sp.st.length /\ v = σ /\ n = ((ownedN A i : Nat) : Int)) (fun _ t _ => W.sp.st.length - t.toNat) ⟨0, rfl, by omega, rfl, rfl⟩ ?_
 rintro n t v ⟨i, rfl, hi, rfl, rfl⟩
 refine nilP (h.hd.rP rfl (pages_ok' h (ifD (fun hlt => ?_) fun hge => ?_)))
 ·refine nilP (h.hd.rS rfl (h.rA hy (Owns_ok hA _ ?_)))
  have hle := ownedN_le A i
  have hs := ownedN_succ A i
  refine iff_ (fun ho => ?_) fun ho => ?_
  ·rw [if_pos ho] at hs
   exact arN (m := ownedN A i + 1) (by omega) (by omega) (arN (m := i + 1) (by omega) (by omega) ⟨⟨i + 1, rfl, by omega, rfl, by rw [hs]⟩, by omega⟩)
  ·rw [if_neg (by simp [ho])] at hs
   exact arN (m := i + 1) (by omega) (by omega) ⟨⟨i + 1, rfl, by omega, rfl, by rw [hs]; rfl⟩, by omega⟩
 ·have hii : i = W.sp.st.length := by omega
  subst hii
  exact hR
end Go.Ar
namespace Go.Proofs
open Go.Vc

set_option maxRecDepth 100000
def freeholdlaw10_ArenaTrims.hint : Hn := .seq (.o 1) (.seq (.seq (.o 2) (.cond (.seq (.o 2) (.leaf)) (.leaf))) (.seq (.o 11) (.seq (.seq (.o 2) (.cond (.seq (.reg (.seq [.op, .op, .op, .op, .grd true 1 [.op], .op])) (.leaf)) (.leaf))) (.seq (.o 5) (.seq (.o 8) (.seq (.o 2) (.seq (.o 4) (.seq (.o 3) (.seq (.seq (.reg (.seq [.op, .op, .op, .grd false 8 [.op, .op, .op, .op, .op, .op, .op, .op]])) (.cond (.seq (.o 1) (.leaf)) (.leaf))) (.seq (.seq (.o 1) (.block (.loop [(19, .one (.i .i64))] (.seq (.seq (.o 8) (.cond (.leaf) (.leaf))) (.seq (.block (.seq (.seq (.o 5) (.cond (.leaf) (.leaf))) (.seq (.o 1) (.seq (.seq (.o 3) (.block (.loop [(20, .one .b), (21, .one (.i .i64))] (.seq (.seq (.o 5) (.cond (.leaf) (.leaf))) (.seq (.block (.seq (.o 11) (.reg (.seq [.op, .op, .grd false 2 [.op, .op], .op])))) (.o 3)))))) (.seq (.o 2) (.cond (.seq (.o 1) (.leaf)) (.leaf))))))) (.o 3)))))) (.seq (.reg (.seq [.op, .op, .op, .op, .grd true 1 [.op], .op])) (.leaf))))))))))))
def freeholdlaw10_ArenaTrims.vc (table : Sl) (pages : Int) (many : Int) (room : Int) (l : Sl) (k : Int) (σ : Hp) (R : Bool -> Hp -> Prop) : Prop :=
 freeholdlaw10_great.call l σ fun t26 v =>
 If t26 (freeholdlaw10_alive.call v fun t27 v1 =>
 R t27 v1)
 (freeholdlaw10_world.call table pages many room l v fun t34 t341 v2 =>
 If (!t341) (freeholdref01_Valid.call table v2 fun t40 v3 =>
 JnB (fun r v4 =>
 R r v4) fun J =>
 If (!t40) (freeholdlaw10_alive.call v3 fun t43 v5 =>
 J t43 v5)
 (J false v3))
 (freeholdlaw10_World_number.call t34 0 k 0 0 0 ⟨none, 0, 0⟩ v2 fun n v6 =>
 NilP t34 fun a50 =>
 LdS (a50.add 1) v6 fun t52 =>
 Ix t52.a t52.len n 1 fun a54 =>
 LdP a54 v6 fun a =>
 arena_Arena_Release.call a 1024 v6 fun t57 t571 v7 =>
 freeholdlaw10_World_owned.call t34 n v7 fun old v8 =>
 arena_Arena_Trim.call a v8 fun gone v9 =>
 JnB (fun r1 v10 =>
 If r1 (R false v10)
 (LoopK [(.i .i64)] (fun I => I 0 v10) fun J2 (vh : Int) v11 =>
 NilP t34 fun a77 =>
 LdP (a77.add 0) v11 fun t79 =>
 space_Space_Pages.call t79 v11 fun t80 v12 =>
 Nz 16 <| Ar .i64 (t80.tdiv 16) fun t81 =>
 If (decide (vh < t81)) (Ar .i64 (vh * 16) fun t87 =>
 arena_Arena_Owns.call a t87 v12 fun t88 v13 =>
 If (!t88) (Ar .i64 (vh + 1) fun vh1 =>
 J2 vh1 v13)
 (Ar .i64 (vh * 16) fun p =>
 LoopK [.b, (.i .i64)] (fun I1 => I1 false p v13) fun J3 (used : Bool) (p1 : Int) v14 =>
 Ar .i64 (vh + 1) fun t94 =>
 Ar .i64 (t94 * 16) fun t95 =>
 If (decide (p1 < t95)) (Ar .i64 (p1 * 256) fun t102 =>
 arena_Arena_Find.call a t102 v14 fun t103 t1031 t1032 v15 =>
 JnB (fun r2 v16 =>
 Ar .i64 (p1 + 1) fun p2 =>
 J3 r2 p2 v16) fun J4 =>
 If used (J4 true v15)
 (J4 (t1032 == 0) v15))
 (If (!used) (R false v14)
 (Ar .i64 (vh + 1) fun vh2 =>
 J2 vh2 v14))))
 (arena_Arena_Trim.call a v12 fun t115 v17 =>
 JnB (fun r3 v18 =>
 R r3 v18) fun J5 =>
 If (t115 == 0) (freeholdlaw10_alive.call v17 fun t118 v19 =>
 J5 t118 v19)
 (J5 false v17)))) fun J1 =>
 If (decide (gone < 0)) (J1 true v9)
 (freeholdlaw10_World_owned.call t34 n v9 fun t68 v20 =>
 Ar .i64 (gone * 16) fun t71 =>
 Ar .i64 (old - t71) fun t72 =>
 J1 (t68 != t72) v20)))
theorem freeholdlaw10_ArenaTrims.of_vc {table : Sl} {pages : Int} {many : Int} {room : Int} {l : Sl} {k : Int} {σ : Hp} {R : Bool -> Hp -> Prop} (hv : freeholdlaw10_ArenaTrims.vc table pages many room l k σ R) : freeholdlaw10_ArenaTrims.call table pages many room l k σ R :=
 fnK_sound Tryz.func5 (x := freeholdlaw10_ArenaTrims.hint) (args := [.slice table.a table.len table.cap, .int .u8 pages, .int .u8 many, .int .u8 room, .slice l.a l.len l.cap, .int .i64 k]) (rs := [.one .b]) (R := R) (Eq.mpr (by kernel_rfl) hv)
end Go.Proofs
namespace Go.Ar
open Go Go.Vc Go.Proofs
open Go.Bu (runOk giveS takeAt cnt)


variable {σ : Hp} {xs : List (Int × Int × Int)}
theorem ownsA_iff {A : AR} {p : Nat} : ownsA A (p : Int) = true ↔ A.f p ≠ 0 := by
 unfold ownsA AR.f gf
 rw [decide_eq_true (show (0 : Int) <= (p : Int) by omega), Bool.true_and, Int.toNat_natCast, decide_eq_true_eq]
theorem hugeL_count {n : Nat} : ∀ (l : List Nat), l.Nodup -> (∀ g ∈ l, 16 * g + 16 <= n) -> (List.range n).countP (fun p => decide (p / 16 ∈ l)) = 16 * l.length
 | [], _, _ => by simp
 | g :: l, hn, hl => by
  have hn' := List.nodup_cons.1 hn
  have ih := hugeL_count l hn'.2 fun x hx => hl x (by simp [hx])
  have hg := hl g (by simp)
  have e16 : (List.range n).countP (fun p => p / 16 == g) = 16 := by
   have := count_list (n := n) (l := (List.range 16).map (16 * g + ·)) (List.Pairwise.map (R := (· ≠ ·)) _ (fun a b hab e => hab (by omega)) List.nodup_range) (fun x hx => by
    obtain ⟨i, hi, rfl⟩ := List.mem_map.1 hx
    have := List.mem_range.1 hi; omega) (f := fun p => p / 16 == g) (fun p _ => by
    simp only [beq_iff_eq, List.mem_map, List.mem_range]
    constructor
    ·intro h; exact ⟨p - 16 * g, by omega, by omega⟩
    ·rintro ⟨i, hi, rfl⟩; omega)
   rw [this]; simp
  have := Go.Bu.countP_add (List.range n) (fun p => decide (p / 16 ∈ l)) (fun p => p / 16 == g) (fun p => decide (p / 16 ∈ g :: l)) fun p _ => by
   by_cases h1 : p / 16 = g
   ·have : ¬ p / 16 ∈ l := fun h => hn'.1 (h1 ▸ h)
    rw [decide_eq_false this, decide_eq_true (by simp [h1]), h1]; simp
   ·have : (p / 16 == g) = false := by simpa using h1
    rw [this]
    by_cases h2 : p / 16 ∈ l
    ·rw [decide_eq_true h2, decide_eq_true (by simp [h2])]; rfl
    ·rw [decide_eq_false h2, decide_eq_false (by simp [h1, h2])]; rfl
  rw [List.length_cons]; omega
theorem trims_law {B : AR} {sp : Sp} (ga : GA B) (ow : Ow B sp) (h2 : ∀ p, B.f p ≠ 2) :
 ownedN (trimS B sp).1 B.n + 16 * trimV B = ownedN B B.n ∧
 (∀ h : Nat, ownsA (trimS B sp).1 ((h * 16 : Nat) : Int) = true -> ∃ p, h * 16 <= p /\ p < h * 16 + 16 /\ (findA (trimS B sp).1 ((p * 256 : Nat) : Int)).isSome = true) ∧
 trimV (trimS B sp).1 = 0 := by
 have t := trimS_ok ga ow
 have gc := t.st.ga
 have hmem : ∀ g, g ∈ those B.st 0 ↔ 16 * g + 16 <= B.n /\ ∀ p, p / 16 = g -> 2 <= B.f p := fun g => mem_those ga
 refine ⟨?_, fun h ho => ?_, ?_⟩
 ·have hl := hugeL_count (n := B.n) (those B.st 0) (those_nodup _ _) fun g hg => ((hmem g).1 hg).1
  have := Go.Bu.countP_add (List.range B.n) (fun (p : Nat) => ownsA (trimS B sp).1 (p : Int)) (fun p => decide (p / 16 ∈ those B.st 0)) (fun (p : Nat) => ownsA B (p : Int)) fun p _ => by
   have e := t.f p
   by_cases hp : p / 16 ∈ those B.st 0
   ·rw [if_pos hp] at e
    have h1 : ownsA (trimS B sp).1 (p : Int) = false := by apply Bool.eq_false_iff.2; intro hx; exact ownsA_iff.1 hx e
    have h3 : ownsA B (p : Int) = true := ownsA_iff.2 (by have := ((hmem _).1 hp).2 p rfl; omega)
    rw [h1, h3, decide_eq_true hp]; rfl
   ·rw [if_neg hp] at e
    have h1 : ownsA (trimS B sp).1 (p : Int) = ownsA B (p : Int) := by
     rw [Bool.eq_iff_iff, ownsA_iff, ownsA_iff, e]
    rw [h1, decide_eq_false hp]; cases ownsA B (p : Int) <;> rfl
  unfold ownedN trimV
  omega
 ·have hf := ownsA_iff.1 ho
  have hC : ∀ p, p / 16 = h -> (trimS B sp).1.f p ≠ 0 := fun p hp => fun h0 => hf ((gc.pg.hp2 (q := h * 16) (by omega)).1 h0)
  have hnl : h ∉ those B.st 0 := fun hm => by
   have e := t.f (h * 16)
   rw [show h * 16 / 16 = h by omega, if_pos hm] at e
   exact hf e
  have eC : ∀ p, p / 16 = h -> (trimS B sp).1.f p = B.f p := fun p hp => by rw [t.f, hp, if_neg hnl]
  have hfit : 16 * h + 16 <= B.n := by
   have h16 := ga.pg.n16
   have := gc.pg.lt hf
   rw [t.st.n] at this; omega
  have hex : ∃ p, p / 16 = h /\ B.f p = 1 := by
   apply Classical.byContradiction; intro hno
   refine hnl ((hmem h).2 ⟨hfit, fun p hp => ?_⟩)
   have h1 : B.f p ≠ 1 := fun e => hno ⟨p, hp, e⟩
   have h3 := hC p hp
   rw [eC p hp] at h3
   omega
  obtain ⟨p, hp, h1⟩ := hex
  have h1' : (trimS B sp).1.f p = 1 := by rw [eC p hp]; exact h1
  have hw := (gc.pg.us p).1 h1'
  rcases gc.owb p with h41 | hcl
  ·obtain ⟨r, hr, r1, r2⟩ := (gc.ow41 p).1 h41
   refine ⟨p, by omega, by omega, ?_⟩
   rw [findA_run gc hr (x := p * 256) (by omega) (by omega)]; rfl
  ·obtain ⟨j, hj⟩ : ∃ j, (trimS B sp).1.ow p = j + 1 := ⟨(trimS B sp).1.ow p - 1, by omega⟩
   obtain ⟨c, ss, _, hc, _⟩ := gc.cl (k := j) (by omega)
   obtain ⟨s, hs, s1, s2⟩ := (gc.ow j c ss hc p).1 hj
   have h1p := gc.one j c ss hc s hs
   have hCc := gc.cen j c ss hc
   have hpg := hCc.pg
   obtain ⟨i, hi⟩ := List.getElem?_of_mem hs
   have hn1 := hCc.ok.n_pos
   refine ⟨s.st, by omega, by omega, ?_⟩
   have hat : at_ c s 0 = s.st * 256 := by unfold at_; omega
   rw [findA_obj gc hc hi (i := 0) (by omega) (x := s.st * 256) (by omega) (by have := hCc.pos; omega)]; rfl
 ·unfold trimV
  have : those (trimS B sp).1.st 0 = [] := by
   rw [List.eq_nil_iff_forall_not_mem]
   intro g hg
   obtain ⟨g1, g2⟩ := (mem_those gc).1 hg
   rw [t.st.n] at g1
   by_cases hm : g ∈ those B.st 0
   ·have := g2 (16 * g) (by omega)
    rw [t.f, show 16 * g / 16 = g by omega, if_pos hm] at this; omega
   ·refine hm ((hmem g).2 ⟨g1, fun p hp => ?_⟩)
    have := g2 p hp
    rw [t.f, hp, if_neg hm] at this; exact this
  rw [this]; rfl
theorem LTrims_ok (g : Gl σ) (gd : Gd σ) {table : Sl} (ht : Acts σ table xs) {pages many room k0 : Int} (hp : 0 <= pages /\ pages <= 255) (hm : 0 <= many /\ many <= 255) (hr : 0 <= room /\ room <= 255)
 {l : Sl} {us : List Act} (hl : Acts6 σ σ.size l us) (hll : us.length <= 9223372036854775807) {R : Bool -> Hp -> Prop} (hR : ∀ σ', Ext0 σ σ' -> R true σ') : freeholdlaw10_ArenaTrims.call table pages many room l k0 σ R := by
 refine freeholdlaw10_ArenaTrims.of_vc ?_
 unfold freeholdlaw10_ArenaTrims.vc
 refine begin_ok g gd ht hp hm hr hl hll hR fun hv v2 L e2 hw => ?_
 generalize theW xs pages many room us = W at hw
 have hk1 := hw.d.k1; have hk2 := hw.d.k2
 have hn := hw.d.n
 have wi := hw.d.wi
 refine number_ok hw.d.h (by omega) (by omega) _ _ _ _ _ _ fun v6 e6 => ?_
 have hw6 := hw.keep0 e6
 have h6 := hw6.d.h
 have hkl := (num_lt k0 (n := W.ars.length) (by omega)).1
 have hA : W.ars[numW W.ars.length k0]? = some (W.ars[numW W.ars.length k0]'hkl) := List.getElem?_eq_getElem _
 generalize (W.ars[numW W.ars.length k0]'hkl) = A at hA
 generalize numW W.ars.length k0 = k at hA
 have hkl := (List.getElem?_eq_some_iff.1 hA).1
 have ga := wi.ga k A hA
 have ow := wi.ow k A hA
 obtain ⟨Y, G, H, hy, _, hW2, put⟩ := h6.stepAS hA
 refine nilP (h6.hd.rS rfl (h6.rA hy ?_))
 have hAn : A.n = W.sp.st.length := ow.l.symm
 obtain ⟨s, q1, q2, q3⟩ := relS_st ga ow 1024
 have hno2 := (relS_ok ga ow (want := 1024) (by omega)).2 (by omega)
 refine ARelease_ok hW2 1024 (backed_few ga (by omega) (wi.low k A hA)) fun v7 F' H' hf ex hW3 => ?_
 rw [← traT_eq s.tb s.room q2] at hW3
 obtain ⟨e7, h7⟩ := put v7 _ _ F' H' ex hf hW3
 have E7 : Ext0 σ v7 := Ext.fresh (Ext.trans e2 e6) e7 fun b hb => hb
 generalize relS A W.sp 1024 = rB at *
 obtain ⟨B, sp1⟩ := rB
 simp only at s hno2 h7
 have hBn : B.n = W.sp.st.length := by rw [s.n, hAn]
 have hsl : sp1.st.length = W.sp.st.length := by rw [s.ow.l, hBn]
 have hB : (W.ars.set k B)[k]? = some B := List.getElem?_set_self hkl
 have tl := trims_law s.ga s.ow hno2
 have t := trimS_ok s.ga s.ow
 refine owned_ok h7 (by show sp1.st.length <= 1000; omega) hB ?_
 show arena_Arena_Trim.call _ _ _
 obtain ⟨Y2, G2, H2, hy2, _, hW22, put2⟩ := h7.stepAS hB
 have hy2' : L.ys[k]? = some Y2 := hy2
 rw [hy] at hy2'; cases hy2'
 refine ATrim_ok hW22 fun v9 ex2 hW4 => ?_
 rw [← traT_eq t.st.tb t.st.room t.tra] at hW4
 obtain ⟨e9, h9⟩ := put2 v9 _ _ (Cut G2 v7) (Cut H2 v7) ex2 ⟨fun b hb => .inl hb.1, fun b hb => hb.1⟩ hW4
 have z6 := e2.1; have z7 := e6.1; have z7' := E7.1; have z77 := e7.1
 have E9 : Ext0 σ v9 := Ext.fresh E7 e9 fun b hb => by
  rcases hb with hb | hb
  ·exact hb
  ·omega
 generalize trimS B sp1 = rC at *
 obtain ⟨C, sp2⟩ := rC
 simp only at tl t h9
 have hCk : ((W.ars.set k B).set k C)[k]? = some C := List.getElem?_set_self (by simp; exact hkl)
 have hsl2 : sp2.st.length = W.sp.st.length := by rw [t.st.ow.l, t.st.n, hBn]
 have hBn1 : sp1.st.length = B.n := by rw [hsl, hBn]
 have hown : ownedN C W.sp.st.length + 16 * trimV B = ownedN B W.sp.st.length := by rw [← hBn]; exact tl.1
 have hole := ownedN_le B W.sp.st.length
 have gc := t.st.ga
 refine JnB.intro (ifF (by simp) ?_)
 refine owned_ok h9 (by show sp2.st.length <= 1000; omega) hCk ?_
 show Ar .i64 ((trimV B : Nat) * 16) _
 refine arN (m := trimV B * 16) (by omega) (by omega) (arN (m := ownedN C W.sp.st.length) ?_ (by omega) ?_)
 ·show ((ownedN B sp1.st.length : Nat) : Int) - _ = _
  rw [hsl]; omega
 refine ifF (by show (((ownedN C sp2.st.length : Nat) : Int) != _) = false; rw [hsl2]; simp) ?_
 have hn16 : W.sp.st.length % 16 = 0 := by rw [← hAn]; exact ga.pg.n16
 refine loop1 (a := .i .i64) (fun (t : Int) w => ∃ h : Nat, t = (h : Int) /\ h <= W.sp.st.length / 16 /\ Ext0 v9 w) (fun t _ => W.sp.st.length / 16 - t.toNat) ⟨0, rfl, by omega, Ext.refl _ _⟩ ?_
 rintro t' v11 ⟨h, rfl, hh, e11⟩
 have h11 := h9.keep0 e11
 refine nilP (h11.hd.rP rfl (pages_ok' h11 (nz (by decide) (arN (m := W.sp.st.length / 16) (by show ((sp2.st.length : Nat) : Int).tdiv 16 = _; rw [hsl2, tdiv_nn (by omega)]; simp) (by omega) ?_))))
 obtain ⟨Y3, hy3, _, hAH⟩ := h11.ar hCk
 have hy3' : L.ys[k]? = some Y3 := hy3
 rw [hy] at hy3'; cases hy3'
 refine ifD (fun hlt => ?_) fun hge => ?_
 ·refine arN (m := h * 16) (by omega) (by omega) (Owns_ok hAH _ ?_)
  refine iff_ (fun hno => ?_) fun hyes => ?_
  ·exact arN (m := h + 1) (by omega) (by omega) ⟨⟨h + 1, rfl, by omega, e11⟩, by omega⟩
  have hyes : ownsA C ((h * 16 : Nat) : Int) = true := by simpa using hyes
  obtain ⟨p0, r1, r2, r3⟩ := tl.2.1 h hyes
  refine arN (m := h * 16) (by omega) (by omega) ?_
  refine loop2 (a := .b) (bb := .i .i64) (fun (u : Bool) (t : Int) w => ∃ p : Nat, t = (p : Int) /\ h * 16 <= p /\ p <= h * 16 + 16 /\ Ext0 v11 w /\ (p0 < p -> u = true)) (fun _ t _ => h * 16 + 16 - t.toNat) ⟨h * 16, rfl, Nat.le_refl _, by omega, Ext.refl _ _, fun hx => by omega⟩ ?_
  rintro (u : Bool) t' v14 ⟨p, rfl, hp1, hp2, e14, hu⟩
  have h14 := hAH.keep0 e14
  refine arN (m := h + 1) (by omega) (by omega) (arN (m := (h + 1) * 16) (by omega) (by omega) (ifD (fun hlt2 => ?_) fun hge2 => ?_))
  ·refine arN (m := p * 256) (by omega) (by omega) ?_
   have next : ∀ (r : Bool) w, Ext0 v14 w -> (p0 = p -> r = true) -> (u = true -> r = true) -> Ar .i64 ((p : Int) + 1) fun p2 => (∃ p : Nat, p2 = (p : Int) /\ h * 16 <= p /\ p <= h * 16 + 16 /\ Ext0 v11 w /\ (p0 < p -> r = true)) /\ h * 16 + 16 - p2.toNat < h * 16 + 16 - (p : Int).toNat := fun r w ew k1 k2 =>
    arN (m := p + 1) (by omega) (by omega) ⟨⟨p + 1, rfl, by omega, by omega, Ext.trans e14 ew, fun hx => by
     by_cases e : p0 = p
     ·exact k1 e
     ·exact k2 (hu (by omega))⟩, by omega⟩
   refine Find_ok h14 gc.runsOk _ (by unfold I63; omega) (fun w a b ew hf => JnB.intro ?_) fun w ew hf => JnB.intro ?_
   ·refine iff_ (fun hux => next true w ew (fun _ => rfl) fun _ => rfl) fun hux => ?_
    exact next _ w ew (fun _ => rfl) fun _ => rfl
   ·refine iff_ (fun hux => next true w ew (fun _ => rfl) fun _ => rfl) fun hux => ?_
    refine next _ w ew (fun e => ?_) fun hx => by rw [hux] at hx; cases hx
    subst e
    rw [hf] at r3; cases r3
  ·have hut := hu (by omega)
   rw [hut]
   exact ifF rfl (arN (m := h + 1) (by omega) (by omega) ⟨⟨h + 1, rfl, by omega, Ext.trans e11 e14⟩, by omega⟩)
 ·obtain ⟨Y4, G4, H4, hy4, _, hW24, put4⟩ := h11.stepAS hCk
  have hy4' : L.ys[k]? = some Y4 := hy4
  rw [hy] at hy4'; cases hy4'
  refine ATrim_ok hW24 fun v17 ex4 hW5 => JnB.intro ?_
  have E11 := Ext.trans E9 e11
  have E17 : Ext0 σ v17 := by
   have t4 := trimS_ok gc t.st.ow
   rw [← traT_eq t4.st.tb t4.st.room t4.tra] at hW5
   obtain ⟨e17, _⟩ := put4 v17 _ _ (Cut G4 v11) (Cut H4 v11) ex4 ⟨fun b hb => .inl hb.1, fun b hb => hb.1⟩ hW5
   exact Ext.fresh E11 e17 fun b hb => by
    rcases hb with (hb | hb) | hb
    ·exact hb
    ·omega
    ·omega
  have h0 : ((trimV C : Nat) : Int) = 0 := by rw [tl.2.2]; rfl
  rw [h0]
  exact ifT rfl (alive_ok (g.keep0 E17) fun w ew => hR w (Ext.trans E17 ew))
end Go.Ar
namespace Go.Ar
open Go Go.Vc Go.Proofs Go.ChangeShapes Go.WideShapes Go.RowKit Go.Deep


theorem bool_of_trod {H : Type} {enc : TypeId × Value -> H} {P : Program} {w : World} {base : Nat} {sp : Nat -> Bool} {held : Bool} {fuel : Nat} {t : TypeId} {c : Value} {y : DataW H × List MemPlace}
 (ht : P.underlying t = some .bool) (h : DataW.trod enc P w base sp held fuel t [c] = some y) : ∃ n, c = .bool n /\ y = (.lit (.bool n), []) := by
 cases fuel with
 | zero => simp [DataW.trod] at h
 | succ fuel =>
  cases c <;> simp [DataW.trod, ht] at h
  rename_i n
  exact ⟨n, rfl, by simpa using h.symm⟩
theorem two_cells {P : Program} {w : World} {t : TypeId} {f0 f1 : Field} {cs : Array Value} {fuel : Nat} {p : List MemPlace} {x y : Bool} (ht : P.underlying t = some (.struct #[f0, f1])) (hone : oneCellFields P #[f0, f1] = true) (hC : P.cellsOf t = 2)
 (h0 : P.underlying f0.type = some .bool) (h1 : P.underlying f1.type = some .bool) (h : DataW.trod (fun _ => ()) P w 0 (fun _ => true) false fuel t cs.toList = some (.agg [.lit (.bool x), .lit (.bool y)], p)) : cs = #[.bool x, .bool y] := by
 obtain ⟨ys, n, hn, hy, hlen, hyl, hff⟩ := DataW.trod_struct ht h
 obtain ⟨l⟩ := cs
 have hl2 : l.length = 2 := by rw [← hC]; simpa using hlen
 match l, hl2 with
 | [c0, c1], _ =>
  have k0 := hff 0 f0 rfl
  have k1 := hff 1 f1 rfl
  obtain ⟨o0, q0⟩ := hone_of hone 0 f0 rfl
  obtain ⟨o1, q1⟩ := hone_of hone 1 f1 rfl
  rw [o0, q0] at k0
  rw [o1, q1] at k1
  match ys, hyl with
  | [y0, y1], _ =>
   obtain ⟨n0, rfl, e0⟩ := bool_of_trod h0 (c := c0) (y := y0) (by simpa using k0)
   obtain ⟨n1, rfl, e1⟩ := bool_of_trod h1 (c := c1) (y := y1) (by simpa using k1)
   subst e0; subst e1
   simp at hy
   obtain ⟨⟨rfl, rfl⟩, _⟩ := hy
   rfl
theorem cell_of {w : World} {a : Addr} {v : Value} (h : w.cell? a = some v) : cell w.heap a = some v := h
end Go.Ar
namespace Go.Ar
open Go Go.Vc Go.Proofs Go.ChangeShapes Go.WideShapes Go.RowKit Go.Deep


section
variable {H : Type} {enc : TypeId × Value -> H} {P : Program} {w : World}
theorem i63_of {x : Int} (h : (Lit.int .i64 x).wf = true) : I63 x := by
 unfold I63
 simp [Lit.wf, IntKind.min, IntKind.max, IntKind.bits, IntKind.signed] at h
 omega
theorem u8_of {x : Int} (h : (Lit.int .u8 x).wf = true) : 0 <= x /\ x <= 255 := by
 simp [Lit.wf, IntKind.min, IntKind.max, IntKind.bits, IntKind.signed] at h
 omega
theorem ints_open {t e : TypeId} {fuel : Nat} {c : Value} {y : DataW H × List MemPlace} (ht : P.underlying t = some (.slice e)) (hC : P.cellsOf e = 1) (he : P.underlying e = some (.int .i64)) (h : DataW.trod enc P w 0 (fun _ => true) true fuel t [c] = some y) :
 ∃ (s : Sl) (l : List Int), c = .slice s.a s.len s.cap /\ SlR s 1 (intsI l) w.heap (fun b => b < w.heap.size) /\ s.len <= s.cap /\ (∀ x ∈ l, I63 x) /\ l.length <= 9223372036854775807 := by
 rcases open_slice1 ht hC h with ⟨hcs, _⟩ | ⟨a, len, cap, m, n, V, D, Pl, hcs, _, hl, hm, hmm, _, hV⟩
 ·simp only [List.cons.injEq, and_true] at hcs
  exact ⟨⟨none, 0, 0⟩, [], hcs, SlR.nil _ _ _ _, Nat.le_refl _, by simp, by simp⟩
 ·simp only [List.cons.injEq, and_true] at hcs
  have hmc : m = cap := by simpa using hmm
  have hx : ∀ i, i < len -> ∃ x : Int, cell w.heap (a.add i) = some (.int .i64 x) /\ I63 x := fun i hi => by
   obtain ⟨h1, h2⟩ := hV i (by omega)
   obtain ⟨x, hx1, _, hw⟩ := DataW.trod_int he h2
   simp only [List.cons.injEq, and_true] at hx1
   rw [hx1] at h1
   exact ⟨x, h1, i63_of hw⟩
  let g : Nat -> Int := fun i => if hi : i < len then (hx i hi).choose else 0
  have hg : ∀ i, (hi : i < len) -> cell w.heap (a.add i) = some (.int .i64 (g i)) /\ I63 (g i) := fun i hi => by
   have := (hx i hi).choose_spec
   simp only [g, hi, dif_pos]; exact this
  refine ⟨⟨some a, len, cap⟩, (List.range len).map g, hcs, ⟨by simp [intsI], ?_⟩, hl, fun x hx => ?_, ?_⟩
  ·rcases Nat.eq_zero_or_pos len with h0 | h0
   ·left; subst h0; rfl
   ·right
    have hc0 := (hg 0 h0).1
    have hsp := cell_lt hc0
    rw [Addr.add_zero'] at hsp
    obtain ⟨b, o, s⟩ := a
    have hs : s = none := hsp.2
    subst hs
    have hob : ∃ arr ty z, w.heap[b]? = some (.cells arr ty z) := by
     rw [add_lit] at hc0
     unfold cell at hc0
     split at hc0
     ·rename_i arr ty z heq; exact ⟨arr, ty, z, heq⟩
     ·cases hc0
    obtain ⟨arr, ty, z, hobj⟩ := hob
    refine ⟨b, o, arr.toList, hsp.1, rfl, ⟨ty, z, by simpa using hobj⟩, fun j hj => ?_⟩
    have hj' : j < len := by simpa [intsI] using hj
    have hc := (hg j hj').1
    rw [add_lit] at hc
    unfold cell at hc
    simp only [hobj] at hc
    rw [Array.getElem?_toList]
    simp [intsI, List.getElem?_range hj']
    simpa using hc
  ·obtain ⟨i, hi, rfl⟩ := List.mem_map.1 hx
   exact (hg i (List.mem_range.1 hi)).2
  ·have : maxLen = 9223372036854775807 := rfl
   simp; omega
theorem act_cells {t ei : TypeId} {f0 f1 f2 f3 f4 f5 : Field} {fuel : Nat} {cs : List Value} {y : DataW H × List MemPlace}
 (ht : P.underlying t = some (.struct #[f0, f1, f2, f3, f4, f5])) (hone : oneCellFields P #[f0, f1, f2, f3, f4, f5] = true) (hC : P.cellsOf t = 6)
 (h0 : P.underlying f0.type = some (.int .i64)) (h1 : P.underlying f1.type = some (.int .i64)) (h2 : P.underlying f2.type = some (.int .i64)) (h3 : P.underlying f3.type = some (.int .i64)) (h4 : P.underlying f4.type = some (.int .i64)) (h5 : P.underlying f5.type = some (.slice ei)) (hCi : P.cellsOf ei = 1) (hei : P.underlying ei = some (.int .i64))
 (h : DataW.trod enc P w 0 (fun _ => true) true fuel t cs = some y) :
 ∃ (x : Act) (s : Sl), cs = [.int .i64 x.kd, .int .i64 x.ar, .int .i64 x.cl, .int .i64 x.a, .int .i64 x.b, .slice s.a s.len s.cap] /\ SlR s 1 (intsI x.l) w.heap (fun b => b < w.heap.size) /\ s.len <= s.cap /\ I63 x.a /\ (∀ z ∈ x.l, I63 z) /\ x.l.length <= 9223372036854775807 := by
 obtain ⟨ys, n, hn, hy, hlen, hyl, hff⟩ := DataW.trod_struct ht h
 have hl6 : cs.length = 6 := by rw [← hC]; exact hlen
 match cs, hl6 with
 | [c0, c1, c2, c3, c4, c5], _ =>
  have one : ∀ (j : Nat) (f : Field) (c : Value), (#[f0, f1, f2, f3, f4, f5] : Array Field)[j]? = some f -> [c0, c1, c2, c3, c4, c5][j]? = some c -> ∃ z, DataW.trod enc P w 0 (fun _ => true) true n f.type [c] = some z := by
   intro j f c hj hc
   obtain ⟨ho, hk⟩ := hone_of hone j f hj
   have h3 := hff j f hj
   rw [ho, hk] at h3
   have hjl := (List.getElem?_eq_some_iff.1 hc).1
   have e1 : ([c0, c1, c2, c3, c4, c5].drop j).take 1 = [c] := by
    rw [List.drop_eq_getElem_cons hjl, List.take_succ_cons, List.take_zero, (List.getElem?_eq_some_iff.1 hc).2]
   rw [e1] at h3
   have hys : ys[j]? = some (ys[j]'(by rw [hyl]; simp at hjl ⊢; omega)) := List.getElem?_eq_getElem _
   rw [hys] at h3
   exact ⟨_, h3⟩
  have int : ∀ (j : Nat) (f : Field) (c : Value), (#[f0, f1, f2, f3, f4, f5] : Array Field)[j]? = some f -> [c0, c1, c2, c3, c4, c5][j]? = some c -> P.underlying f.type = some (.int .i64) -> ∃ x : Int, c = .int .i64 x /\ I63 x := by
   intro j f c hj hc hu
   obtain ⟨z, hz⟩ := one j f c hj hc
   obtain ⟨x, hx1, _, hw⟩ := DataW.trod_int hu hz
   simp only [List.cons.injEq, and_true] at hx1
   exact ⟨x, hx1, i63_of hw⟩
  obtain ⟨x0, rfl, _⟩ := int 0 f0 c0 rfl rfl h0
  obtain ⟨x1, rfl, _⟩ := int 1 f1 c1 rfl rfl h1
  obtain ⟨x2, rfl, _⟩ := int 2 f2 c2 rfl rfl h2
  obtain ⟨x3, rfl, hx3⟩ := int 3 f3 c3 rfl rfl h3
  obtain ⟨x4, rfl, _⟩ := int 4 f4 c4 rfl rfl h4
  obtain ⟨z, hz⟩ := one 5 f5 c5 rfl rfl
  obtain ⟨s, l, rfl, q1, q2, q3, q4⟩ := ints_open h5 hCi hei hz
  exact ⟨⟨x0, x1, x2, x3, x4, l⟩, s, rfl, q1, q2, hx3, q3, q4⟩
theorem acts6_open {t e ei : TypeId} {f0 f1 f2 f3 f4 f5 : Field} {a : Option Addr} {len cap : Nat} {d : DataW H} {ps : List MemPlace}
 (htl : P.underlying t = some (.slice e)) (ht : P.underlying e = some (.struct #[f0, f1, f2, f3, f4, f5])) (hone : oneCellFields P #[f0, f1, f2, f3, f4, f5] = true) (hC : P.cellsOf e = 6)
 (h0 : P.underlying f0.type = some (.int .i64)) (h1 : P.underlying f1.type = some (.int .i64)) (h2 : P.underlying f2.type = some (.int .i64)) (h3 : P.underlying f3.type = some (.int .i64)) (h4 : P.underlying f4.type = some (.int .i64)) (h5 : P.underlying f5.type = some (.slice ei)) (hCi : P.cellsOf ei = 1) (hei : P.underlying ei = some (.int .i64))
 (h : DataW.Trod enc P w 0 (fun _ => true) true t (.slice a len cap) d ps) : ∃ us, Acts6 w.heap w.heap.size ⟨a, len, cap⟩ us /\ us.length <= 9223372036854775807 := by
 obtain ⟨fuel, hf⟩ := h
 rcases open_slice htl hf with ⟨hcs, _⟩ | ⟨ad, len', cap', m, n, D, Pl, hcs, _, hl, hm, hmm, hx, hi⟩
 ·simp [Value.cells] at hcs
  obtain ⟨rfl, rfl, rfl⟩ := hcs
  exact ⟨[], ⟨rfl, fun i x hx => by simp at hx, by simp, Nat.le_refl _⟩, by simp⟩
 ·simp [Value.cells] at hcs
  obtain ⟨rfl, rfl, rfl⟩ := hcs
  have hmc : m = cap := by simpa using hmm
  have key : ∀ i, i < len -> ∃ u : Act × Sl, (∀ j v, [Value.int .i64 u.1.kd, .int .i64 u.1.ar, .int .i64 u.1.cl, .int .i64 u.1.a, .int .i64 u.1.b, .slice u.2.a u.2.len u.2.cap][j]? = some v -> cell w.heap ((ad.add (i * 6)).add j) = some v) ∧
   SlR u.2 1 (intsI u.1.l) w.heap (fun b => b < w.heap.size) /\ u.2.len <= u.2.cap /\ I63 u.1.a /\ (∀ z ∈ u.1.l, I63 z) := by
   intro i hil
   obtain ⟨cs', hc, ht'⟩ := hi i (by omega)
   rw [hC] at hc
   obtain ⟨x, s, hcs, q1, q2, q3, q4, _⟩ := act_cells ht hone hC h0 h1 h2 h3 h4 h5 hCi hei ht'
   obtain ⟨_, hcl, hat⟩ := World.cells?_some hc
   refine ⟨(x, s), fun j v hv => ?_, q1, q2, q3, q4⟩
   have hj := (List.getElem?_eq_some_iff.1 hv).1
   have := hat j (by simpa using hj)
   rw [hcs] at this
   rw [hv] at this
   exact this
  let g : Nat -> Act := fun i => if hi : i < len then (key i hi).choose.1 else ⟨0, 0, 0, 0, 0, []⟩
  have hg : ∀ i, (hi : i < len) -> g i = (key i hi).choose.1 := fun i hi => by simp only [g, hi, dif_pos]
  refine ⟨(List.range len).map g, ⟨by simp, fun i x hx => ?_, fun x hx => ?_, Nat.le_refl _⟩, ?_⟩
  ·have hil : i < len := by
    have := (List.getElem?_eq_some_iff.1 hx).1
    simpa using this
   have hgx : g i = x := by simpa [hil] using hx
   rw [hg i hil] at hgx
   obtain ⟨⟨x', s2⟩, hu, hc, q1, q2, _⟩ : ∃ u : Act × Sl, u.1 = x /\ (∀ j v, [Value.int .i64 u.1.kd, .int .i64 u.1.ar, .int .i64 u.1.cl, .int .i64 u.1.a, .int .i64 u.1.b, .slice u.2.a u.2.len u.2.cap][j]? = some v -> cell w.heap ((ad.add (i * 6)).add j) = some v) ∧
    SlR u.2 1 (intsI u.1.l) w.heap (fun b => b < w.heap.size) /\ u.2.len <= u.2.cap /\ I63 u.1.a /\ (∀ z ∈ u.1.l, I63 z) := ⟨_, hgx, (key i hil).choose_spec⟩
   have hu : x' = x := hu
   subst hu
   simp only at hc q1 q2
   have hz0 := (key 0 (by omega)).choose_spec.1
   have hz1 := hz0 0 _ rfl
   have hsp := cell_lt hz1
   simp only [Nat.zero_mul, Addr.add_zero'] at hsp
   obtain ⟨b, o, s⟩ := ad
   have hs : s = none := hsp.2
   subst hs
   rw [add_lit] at hc
   refine ⟨b, o, _, rfl, hsp.1, ?_, ?_, ?_, ?_, ?_, ?_, q1, q2⟩
   ·have := hc 0 _ rfl; rw [add_lit] at this; exact this
   ·have := hc 1 _ rfl; rw [add_lit] at this; exact this
   ·have := hc 2 _ rfl; rw [add_lit] at this; exact this
   ·have := hc 3 _ rfl; rw [add_lit] at this; exact this
   ·have := hc 4 _ rfl; rw [add_lit] at this; exact this
   ·have := hc 5 _ rfl; rw [add_lit] at this; exact this
  ·obtain ⟨i, hi, rfl⟩ := List.mem_map.1 hx
   have hil := List.mem_range.1 hi
   rw [hg i hil]
   obtain ⟨_, _, _, q3, q4⟩ := (key i hil).choose_spec
   exact ⟨q3, q4⟩
  ·have : maxLen = 9223372036854775807 := rfl
   simp; omega
end
end Go.Ar