/- Texts joined. -/
import Derived.Test.YtmjjhknmbflfhaaGreatDoorRows
import Derived.ChangeVars
import Derived.JoinedOf
import Derived.RowKit
import Derived.WalkKit
import Derived.ProofKit
import Derived.OpenShut
import Derived.ChangeOld
import Derived.Carry
import Derived.Test.YtmjjhknmbflfhaaGreatDoorM5
set_option linter.unusedVariables false
set_option linter.unusedSimpArgs false
namespace Go.Ar
open Go.Bu (cnt)


variable {W : Wd} {k : Nat} {A : AR}
def at2 {α : Type} (f : Cls -> α -> Nat) (tb : List Cls) (l : List α) (j : Nat) : Nat := match tb[j]?, l[j]? with
 | some c, some a => f c a
 | _, _ => 0
theorem at2_eq {α : Type} {f : Cls -> α -> Nat} {tb : List Cls} {l : List α} {j : Nat} {c : Cls} {a : α} (h1 : tb[j]? = some c) (h2 : l[j]? = some a) : at2 f tb l j = f c a := by unfold at2; rw [h1, h2]
theorem zip_sum {α : Type} (f : Cls -> α -> Nat) : ∀ (tb : List Cls) (l : List α), l.length = tb.length -> ((tb.zip l).map fun x => f x.1 x.2).sum = ((List.range tb.length).map (at2 f tb l)).sum
 | [], l, h => by simp
 | c :: tb, [], h => by simp at h
 | c :: tb, a :: l, h => by
  have ih := zip_sum f tb l (by simpa using h)
  rw [List.zip_cons_cons, List.map_cons, List.sum_cons, ih, List.length_cons, List.range_succ_eq_map, List.map_cons, List.sum_cons, List.map_map]
  rfl
def pgL (c : Cls) (ss : List SpA) : List Nat := ss.flatMap fun s => (List.range c.pages).map (s.st + ·)
theorem pgL_len (c : Cls) (ss : List SpA) : (pgL c ss).length = ss.length * c.pages := by
 induction ss with
 | nil => simp [pgL]
 | cons s ss ih =>
  have e : pgL c (s :: ss) = (List.range c.pages).map (s.st + ·) ++ pgL c ss := rfl
  rw [e, List.length_append, ih]; simp [Nat.add_mul]; omega
theorem mem_pgL {c : Cls} {ss : List SpA} {p : Nat} : p ∈ pgL c ss ↔ Cov c ss p := by
 simp only [pgL, List.mem_flatMap, List.mem_map, List.mem_range, Cov]
 constructor
 ·rintro ⟨s, hs, i, hi, rfl⟩; exact ⟨s, hs, by omega, by omega⟩
 ·rintro ⟨s, hs, h1, h2⟩; exact ⟨s, hs, p - s.st, by omega, by omega⟩
theorem pgL_nodup {c : Cls} {ss : List SpA} (h : ss.Pairwise fun a b => a.st + c.pages <= b.st) : (pgL c ss).Nodup := by
 induction ss with
 | nil => exact List.nodup_nil
 | cons s ss ih =>
  have hp := List.pairwise_cons.1 h
  have e : pgL c (s :: ss) = (List.range c.pages).map (s.st + ·) ++ pgL c ss := rfl
  rw [e, List.nodup_append]
  refine ⟨?_, ih hp.2, fun a ha b hb e => ?_⟩
  ·exact List.Pairwise.map (R := (· ≠ ·)) _ (fun a b hab e => hab (by omega)) List.nodup_range
  ·subst e
   obtain ⟨i, hi, rfl⟩ := List.mem_map.1 ha
   obtain ⟨t, ht, h1, h2⟩ := mem_pgL.1 hb
   have := hp.1 t ht
   have := List.mem_range.1 hi
   omega
def rnL (l : List (Nat × Nat)) : List Nat := l.flatMap fun r => (List.range r.2).map (r.1 + ·)
theorem rnL_len (l : List (Nat × Nat)) : (rnL l).length = (l.map (·.2)).sum := by
 induction l with
 | nil => rfl
 | cons r l ih =>
  have e : rnL (r :: l) = (List.range r.2).map (r.1 + ·) ++ rnL l := rfl
  rw [e, List.length_append, ih]; simp
theorem mem_rnL {l : List (Nat × Nat)} {p : Nat} : p ∈ rnL l ↔ inR l p := by
 simp only [rnL, List.mem_flatMap, List.mem_map, List.mem_range, inR]
 constructor
 ·rintro ⟨s, hs, i, hi, rfl⟩; exact ⟨s, hs, by omega, by omega⟩
 ·rintro ⟨s, hs, h1, h2⟩; exact ⟨s, hs, p - s.1, by omega, by omega⟩
theorem rnL_nodup {l : List (Nat × Nat)} (h : l.Pairwise fun a b => a.1 + a.2 <= b.1 ∨ b.1 + b.2 <= a.1) : (rnL l).Nodup := by
 induction l with
 | nil => exact List.nodup_nil
 | cons s ss ih =>
  have hp := List.pairwise_cons.1 h
  have e : rnL (s :: ss) = (List.range s.2).map (s.1 + ·) ++ rnL ss := rfl
  rw [e, List.nodup_append]
  refine ⟨?_, ih hp.2, fun a ha b hb e => ?_⟩
  ·exact List.Pairwise.map (R := (· ≠ ·)) _ (fun a b hab e => hab (by omega)) List.nodup_range
  ·subst e
   obtain ⟨i, hi, rfl⟩ := List.mem_map.1 ha
   obtain ⟨t, ht, h1, h2⟩ := mem_rnL.1 hb
   have := hp.1 t ht
   have := List.mem_range.1 hi
   omega
theorem count_list {n : Nat} {l : List Nat} (hn : l.Nodup) (hl : ∀ x ∈ l, x < n) {f : Nat -> Bool} (hf : ∀ p, p < n -> (f p = true ↔ p ∈ l)) : (List.range n).countP f = l.length := by
 rw [List.countP_eq_length_filter]
 refine List.Perm.length_eq ?_
 rw [List.perm_ext_iff_of_nodup (List.nodup_range.filter _) hn]
 intro x
 rw [List.mem_filter, List.mem_range]
 exact ⟨fun ⟨a, b⟩ => (hf x a).1 b, fun hx => ⟨hl x hx, (hf x (hl x hx)).2 hx⟩⟩
theorem law_pages (ga : GA A) : cSpans A + cRuns A + cnt A.n A.S = (List.range A.n).countP fun (p : Nat) => ownsA A (p : Int) := by
 have key : ∀ m, m <= A.tb.length -> (List.range A.n).countP (fun p => A.ow p != 0 && decide (A.ow p <= m)) = ((List.range m).map (at2 (fun c ss => ss.length * c.pages) A.tb A.cen)).sum := by
  intro m
  induction m with
  | zero =>
   intro _
   simp
  | succ m ih =>
   intro hm
   rw [List.range_succ, List.map_append, List.sum_append, ← ih (by omega), List.map_singleton, List.sum_singleton]
   obtain ⟨c, ss, t, hc, _⟩ := ga.cl (k := m) (by omega)
   have hC := ga.cen m c ss hc
   rw [at2_eq hc.1 hc.2, ← pgL_len c ss, ← count_list (n := A.n) (pgL_nodup hC.far) (fun x hx => by
    obtain ⟨s, hs, h1, h2⟩ := mem_pgL.1 hx
    exact ga.pg.lt (by rw [(ga.used hc hs h1 h2).1]; omega)) (f := fun p => A.ow p == m + 1) (fun p _ => by rw [mem_pgL, ← ga.ow m c ss hc p]; simp)]
   symm
   apply Go.Bu.countP_add
   intro p _
   by_cases h1 : A.ow p = m + 1
   ·simp [h1]
   ·by_cases h2 : A.ow p <= m
    ·have : (A.ow p == m + 1) = false := by simpa using h1
     have h3 : decide (A.ow p <= m + 1) = true := by simp; omega
     simp [this, h2, h3]
    ·have : (A.ow p == m + 1) = false := by simpa using h1
     have h3 : ¬ A.ow p <= m + 1 := by omega
     simp [this, h2, h3]
 have k1 := key A.tb.length (Nat.le_refl _)
 have e1 : cSpans A = (List.range A.n).countP (fun p => A.ow p != 0 && decide (A.ow p <= A.tb.length)) := by
  rw [k1]; unfold cSpans
  rw [zip_sum (fun c ss => ss.length * c.pages) A.tb A.cen ga.lc]
 have e2 : cRuns A = (List.range A.n).countP (fun p => A.ow p == 41) := by
  unfold cRuns
  rw [← rnL_len, count_list (rnL_nodup ga.rdis) (fun x hx => by
   obtain ⟨r, hr, h1, h2⟩ := mem_rnL.1 hx
   exact ga.pg.lt (by rw [(ga.usedR hr h1 h2).1]; omega)) (f := fun p => A.ow p == 41) (fun p _ => by rw [mem_rnL, ← ga.ow41]; simp)]
 have htb := ga.tb
 have e3 : (List.range A.n).countP (fun p => A.ow p != 0 && decide (A.ow p <= A.tb.length)) + (List.range A.n).countP (fun p => A.ow p == 41) = (List.range A.n).countP (fun p => A.ow p != 0) := by
  apply Go.Bu.countP_add
  intro p _
  rcases ga.owb p with h1 | h1
  ·have : ¬ A.ow p <= A.tb.length := by omega
   simp [h1]; omega
  ·have : (A.ow p == 41) = false := by simp; omega
   simp [this, h1]
 have e4 : (List.range A.n).countP (fun p => A.ow p != 0) + (List.range A.n).countP A.S = (List.range A.n).countP fun (p : Nat) => ownsA A (p : Int) := by
  apply Go.Bu.countP_add
  intro p _
  have hu := ga.pg.us p
  have hs := ga.pg.fr p
  have ho : ownsA A (p : Int) = decide (A.f p ≠ 0) := by
   unfold ownsA AR.f gf
   rw [decide_eq_true (show (0 : Int) <= p by omega), Bool.true_and, Int.toNat_natCast]
  rw [ho]
  have hle := ga.pg.le p
  by_cases h0 : A.f p = 0
  ·have : A.ow p = 0 := Classical.byContradiction fun hn => by have := hu.2 hn; omega
   have hS : A.S p = false := by apply Bool.eq_false_iff.2; intro hx; have := hs.1 hx; omega
   simp [h0, this, hS]
  ·by_cases h1 : A.f p = 1
   ·have hw := hu.1 h1
    have hS : A.S p = false := by apply Bool.eq_false_iff.2; intro hx; have := hs.1 hx; omega
    simp [h1, hw, hS]
   ·have : A.ow p = 0 := Classical.byContradiction fun hn => h1 (hu.2 hn)
    have hS : A.S p = true := hs.2 (by omega)
    simp [h0, this, hS]
 unfold cnt
 rw [e1, e2, e3, e4]
theorem cRuns_le (ga : GA A) : cRuns A <= 1024 := by
 have h1 := law_pages ga
 have h2 : (List.range A.n).countP (fun (p : Nat) => ownsA A (p : Int)) <= A.n := by
  refine Nat.le_trans List.countP_le_length ?_
  rw [List.length_range]; exact Nat.le_refl _
 have := ga.pg.n2
 omega
end Go.Ar
namespace Go.Ar
open Go Go.Vc Go.Proofs
open Go.Bu (runOk giveS takeAt cnt)


variable {σ : Hp} {F : Rg} {L : LayW} {W : Wd} {k : Nat} {A : AR} {xs : List (Int × Int × Int)}
def theW (xs : List (Int × Int × Int)) (pages many room : Int) (us : List Act) : Wd := playW (newW (xs.map toCls) (nW pages) (roomW room) (someN many)) us
theorem acts_below {table : Sl} (ht : Acts σ table xs) : xs ≠ [] -> ∀ b o, table.a = some ⟨b, o, none⟩ -> b < σ.size := by
 intro hne b o ho
 cases xs with
 | nil => exact (hne rfl).elim
 | cons x l =>
  obtain ⟨b', o', h1, h2, _⟩ := ht.2 0 x.1 x.2.1 x.2.2 rfl
  rw [ho] at h1; cases h1; exact h2
theorem start_ok (g : Gl σ) (gd : Gd σ) {N : Nat} (hN : N <= σ.size) (hgl : Off fun b => N <= b) (hgd : ¬ N <= 2) {table : Sl} (ht : Acts σ table xs) (htN : xs ≠ [] -> ∀ b o, table.a = some ⟨b, o, none⟩ -> b < N) {pages many room : Int} (hp : 0 <= pages /\ pages <= 255) (hm : 0 <= many /\ many <= 255) (hr : 0 <= room /\ room <= 255)
 {l : Sl} {us : List Act} (hl : Acts6 σ N l us) (hgr : greatW us = false) {R : Bool -> Hp -> Prop} (hR : ∀ σ', Ext0 σ σ' -> R true σ') {K : Option Addr -> Hp -> Prop}
 (hK : validT xs = true -> ∀ σ' L, Ext (fun b => N <= b) σ σ' -> WOk σ' N L (theW xs pages many room us) table xs -> K (some ⟨L.w, 0, none⟩) σ') :
 freeholdlaw10_world.call table pages many room l σ fun t34 t341 v2 =>
  If (!t341) (freeholdref01_Valid.call table v2 fun t40 v3 =>
   JnB (fun r v4 =>
    R r v4) fun J =>
   If (!t40) (freeholdlaw10_alive.call v3 fun t43 v5 =>
    J t43 v5)
    (J false v3))
   (K t34 v2) := by
 obtain ⟨h40, hl40⟩ := greatW_no hgr
 refine world_ok g gd hN hgl hgd ht htN hp hm hr hl h40 hl40 (fun hv v2 e2 => ?_) fun hv v2 L e2 hw => ?_
 ·refine ifT rfl (RValid_ok (acts_keep0 ht e2) fun v3 e3 => JnB.intro ?_)
  have E := Ext.trans e2 e3
  rw [hv]
  exact ifT rfl (alive_ok (g.keep0 E) fun v5 e5 => hR v5 (Ext.trans E e5))
 ·exact ifF rfl (hK hv v2 L e2 hw)
theorem begin_ok (g : Gl σ) (gd : Gd σ) {table : Sl} (ht : Acts σ table xs) {pages many room : Int} (hp : 0 <= pages /\ pages <= 255) (hm : 0 <= many /\ many <= 255) (hr : 0 <= room /\ room <= 255)
 {l : Sl} {us : List Act} (hl : Acts6 σ σ.size l us) (hll : us.length <= 9223372036854775807) {R : Bool -> Hp -> Prop} (hR : ∀ σ', Ext0 σ σ' -> R true σ') {K : Option Addr -> Hp -> Prop}
 (hK : validT xs = true -> ∀ σ' L, Ext0 σ σ' -> WOk σ' σ.size L (theW xs pages many room us) table xs -> K (some ⟨L.w, 0, none⟩) σ') :
 freeholdlaw10_great.call l σ fun t26 v =>
  If t26 (freeholdlaw10_alive.call v fun t27 v1 =>
   R t27 v1)
   (freeholdlaw10_world.call table pages many room l v fun t34 t341 v2 =>
   If (!t341) (freeholdref01_Valid.call table v2 fun t40 v3 =>
    JnB (fun r v4 =>
     R r v4) fun J =>
    If (!t40) (freeholdlaw10_alive.call v3 fun t43 v5 =>
     J t43 v5)
     (J false v3))
    (K t34 v2)) := by
 refine great_ok hl hll (iff_ (fun hgr => alive_ok g hR) fun hgr => ?_)
 exact start_ok g gd (Nat.le_refl _) (gl_lt g) (by have := gd_lt gd; omega) ht (acts_below ht) hp hm hr hl hgr hR fun hv v2 L e2 hw => hK hv v2 L (e2.mono fun b hb hc => by omega) hw
theorem WOk.keep0 {N : Nat} {table : Sl} (h : WOk σ N L W table xs) {σ' : Hp} (e : Ext0 σ σ') : WOk σ' N L W table xs := ⟨h.d.keep0 e, h.t⟩
theorem pages_ok' (h : WH σ F L W) {R : Int -> Hp -> Prop} (hR : R (W.sp.st.length : Int) σ) : space_Space_Pages.call (some ⟨L.hs, 0, none⟩) σ R := Pages_ok h.sp hR
end Go.Ar
namespace Go.Proofs
open Go.Vc

set_option maxRecDepth 100000
def freeholdlaw10_ArenaMaps.hint : Hn := .seq (.o 1) (.seq (.seq (.o 2) (.cond (.seq (.o 2) (.leaf)) (.leaf))) (.seq (.o 11) (.seq (.seq (.o 2) (.cond (.seq (.reg (.seq [.op, .op, .op, .op, .grd true 1 [.op], .op])) (.leaf)) (.leaf))) (.seq (.reg (.held true [] (.take 0 (.take 1 (.take 2 (.take 3 (.take 4 (.take 5 (.take 6 (.all [(7, .take 8 (.all [(9, .take 10 (.done))]))])))))))))) (.seq (.o 15) (.seq (.o 6) (.seq (.o 1) (.seq (.seq (.o 8) (.block (.loop [(23, .one (.i .i64)), (24, .one (.i .i64))] (.seq (.seq (.o 2) (.cond (.leaf) (.leaf))) (.seq (.block (.seq (.o 8) (.cond (.o 2) (.leaf)))) (.o 3)))))) (.seq (.o 7) (.seq (.seq (.o 2) (.cond (.seq (.reg (.seq [.op, .op, .op, .grd true 7 [.op, .op, .op, .op, .op, .op, .op], .op, .grd true 1 [.op], .op])) (.leaf)) (.leaf))) (.seq (.seq (.o 2) (.cond (.seq (.reg (.seq [.op, .op, .op, .grd true 7 [.op, .op, .op, .op, .op, .op, .op], .op, .grd true 1 [.op], .op])) (.leaf)) (.leaf))) (.seq (.reg (.seq [.op, .op, .op, .grd true 4 [.op, .op, .op, .op], .op, .grd true 8 [.op, .op, .op, .op, .op, .op, .op, .op], .op, .grd true 3 [.op, .op, .op], .op, .grd true 1 [.op], .op])) (.leaf)))))))))))))
def freeholdlaw10_ArenaMaps.vc (table : Sl) (pages : Int) (many : Int) (room : Int) (l : Sl) (k : Int) (σ : Hp) (R : Bool -> Hp -> Prop) : Prop :=
 freeholdlaw10_great.call l σ fun t28 v =>
 If t28 (freeholdlaw10_alive.call v fun t29 v1 =>
 R t29 v1)
 (freeholdlaw10_world.call table pages many room l v fun t36 t361 v2 =>
 If (!t361) (freeholdref01_Valid.call table v2 fun t42 v3 =>
 JnB (fun r v4 =>
 R r v4) fun J =>
 If (!t42) (freeholdlaw10_alive.call v3 fun t45 v5 =>
 J t45 v5)
 (J false v3))
 (Held v2 fun S =>
 NilP t36 fun a48 =>
 LdH S .s (a48.add 1) fun (t50 : Sl) =>
 freeholdlaw10_World_number.call t36 0 k 0 0 0 ⟨none, 0, 0⟩ v2 fun t54 v6 =>
 And (S v6) <|
 Ix t50.a t50.len t54 1 fun a55 =>
 LdP a55 v6 fun a =>
 And (S v6) <|
 arena_Arena_Counts.call a v6 fun t59 t591 t592 t593 t594 t595 v7 =>
 NilP t36 fun a67 =>
 LdP (a67.add 0) v7 fun t69 =>
 space_Space_Mapped.call t69 v7 fun old v8 =>
 NilP t36 fun a72 =>
 LdP (a72.add 0) v8 fun t74 =>
 space_Space_Pages.call t74 v8 fun t75 v9 =>
 Nz 16 <| Ar .i64 (t75.tdiv 16) fun t76 =>
 Ar .i64 (t76 - 1) fun vh =>
 LoopK [(.i .i64), (.i .i64)] (fun I => I (-1) vh v9) fun J1 (lowest : Int) (vh1 : Int) v10 =>
 If (decide (vh1 > 0)) (NilP t36 fun a83 =>
 LdP (a83.add 0) v10 fun t85 =>
 Ar .i64 (vh1 * 16) fun t87 =>
 space_Space_State.call t85 t87 v10 fun t88 v11 =>
 If (t88 == 0) (Ar .i64 (vh1 - 1) fun vh2 =>
 J1 vh1 vh2 v11)
 (Ar .i64 (vh1 - 1) fun vh3 =>
 J1 lowest vh3 v11))
 (arena_Arena_TakePages.call a 1 1 v10 fun t93 t931 v12 =>
 If (decide (t595 > 0)) (JnB (fun r1 v13 =>
 JnB (fun r2 v14 =>
 R r2 v14) fun J3 =>
 If r1 (freeholdlaw10_alive.call v13 fun t110 v15 =>
 J3 t110 v15)
 (J3 false v13)) fun J2 =>
 If (t931 == 0) (NilP t36 fun a102 =>
 LdP (a102.add 0) v12 fun t104 =>
 space_Space_Mapped.call t104 v12 fun t105 v16 =>
 J2 (t105 == old) v16)
 (J2 false v12))
 (If (decide (lowest < 0)) (JnB (fun r3 v17 =>
 JnB (fun r4 v18 =>
 R r4 v18) fun J5 =>
 If r3 (freeholdlaw10_alive.call v17 fun t126 v19 =>
 J5 t126 v19)
 (J5 false v17)) fun J4 =>
 If (t931 == 6) (NilP t36 fun a118 =>
 LdP (a118.add 0) v12 fun t120 =>
 space_Space_Mapped.call t120 v12 fun t121 v20 =>
 J4 (t121 == old) v20)
 (J4 false v12))
 (JnB (fun r5 v21 =>
 JnB (fun r6 v22 =>
 JnB (fun r7 v23 =>
 JnB (fun r8 v24 =>
 R r8 v24) fun J9 =>
 If r7 (freeholdlaw10_alive.call v23 fun t152 v25 =>
 J9 t152 v25)
 (J9 false v23)) fun J8 =>
 If r6 (arena_Arena_Owns.call a t93 v22 fun t149 v26 =>
 J8 t149 v26)
 (J8 false v22)) fun J7 =>
 If r5 (NilP t36 fun a138 =>
 LdP (a138.add 0) v21 fun t140 =>
 space_Space_Mapped.call t140 v21 fun t141 v27 =>
 Ar .i64 (old + 16) fun t143 =>
 J7 (t141 == t143) v27)
 (J7 false v21)) fun J6 =>
 If (t931 == 0) (Ar .i64 (lowest * 16) fun t133 =>
 J6 (t93 == t133) v12)
 (J6 false v12))))))
theorem freeholdlaw10_ArenaMaps.of_vc {table : Sl} {pages : Int} {many : Int} {room : Int} {l : Sl} {k : Int} {σ : Hp} {R : Bool -> Hp -> Prop} (hv : freeholdlaw10_ArenaMaps.vc table pages many room l k σ R) : freeholdlaw10_ArenaMaps.call table pages many room l k σ R :=
 fnK_sound Tryz.func8 (x := freeholdlaw10_ArenaMaps.hint) (args := [.slice table.a table.len table.cap, .int .u8 pages, .int .u8 many, .int .u8 room, .slice l.a l.len l.cap, .int .i64 k]) (rs := [.one .b]) (R := R) (Eq.mpr (by kernel_rfl) hv)
end Go.Proofs
namespace Go.Ar
open Go Go.Vc Go.Proofs
open Go.Bu (runOk giveS takeAt cnt Bounded full can full_iff can_exists can_iff blocks mem_blocks takeFrom_no takeFrom_spec many blocks_len)


variable {σ : Hp} {xs : List (Int × Int × Int)}
theorem cnt_pos {n : Nat} {S : Nat -> Bool} : 0 < cnt n S ↔ ∃ p, p < n /\ S p = true := by
 unfold cnt
 rw [List.countP_pos_iff]
 constructor
 ·rintro ⟨p, hp, h⟩; exact ⟨p, List.mem_range.1 hp, h⟩
 ·rintro ⟨p, hp, h⟩; exact ⟨p, List.mem_range.2 hp, h⟩
theorem take1 {A : AR} (h : PG A) : (takeAt A.n A.S 1 1 = none ↔ cnt A.n A.S = 0) := by
 constructor
 ·intro ht
  apply Classical.byContradiction
  intro hn
  obtain ⟨p, hp, hS⟩ := cnt_pos.1 (by omega : 0 < cnt A.n A.S)
  exact takeAt_full h.bnd h.n2 (j := 0) (q := p) (full_iff.2 fun x hx => by simp at hx; rw [hx]; exact hS) (by simp) (by simp) ht
 ·intro h0
  cases ht : takeAt A.n A.S 1 1 with
  | none => rfl
  | some x =>
   have hS := take_free h ht x (Nat.le_refl _) (by omega)
   have := cnt_pos.2 ⟨x, h.lt (by have := (h.fr x).1 hS; omega), hS⟩
   omega
def IsLow (sp : Sp) (j n : Nat) (l : Int) : Prop := (l = -1 /\ ∀ h, j < h -> h < n -> gf sp.st (h * 16) ≠ 0) ∨ ∃ h : Nat, l = h /\ j < h /\ h < n /\ gf sp.st (h * 16) = 0 /\ ∀ i, j < i -> i < h -> gf sp.st (i * 16) ≠ 0
theorem IsLow.step {sp : Sp} {j n : Nat} {l : Int} (h : IsLow sp (j + 1) n l) (hj : j + 1 < n) : IsLow sp j n (if gf sp.st ((j + 1) * 16) = 0 then ((j + 1 : Nat) : Int) else l) := by
 by_cases h0 : gf sp.st ((j + 1) * 16) = 0
 ·rw [if_pos h0]
  exact .inr ⟨j + 1, rfl, by omega, hj, h0, fun i h1 h2 => by omega⟩
 ·rw [if_neg h0]
  have one : ∀ i, j < i -> ¬ j + 1 < i -> i = j + 1 := fun i h1 h2 => by omega
  rcases h with ⟨e, h⟩ | ⟨i, e, h1, h2, h3, h4⟩
  ·refine .inl ⟨e, fun i q1 q2 => ?_⟩
   by_cases q : j + 1 < i
   ·exact h i q q2
   ·rw [one i q1 q]; exact h0
  ·refine .inr ⟨i, e, by omega, h2, h3, fun m q1 q2 => ?_⟩
   by_cases q : j + 1 < m
   ·exact h4 m q q2
   ·rw [one m q1 q]; exact h0
theorem WI.huge {W : Wd} (h : WI W) (hA : ∃ A : AR, A ∈ W.ars) {p : Nat} : gf W.sp.st p = 0 ↔ gf W.sp.st (p / 16 * 16) = 0 := by
 have key : ∀ p q, p / 16 = q / 16 -> gf W.sp.st p ≠ 0 -> gf W.sp.st q ≠ 0 := fun p q e hp => by
  obtain ⟨k, A, hk, hf⟩ := h.own p hp
  refine (h.ow k A hk).own q fun h0 => hf ((h.ga k A hk).pg.hp2 e |>.2 h0)
 constructor
 ·intro h0; exact Classical.byContradiction fun hn => key _ p (by omega) hn h0
 ·intro h0; exact Classical.byContradiction fun hn => key p _ (by omega) hn h0
theorem mapped_grow {sp sp' : Sp} {s : Nat} (hl : sp'.st.length = sp.st.length) (hs : s + 16 <= sp.st.length) (hin : ∀ p, s <= p -> p < s + 16 -> gf sp.st p = 0 /\ gf sp'.st p ≠ 0) (hout : ∀ p, ¬ (s <= p /\ p < s + 16) -> gf sp'.st p = gf sp.st p) : mappedN sp'.st = mappedN sp.st + 16 := by
 have e : ∀ st : List Nat, mappedN st = (List.range st.length).countP fun p => gf st p != 0 := fun st => by
  unfold mappedN
  have : st = (List.range st.length).map (gf st) := by
   apply List.ext_getElem?
   intro i
   rw [List.getElem?_map]
   by_cases hi : i < st.length
   ·rw [List.getElem?_range hi, List.getElem?_eq_getElem hi]
    simp [gf, List.getD_eq_getElem?_getD, List.getElem?_eq_getElem hi]
   ·rw [List.getElem?_eq_none (by omega), List.getElem?_eq_none (by simp; omega)]; rfl
  conv => lhs; rw [this]
  rw [List.countP_map]; rfl
 rw [e, e, hl]
 have e16 : (List.range sp.st.length).countP (fun p => decide (s <= p) && decide (p < s + 16)) = 16 := by
  have := count_list (n := sp.st.length) (l := (List.range 16).map (s + ·)) (List.Pairwise.map (R := (· ≠ ·)) _ (fun a b hab e => hab (by omega)) List.nodup_range) (fun x hx => by
   obtain ⟨i, hi, rfl⟩ := List.mem_map.1 hx
   have := List.mem_range.1 hi; omega) (f := fun p => decide (s <= p) && decide (p < s + 16)) (fun p _ => by
   simp only [Bool.and_eq_true, decide_eq_true_eq, List.mem_map, List.mem_range]
   constructor
   ·rintro ⟨a, b⟩; exact ⟨p - s, by omega, by omega⟩
   ·rintro ⟨i, hi, rfl⟩; omega)
  rw [this]; simp
 have := Go.Bu.countP_add (List.range sp.st.length) (fun p => gf sp.st p != 0) (fun p => decide (s <= p) && decide (p < s + 16)) (fun p => gf sp'.st p != 0) fun p _ => by
  by_cases hp : s <= p /\ p < s + 16
  ·have h1 := hin p hp.1 hp.2
   have hb : (gf sp'.st p != 0) = true := bne_iff_ne.2 h1.2
   rw [hb, h1.1, decide_eq_true hp.1, decide_eq_true hp.2]; rfl
  ·have h1 := hout p hp
   have : (decide (s <= p) && decide (p < s + 16)) = false := by simp; omega
   rw [this, h1]; simp
 omega
theorem maps_law {W : Wd} (h : WI W) {k : Nat} {A : AR} (hk : W.ars[k]? = some A) {l : Int} (hl : IsLow W.sp 0 (W.sp.st.length / 16) l) :
 (0 < cnt A.n A.S -> takeAE A W.sp 1 1 = 0 /\ mappedN (takeAS A W.sp 1 1).2.st = mappedN W.sp.st) ∧
 (cnt A.n A.S = 0 -> l < 0 -> takeAE A W.sp 1 1 = 6 /\ mappedN (takeAS A W.sp 1 1).2.st = mappedN W.sp.st) ∧
 (cnt A.n A.S = 0 -> 0 <= l -> takeAE A W.sp 1 1 = 0 /\ ((takeAV A W.sp 1 1 : Nat) : Int) = l * 16 /\ mappedN (takeAS A W.sp 1 1).2.st = mappedN W.sp.st + 16 /\ ownsA (takeAS A W.sp 1 1).1 ((takeAV A W.sp 1 1 : Nat) : Int) = true) := by
 have ga := h.ga k A hk
 have ow := h.ow k A hk
 have ht := take1 ga.pg
 have hup : upSize (max (1 : Int).toNat (1 : Int).toNat) = 16 := rfl
 have hAm : ∃ A : AR, A ∈ W.ars := ⟨A, List.mem_of_getElem? hk⟩
 have hn16 : W.sp.st.length % 16 = 0 := by rw [ow.l]; exact ga.pg.n16
 have mapOk : ∀ j : Nat, j < W.sp.st.length / 16 -> (mapE W.sp ((j * 16 : Nat) : Int) ((16 : Nat) : Int) = 0 ↔ gf W.sp.st (j * 16) = 0) := fun j hj => by
  constructor
  ·intro he; exact (mapE_zero he).2.2 _ (Nat.le_refl _) (by omega)
  ·intro h0
   refine mapE_of (by omega) (by omega) fun p p1 p2 => ?_
   rw [h.huge hAm, show p / 16 * 16 = j * 16 by omega]; exact h0
 rcases takeAS_cases ga ow 1 1 with ⟨e, hE, h6⟩ | ⟨x, A1, sp1, hp, hE, hV, e, htk, hor, s, et, ek⟩
 ·obtain ⟨h6, h7, h8⟩ := h6 rfl
  have h0 := ht.1 h7
  rw [hup] at h8
  have hno : ∀ j, 1 <= j -> j < W.sp.st.length / 16 -> gf W.sp.st (j * 16) ≠ 0 := fun j h1 h2 hz => by
   have hm := (mapOk j h2).2 hz
   unfold growStart at h8
   rw [List.find?_eq_none] at h8
   have := h8 (j * 16) (List.mem_map.2 ⟨j, List.mem_range.2 h2, rfl⟩)
   have hne : j * 16 ≠ 0 := by omega
   have hm2 : mapE W.sp ((j * 16 : Nat) : Int) 16 = 0 := hm
   simp only [Bool.and_eq_true, bne_iff_ne, ne_eq, beq_iff_eq, not_and] at this
   exact this hne hm2
  refine ⟨fun hpos => by omega, fun _ _ => ⟨h6, by rw [e]⟩, fun _ hl0 => ?_⟩
  rcases hl with ⟨rfl, _⟩ | ⟨j, rfl, h1, h2, h3, _⟩
  ·omega
  ·exact (hno j (by omega) h2 h3).elim
 ·rw [hE, hV, e]
  have hx1 : AR.f (useA A1 x 1 41) x = 1 := by
   have g1 : PG A1 := by
    rcases hor with ⟨rfl, rfl⟩ | ⟨_, s', _, g⟩
    ·exact ga.pg
    ·exact g.pg
   have hS := take_free g1 htk
   exact ((useA_pg g1 (m := 1) (no := 41) (by omega) (by omega) hS).2.1 x (Nat.le_refl _) (by omega)).1
  rcases hor with ⟨rfl, rfl⟩ | ⟨h7, s', hs', g⟩
  ·have hpos : cnt A1.n A1.S ≠ 0 := fun h0 => by
    have := ht.2 h0
    have htk' : takeAt A1.n A1.S 1 1 = some x := htk
    rw [this] at htk'; cases htk'
   exact ⟨fun _ => ⟨rfl, rfl⟩, fun h0 => (hpos h0).elim, fun h0 => (hpos h0).elim⟩
  ·have h0 := ht.1 h7
   rw [hup] at hs' g
   obtain ⟨hm, hs0, ⟨j, hj⟩, hmin⟩ := growStart_spec (by omega) hs'
   subst hj
   have hgl := g.sl
   rw [← ow.l] at hgl
   have hj1 : 1 <= j := by have := g.s1; omega
   have hz := (mapOk j (by omega)).1 hm
   have hlj : l = (j : Int) := by
    rcases hl with ⟨rfl, hh⟩ | ⟨i, rfl, i1, i2, i3, i4⟩
    ·exact (hh j (by omega) (by omega) hz).elim
    ·rcases Nat.lt_trichotomy i j with q | q | q
     ·exact (hmin i (by omega) (by omega) ((mapOk i i2).2 i3)).elim
     ·rw [q]
     ·exact (i4 j (by omega) q hz).elim
   refine ⟨fun hpos => by omega, fun _ hneg => by omega, fun _ _ => ⟨rfl, ?_, ?_, ?_⟩⟩
   ·-- the page that is taken is the lowest free one
    have hx : x = j * 16 := by
     obtain ⟨i, _, _, _, hh, hall⟩ := takeFrom_spec htk
     have hA0 : ∀ p, A.S p = false := fun p => by
      apply Bool.eq_false_iff.2; intro hS
      have := cnt_pos.2 ⟨p, ga.pg.lt (by have := (ga.pg.fr p).1 hS; omega), hS⟩
      omega
     have hS1 : ∀ p, A1.S p = true ↔ j * 16 <= p /\ p < j * 16 + 16 := fun p => by
      rw [g.pg.fr]
      constructor
      ·intro hp
       apply Classical.byContradiction; intro hn
       rw [(g.o p hn).1, ← ga.pg.fr, hA0 p] at hp; cases hp
      ·intro hp; rw [(g.i p hp.1 hp.2).1]; omega
     obtain ⟨q, hq, hc⟩ := (mem_blocks g.pg.bnd).1 (List.mem_of_head? hh)
     have hfull : full A1.S 4 j = true := full_iff.2 fun p hp => by
      rw [hS1]
      have := Go.Bu.place_iff.1 hp
      omega
     have hxS : A1.S x = true := take_free g.pg htk x (Nat.le_refl _) (by simp)
     have hxr := (hS1 x).1 hxS
     have hx16 : x / 2 ^ 4 = j := by show x / 16 = j; omega
     have hi4 : ¬ i < 4 := fun hi => Go.Bu.can_lt_absurd hc hfull (by rw [hq]; exact Nat.mul_div_cancel _ (Nat.two_pow_pos i)) hx16 hi
     have hi5 : ¬ 4 < i := fun hi => by
      have hf2 := full_iff.1 (can_iff.1 hc).1
      have h1 := hf2 (q * 2 ^ i) (Nat.mul_div_cancel _ (Nat.two_pow_pos i))
      have hpow : 2 ^ 5 <= 2 ^ i := Nat.pow_le_pow_right (by omega) (by omega)
      have h2 := hf2 (q * 2 ^ i + 16) (by rw [Go.Bu.place_iff]; omega)
      have h3 := (hS1 _).1 h1
      have h4 := (hS1 _).1 h2
      omega
     have hi : i = 4 := by omega
     subst hi
     have : (2 : Nat) ^ 4 = 16 := rfl
     omega
    rw [hlj, hx]; omega
   ·exact mapped_grow g.l (by omega) (fun p p1 p2 => ⟨g.un p p1 p2, by rw [(g.i p p1 p2).2]; omega⟩) fun p hp => (g.o p hp).2
   ·unfold ownsA
    rw [decide_eq_true (show (0 : Int) <= (x : Int) by omega), Bool.true_and, Int.toNat_natCast]
    have hx1' : (useA A1 x (1 : Int).toNat 41).st.getD x 0 = 1 := hx1
    show decide ((useA A1 x (1 : Int).toNat 41).st.getD x 0 ≠ 0) = true
    rw [hx1']; rfl
end Go.Ar
namespace Go.Ar
open Go Go.Vc Go.Proofs
open Go.Bu (runOk giveS takeAt cnt)


variable {σ : Hp} {xs : List (Int × Int × Int)}
theorem LMaps_ok (g : Gl σ) (gd : Gd σ) {table : Sl} (ht : Acts σ table xs) {pages many room k0 : Int} (hp : 0 <= pages /\ pages <= 255) (hm : 0 <= many /\ many <= 255) (hr : 0 <= room /\ room <= 255)
 {l : Sl} {us : List Act} (hl : Acts6 σ σ.size l us) (hll : us.length <= 9223372036854775807) {R : Bool -> Hp -> Prop} (hR : ∀ σ', Ext0 σ σ' -> R true σ') : freeholdlaw10_ArenaMaps.call table pages many room l k0 σ R := by
 refine freeholdlaw10_ArenaMaps.of_vc ?_
 unfold freeholdlaw10_ArenaMaps.vc
 refine begin_ok g gd ht hp hm hr hl hll hR fun hv v2 L e2 hw => ?_
 have hlen := hw.d.wi.len
 generalize theW xs pages many room us = W at hw hlen
 have hk1 := hw.d.k1; have hk2 := hw.d.k2
 have hn := hw.d.n
 have wi := hw.d.wi
 have h2 := hw.d.h
 refine ⟨fun m => Ext0 v2 m, Ext.refl _ _, nilP ⟨L.arow, fun m hm => by rw [add_lit, (Ext.blk hm h2.hd id).cell]; rfl, ?_⟩⟩
 refine number_ok h2 (by omega) (by omega) _ _ _ _ _ _ fun v6 e6 => ⟨e6, ?_⟩
 have hw6 := hw.keep0 e6
 have h6 := hw6.d.h
 have hkl := (num_lt k0 (n := W.ars.length) (by omega)).1
 have hA : W.ars[numW W.ars.length k0]? = some (W.ars[numW W.ars.length k0]'hkl) := List.getElem?_eq_getElem _
 generalize (W.ars[numW W.ars.length k0]'hkl) = A at hA
 generalize numW W.ars.length k0 = k at hA
 have ga := wi.ga k A hA
 obtain ⟨Y, hy, hYh, hAH⟩ := h6.ar hA
 refine h6.rA hy ⟨e6, ?_⟩
 have hcr := cRuns_le ga
 refine ACounts_ok hAH (by omega) fun v7 e7 => ?_
 have hw7 := hw6.keep0 e7
 have h7 := hw7.d.h
 have hn1 : 32 <= W.sp.st.length := by rw [(wi.ow k A hA).l]; exact ga.pg.n1
 have hml : mappedN W.sp.st <= W.sp.st.length := List.countP_le_length
 refine nilP (h7.hd.rP rfl (Mapped_ok h7.sp (nilP (h7.hd.rP rfl (pages_ok' h7 (nz (by decide) ?_))))))
 refine arN (m := W.sp.st.length / 16) (by rw [tdiv_nn (by omega)]; simp) (by omega) (arN (m := W.sp.st.length / 16 - 1) (by omega) (by omega) ?_)
 refine loop2 (a := .i .i64) (bb := .i .i64) (fun (lo t : Int) w => ∃ j : Nat, t = (j : Int) /\ j + 1 <= W.sp.st.length / 16 /\ Ext0 v7 w /\ IsLow W.sp j (W.sp.st.length / 16) lo) (fun _ t _ => t.toNat)
  ⟨W.sp.st.length / 16 - 1, rfl, by omega, Ext.refl _ _, .inl ⟨rfl, fun h h1 h2 => by omega⟩⟩ ?_
 rintro (lo : Int) t v10 ⟨j, rfl, hj, e10, hlo⟩
 have hw10 := hw7.keep0 e10
 have h10 := hw10.d.h
 refine ifD (fun hpos => ?_) fun hz => ?_
 ·obtain ⟨i, rfl⟩ : ∃ i, j = i + 1 := ⟨j - 1, by omega⟩
  refine nilP (h10.hd.rP rfl (arN (m := (i + 1) * 16) (by omega) (by omega) (SState_ok h10.sp h10.g _ fun v11 e11 => ?_)))
  have hst := hlo.step (by omega)
  have e : (if 0 <= (((i + 1) * 16 : Nat) : Int) /\ (((i + 1) * 16 : Nat) : Int) < W.sp.st.length then ((W.sp.st.getD ((((i + 1) * 16 : Nat) : Int).toNat) 0 : Nat) : Int) else -1) = ((gf W.sp.st ((i + 1) * 16) : Nat) : Int) := by
   rw [if_pos (by omega), Int.toNat_natCast]; rfl
  rw [e, beqN0]
  refine iff_ (fun h0 => ?_) fun h0 => ?_
  ·have h0 : gf W.sp.st ((i + 1) * 16) = 0 := by simpa using h0
   rw [if_pos h0] at hst
   exact arN (m := i) (by omega) (by omega) ⟨⟨i, rfl, by omega, Ext.trans e10 e11, hst⟩, by omega⟩
  ·have h0 : gf W.sp.st ((i + 1) * 16) ≠ 0 := by simpa using h0
   rw [if_neg h0] at hst
   exact arN (m := i) (by omega) (by omega) ⟨⟨i, rfl, by omega, Ext.trans e10 e11, hst⟩, by omega⟩
 have hj0 : j = 0 := by omega
 subst hj0
 obtain ⟨L1, L2, L3⟩ := maps_law wi hA hlo
 obtain ⟨Y', G, H, hy', _, hW2, put⟩ := h10.stepAS hA
 rw [hy] at hy'; cases hy'
 refine ATakePages_ok hW2 1 1 fun v12 F' H' hf ex hW3 => ?_
 have htr : traT (takeAS A W.sp 1 1).1 Y = traT A Y := by
  rcases takeAS_cases ga (wi.ow k A hA) 1 1 with ⟨e, _, _⟩ | ⟨y, A1, sp1, _, _, _, _, _, _, s, et, _⟩
  ·rw [e]
  ·exact traT_eq s.tb s.room et
 rw [← htr] at hW3
 obtain ⟨e12, h12⟩ := put v12 _ _ F' H' ex hf hW3
 have E12 : Ext0 σ v12 := Ext.fresh (Ext.trans (Ext.trans (Ext.trans e2 e6) e7) e10) e12 fun b hb => hb
 have fin : ∀ (v : Hp), Ext0 v12 v -> ∀ (K : Bool -> Hp -> Prop), (∀ w, R true w -> K true w) -> freeholdlaw10_alive.call v K := fun v ev K hK => alive_ok (g.keep0 (Ext.trans E12 ev)) fun w ew => hK w (hR w (Ext.trans (Ext.trans E12 ev) ew))
 have hm12 : ∀ {K : Int -> Hp -> Prop}, K ((mappedN (takeAS A W.sp 1 1).2.st : Nat) : Int) v12 -> space_Space_Mapped.call (some ⟨L.hs, 0, none⟩) v12 K := fun hK => Mapped_ok h12.sp hK
 refine ifD (fun hc => ?_) fun hc => ?_
 ·obtain ⟨q1, q2⟩ := L1 (by omega)
  rw [q1]
  refine JnB.intro (ifT rfl (nilP (h12.hd.rP rfl (hm12 ?_))))
  rw [q2]
  exact JnB.intro (ifT (by simp) (fin _ (Ext.refl _ _) _ fun w hw => hw))
 have hc0 : cnt A.n A.S = 0 := by omega
 refine ifD (fun hneg => ?_) fun hneg => ?_
 ·obtain ⟨q1, q2⟩ := L2 hc0 hneg
  rw [q1]
  refine JnB.intro (ifT rfl (nilP (h12.hd.rP rfl (hm12 ?_))))
  rw [q2]
  exact JnB.intro (ifT (by simp) (fin _ (Ext.refl _ _) _ fun w hw => hw))
 ·obtain ⟨q1, q2, q3, q4⟩ := L3 hc0 (by omega)
  rw [q1, q2]
  rw [q2] at q4
  have hlo2 : lo * 16 <= 1000000 /\ 0 <= lo := by
   rcases hlo with ⟨rfl, _⟩ | ⟨h, rfl, _, hh, _⟩
   ·exact (hneg (by decide)).elim
   ·exact ⟨by omega, by omega⟩
  refine JnB.intro (ifT rfl (ar (by omega) (by omega) (JnB.intro (ifT (by simp) (nilP (h12.hd.rP rfl (hm12 ?_)))))))
  rw [q3]
  refine arN (m := mappedN W.sp.st + 16) (by omega) (by omega) (JnB.intro (ifT (by simp) ?_))
  obtain ⟨Y2, hy2, _, hA2⟩ := h12.ar (k := k) (A := (takeAS A W.sp 1 1).1) (List.getElem?_set_self (List.getElem?_eq_some_iff.1 hA).1)
  have hy2' : L.ys[k]? = some Y2 := hy2
  rw [hy] at hy2'; cases hy2'
  refine Owns_ok hA2 _ ?_
  rw [q4]
  exact JnB.intro (ifT rfl (fin _ (Ext.refl _ _) _ fun w hw => hw))
end Go.Ar
namespace Go.Ar
open Go Go.Vc Go.Proofs Go.ChangeShapes Go.WideShapes Go.RowKit Go.Deep


theorem bool_of_trod {H : Type} {enc : TypeId × Value -> H} {P : Program} {w : World} {base : Nat} {sp : Nat -> Bool} {held : Bool} {fuel : Nat} {t : TypeId} {c : Value} {y : DataW H × List MemPlace}
 (ht : P.underlying t = some .bool) (h : DataW.trod enc P w base sp held fuel t [c] = some y) : ∃ n, c = .bool n /\ y = (.lit (.bool n), []) := by
 cases fuel with
 | zero => simp [DataW.trod] at h
 | succ fuel =>
  cases c <;> simp [DataW.trod, ht] at h
  rename_i n
  exact ⟨n, rfl, by simpa using h.symm⟩
theorem two_cells {P : Program} {w : World} {t : TypeId} {f0 f1 : Field} {cs : Array Value} {fuel : Nat} {p : List MemPlace} {x y : Bool} (ht : P.underlying t = some (.struct #[f0, f1])) (hone : oneCellFields P #[f0, f1] = true) (hC : P.cellsOf t = 2)
 (h0 : P.underlying f0.type = some .bool) (h1 : P.underlying f1.type = some .bool) (h : DataW.trod (fun _ => ()) P w 0 (fun _ => true) false fuel t cs.toList = some (.agg [.lit (.bool x), .lit (.bool y)], p)) : cs = #[.bool x, .bool y] := by
 obtain ⟨ys, n, hn, hy, hlen, hyl, hff⟩ := DataW.trod_struct ht h
 obtain ⟨l⟩ := cs
 have hl2 : l.length = 2 := by rw [← hC]; simpa using hlen
 match l, hl2 with
 | [c0, c1], _ =>
  have k0 := hff 0 f0 rfl
  have k1 := hff 1 f1 rfl
  obtain ⟨o0, q0⟩ := hone_of hone 0 f0 rfl
  obtain ⟨o1, q1⟩ := hone_of hone 1 f1 rfl
  rw [o0, q0] at k0
  rw [o1, q1] at k1
  match ys, hyl with
  | [y0, y1], _ =>
   obtain ⟨n0, rfl, e0⟩ := bool_of_trod h0 (c := c0) (y := y0) (by simpa using k0)
   obtain ⟨n1, rfl, e1⟩ := bool_of_trod h1 (c := c1) (y := y1) (by simpa using k1)
   subst e0; subst e1
   simp at hy
   obtain ⟨⟨rfl, rfl⟩, _⟩ := hy
   rfl
theorem cell_of {w : World} {a : Addr} {v : Value} (h : w.cell? a = some v) : cell w.heap a = some v := h
end Go.Ar
namespace Go.Ar
open Go Go.Vc Go.Proofs Go.ChangeShapes Go.WideShapes Go.RowKit Go.Deep


section
variable {H : Type} {enc : TypeId × Value -> H} {P : Program} {w : World}
theorem i63_of {x : Int} (h : (Lit.int .i64 x).wf = true) : I63 x := by
 unfold I63
 simp [Lit.wf, IntKind.min, IntKind.max, IntKind.bits, IntKind.signed] at h
 omega
theorem u8_of {x : Int} (h : (Lit.int .u8 x).wf = true) : 0 <= x /\ x <= 255 := by
 simp [Lit.wf, IntKind.min, IntKind.max, IntKind.bits, IntKind.signed] at h
 omega
theorem ints_open {t e : TypeId} {fuel : Nat} {c : Value} {y : DataW H × List MemPlace} (ht : P.underlying t = some (.slice e)) (hC : P.cellsOf e = 1) (he : P.underlying e = some (.int .i64)) (h : DataW.trod enc P w 0 (fun _ => true) true fuel t [c] = some y) :
 ∃ (s : Sl) (l : List Int), c = .slice s.a s.len s.cap /\ SlR s 1 (intsI l) w.heap (fun b => b < w.heap.size) /\ s.len <= s.cap /\ (∀ x ∈ l, I63 x) /\ l.length <= 9223372036854775807 := by
 rcases open_slice1 ht hC h with ⟨hcs, _⟩ | ⟨a, len, cap, m, n, V, D, Pl, hcs, _, hl, hm, hmm, _, hV⟩
 ·simp only [List.cons.injEq, and_true] at hcs
  exact ⟨⟨none, 0, 0⟩, [], hcs, SlR.nil _ _ _ _, Nat.le_refl _, by simp, by simp⟩
 ·simp only [List.cons.injEq, and_true] at hcs
  have hmc : m = cap := by simpa using hmm
  have hx : ∀ i, i < len -> ∃ x : Int, cell w.heap (a.add i) = some (.int .i64 x) /\ I63 x := fun i hi => by
   obtain ⟨h1, h2⟩ := hV i (by omega)
   obtain ⟨x, hx1, _, hw⟩ := DataW.trod_int he h2
   simp only [List.cons.injEq, and_true] at hx1
   rw [hx1] at h1
   exact ⟨x, h1, i63_of hw⟩
  let g : Nat -> Int := fun i => if hi : i < len then (hx i hi).choose else 0
  have hg : ∀ i, (hi : i < len) -> cell w.heap (a.add i) = some (.int .i64 (g i)) /\ I63 (g i) := fun i hi => by
   have := (hx i hi).choose_spec
   simp only [g, hi, dif_pos]; exact this
  refine ⟨⟨some a, len, cap⟩, (List.range len).map g, hcs, ⟨by simp [intsI], ?_⟩, hl, fun x hx => ?_, ?_⟩
  ·rcases Nat.eq_zero_or_pos len with h0 | h0
   ·left; subst h0; rfl
   ·right
    have hc0 := (hg 0 h0).1
    have hsp := cell_lt hc0
    rw [Addr.add_zero'] at hsp
    obtain ⟨b, o, s⟩ := a
    have hs : s = none := hsp.2
    subst hs
    have hob : ∃ arr ty z, w.heap[b]? = some (.cells arr ty z) := by
     rw [add_lit] at hc0
     unfold cell at hc0
     split at hc0
     ·rename_i arr ty z heq; exact ⟨arr, ty, z, heq⟩
     ·cases hc0
    obtain ⟨arr, ty, z, hobj⟩ := hob
    refine ⟨b, o, arr.toList, hsp.1, rfl, ⟨ty, z, by simpa using hobj⟩, fun j hj => ?_⟩
    have hj' : j < len := by simpa [intsI] using hj
    have hc := (hg j hj').1
    rw [add_lit] at hc
    unfold cell at hc
    simp only [hobj] at hc
    rw [Array.getElem?_toList]
    simp [intsI, List.getElem?_range hj']
    simpa using hc
  ·obtain ⟨i, hi, rfl⟩ := List.mem_map.1 hx
   exact (hg i (List.mem_range.1 hi)).2
  ·have : maxLen = 9223372036854775807 := rfl
   simp; omega
theorem act_cells {t ei : TypeId} {f0 f1 f2 f3 f4 f5 : Field} {fuel : Nat} {cs : List Value} {y : DataW H × List MemPlace}
 (ht : P.underlying t = some (.struct #[f0, f1, f2, f3, f4, f5])) (hone : oneCellFields P #[f0, f1, f2, f3, f4, f5] = true) (hC : P.cellsOf t = 6)
 (h0 : P.underlying f0.type = some (.int .i64)) (h1 : P.underlying f1.type = some (.int .i64)) (h2 : P.underlying f2.type = some (.int .i64)) (h3 : P.underlying f3.type = some (.int .i64)) (h4 : P.underlying f4.type = some (.int .i64)) (h5 : P.underlying f5.type = some (.slice ei)) (hCi : P.cellsOf ei = 1) (hei : P.underlying ei = some (.int .i64))
 (h : DataW.trod enc P w 0 (fun _ => true) true fuel t cs = some y) :
 ∃ (x : Act) (s : Sl), cs = [.int .i64 x.kd, .int .i64 x.ar, .int .i64 x.cl, .int .i64 x.a, .int .i64 x.b, .slice s.a s.len s.cap] /\ SlR s 1 (intsI x.l) w.heap (fun b => b < w.heap.size) /\ s.len <= s.cap /\ I63 x.a /\ (∀ z ∈ x.l, I63 z) /\ x.l.length <= 9223372036854775807 := by
 obtain ⟨ys, n, hn, hy, hlen, hyl, hff⟩ := DataW.trod_struct ht h
 have hl6 : cs.length = 6 := by rw [← hC]; exact hlen
 match cs, hl6 with
 | [c0, c1, c2, c3, c4, c5], _ =>
  have one : ∀ (j : Nat) (f : Field) (c : Value), (#[f0, f1, f2, f3, f4, f5] : Array Field)[j]? = some f -> [c0, c1, c2, c3, c4, c5][j]? = some c -> ∃ z, DataW.trod enc P w 0 (fun _ => true) true n f.type [c] = some z := by
   intro j f c hj hc
   obtain ⟨ho, hk⟩ := hone_of hone j f hj
   have h3 := hff j f hj
   rw [ho, hk] at h3
   have hjl := (List.getElem?_eq_some_iff.1 hc).1
   have e1 : ([c0, c1, c2, c3, c4, c5].drop j).take 1 = [c] := by
    rw [List.drop_eq_getElem_cons hjl, List.take_succ_cons, List.take_zero, (List.getElem?_eq_some_iff.1 hc).2]
   rw [e1] at h3
   have hys : ys[j]? = some (ys[j]'(by rw [hyl]; simp at hjl ⊢; omega)) := List.getElem?_eq_getElem _
   rw [hys] at h3
   exact ⟨_, h3⟩
  have int : ∀ (j : Nat) (f : Field) (c : Value), (#[f0, f1, f2, f3, f4, f5] : Array Field)[j]? = some f -> [c0, c1, c2, c3, c4, c5][j]? = some c -> P.underlying f.type = some (.int .i64) -> ∃ x : Int, c = .int .i64 x /\ I63 x := by
   intro j f c hj hc hu
   obtain ⟨z, hz⟩ := one j f c hj hc
   obtain ⟨x, hx1, _, hw⟩ := DataW.trod_int hu hz
   simp only [List.cons.injEq, and_true] at hx1
   exact ⟨x, hx1, i63_of hw⟩
  obtain ⟨x0, rfl, _⟩ := int 0 f0 c0 rfl rfl h0
  obtain ⟨x1, rfl, _⟩ := int 1 f1 c1 rfl rfl h1
  obtain ⟨x2, rfl, _⟩ := int 2 f2 c2 rfl rfl h2
  obtain ⟨x3, rfl, hx3⟩ := int 3 f3 c3 rfl rfl h3
  obtain ⟨x4, rfl, _⟩ := int 4 f4 c4 rfl rfl h4
  obtain ⟨z, hz⟩ := one 5 f5 c5 rfl rfl
  obtain ⟨s, l, rfl, q1, q2, q3, q4⟩ := ints_open h5 hCi hei hz
  exact ⟨⟨x0, x1, x2, x3, x4, l⟩, s, rfl, q1, q2, hx3, q3, q4⟩
theorem acts6_open {t e ei : TypeId} {f0 f1 f2 f3 f4 f5 : Field} {a : Option Addr} {len cap : Nat} {d : DataW H} {ps : List MemPlace}
 (htl : P.underlying t = some (.slice e)) (ht : P.underlying e = some (.struct #[f0, f1, f2, f3, f4, f5])) (hone : oneCellFields P #[f0, f1, f2, f3, f4, f5] = true) (hC : P.cellsOf e = 6)
 (h0 : P.underlying f0.type = some (.int .i64)) (h1 : P.underlying f1.type = some (.int .i64)) (h2 : P.underlying f2.type = some (.int .i64)) (h3 : P.underlying f3.type = some (.int .i64)) (h4 : P.underlying f4.type = some (.int .i64)) (h5 : P.underlying f5.type = some (.slice ei)) (hCi : P.cellsOf ei = 1) (hei : P.underlying ei = some (.int .i64))
 (h : DataW.Trod enc P w 0 (fun _ => true) true t (.slice a len cap) d ps) : ∃ us, Acts6 w.heap w.heap.size ⟨a, len, cap⟩ us /\ us.length <= 9223372036854775807 := by
 obtain ⟨fuel, hf⟩ := h
 rcases open_slice htl hf with ⟨hcs, _⟩ | ⟨ad, len', cap', m, n, D, Pl, hcs, _, hl, hm, hmm, hx, hi⟩
 ·simp [Value.cells] at hcs
  obtain ⟨rfl, rfl, rfl⟩ := hcs
  exact ⟨[], ⟨rfl, fun i x hx => by simp at hx, by simp, Nat.le_refl _⟩, by simp⟩
 ·simp [Value.cells] at hcs
  obtain ⟨rfl, rfl, rfl⟩ := hcs
  have hmc : m = cap := by simpa using hmm
  have key : ∀ i, i < len -> ∃ u : Act × Sl, (∀ j v, [Value.int .i64 u.1.kd, .int .i64 u.1.ar, .int .i64 u.1.cl, .int .i64 u.1.a, .int .i64 u.1.b, .slice u.2.a u.2.len u.2.cap][j]? = some v -> cell w.heap ((ad.add (i * 6)).add j) = some v) ∧
   SlR u.2 1 (intsI u.1.l) w.heap (fun b => b < w.heap.size) /\ u.2.len <= u.2.cap /\ I63 u.1.a /\ (∀ z ∈ u.1.l, I63 z) := by
   intro i hil
   obtain ⟨cs', hc, ht'⟩ := hi i (by omega)
   rw [hC] at hc
   obtain ⟨x, s, hcs, q1, q2, q3, q4, _⟩ := act_cells ht hone hC h0 h1 h2 h3 h4 h5 hCi hei ht'
   obtain ⟨_, hcl, hat⟩ := World.cells?_some hc
   refine ⟨(x, s), fun j v hv => ?_, q1, q2, q3, q4⟩
   have hj := (List.getElem?_eq_some_iff.1 hv).1
   have := hat j (by simpa using hj)
   rw [hcs] at this
   rw [hv] at this
   exact this
  let g : Nat -> Act := fun i => if hi : i < len then (key i hi).choose.1 else ⟨0, 0, 0, 0, 0, []⟩
  have hg : ∀ i, (hi : i < len) -> g i = (key i hi).choose.1 := fun i hi => by simp only [g, hi, dif_pos]
  refine ⟨(List.range len).map g, ⟨by simp, fun i x hx => ?_, fun x hx => ?_, Nat.le_refl _⟩, ?_⟩
  ·have hil : i < len := by
    have := (List.getElem?_eq_some_iff.1 hx).1
    simpa using this
   have hgx : g i = x := by simpa [hil] using hx
   rw [hg i hil] at hgx
   obtain ⟨⟨x', s2⟩, hu, hc, q1, q2, _⟩ : ∃ u : Act × Sl, u.1 = x /\ (∀ j v, [Value.int .i64 u.1.kd, .int .i64 u.1.ar, .int .i64 u.1.cl, .int .i64 u.1.a, .int .i64 u.1.b, .slice u.2.a u.2.len u.2.cap][j]? = some v -> cell w.heap ((ad.add (i * 6)).add j) = some v) ∧
    SlR u.2 1 (intsI u.1.l) w.heap (fun b => b < w.heap.size) /\ u.2.len <= u.2.cap /\ I63 u.1.a /\ (∀ z ∈ u.1.l, I63 z) := ⟨_, hgx, (key i hil).choose_spec⟩
   have hu : x' = x := hu
   subst hu
   simp only at hc q1 q2
   have hz0 := (key 0 (by omega)).choose_spec.1
   have hz1 := hz0 0 _ rfl
   have hsp := cell_lt hz1
   simp only [Nat.zero_mul, Addr.add_zero'] at hsp
   obtain ⟨b, o, s⟩ := ad
   have hs : s = none := hsp.2
   subst hs
   rw [add_lit] at hc
   refine ⟨b, o, _, rfl, hsp.1, ?_, ?_, ?_, ?_, ?_, ?_, q1, q2⟩
   ·have := hc 0 _ rfl; rw [add_lit] at this; exact this
   ·have := hc 1 _ rfl; rw [add_lit] at this; exact this
   ·have := hc 2 _ rfl; rw [add_lit] at this; exact this
   ·have := hc 3 _ rfl; rw [add_lit] at this; exact this
   ·have := hc 4 _ rfl; rw [add_lit] at this; exact this
   ·have := hc 5 _ rfl; rw [add_lit] at this; exact this
  ·obtain ⟨i, hi, rfl⟩ := List.mem_map.1 hx
   have hil := List.mem_range.1 hi
   rw [hg i hil]
   obtain ⟨_, _, _, q3, q4⟩ := (key i hil).choose_spec
   exact ⟨q3, q4⟩
  ·have : maxLen = 9223372036854775807 := rfl
   simp; omega
end
end Go.Ar