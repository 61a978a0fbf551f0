/- Printed by gen.py: verification conditions. -/
import Derived.Test.YtimoepajidnmjaaGC
namespace Go.Proofs
open Go.Vc
set_option linter.unusedVariables false
def freeholdlaw03_play.hint : Hn := .seq (.reg (.seq [.op, .op])) (.seq (.seq (.reg (.seq [.op, .op])) (.block (.seq (.reg (.seq [.op, .op])) (.cond (.seq (.reg (.held true [] (.take 0 (.take 1 (.take 2 (.take 3 (.take 4 (.take 6 (.take 7 (.take 8 (.take 9 (.take 10 (.all [(5, .all [(11, .take 12 (.take 13 (.done)))])]))))))))))))) (.leaf)) (.seq (.reg (.seq [.op, .op])) (.cond (.seq (.reg (.seq [.op, .op, .op, .op, .op, .op, .op, .op, .op, .op, .op])) (.seq (.reg (.seq [.op, .op, .op, .op, .op, .op, .op, .op, .op, .op, .op])) (.seq (.reg (.seq [.op, .op, .op, .op, .grd true 3 [.op, .op, .op], .op])) (.leaf)))) (.seq (.reg (.seq [.op, .op])) (.cond (.seq (.reg (.held true [] (.take 0 (.take 1 (.take 2 (.take 3 (.take 4 (.take 6 (.take 7 (.take 8 (.take 9 (.take 10 (.all [(5, .all [(11, .take 12 (.take 13 (.done)))])]))))))))))))) (.leaf)) (.leaf))))))))) (.seq (.reg (.seq [.op])) (.leaf)))
def freeholdlaw03_play.vc (vh : Option Addr) (t : Option Addr) (vx : Int) (vx1 : Int) (vx2 : Int) (σ : Hp) (R : Bool → Hp → Prop) : Prop :=
 Nw (.cells #[.int .i64 vx, .int .i64 vx1, .int .i64 vx2] 44 (0, 0)) σ fun n5 v =>
 LdI .i64 (n5.add 0) v fun t12 =>
 If (t12 == 0) (Held v fun S =>
  LdH S (.i .i64) (n5.add 1) fun (t17 : Int) =>
  LdH S (.i .i64) (n5.add 2) fun (t19 : Int) =>
  LdH S (.i .i64) (n5.add 1) fun (t23 : Int) =>
  LdH S (.i .i64) (n5.add 2) fun (t25 : Int) =>
  buddy_Heap_Give.call vh t17 t19 v fun t20 v1 =>
  S v1 ∧
  freeholdref03_Heap_Give.call t t23 t25 v1 fun t26 v2 =>
  S v2 ∧
  R (t20 == t26) v2)
  (If (t12 == 1) (LdI .i64 (n5.add 1) v fun t33 =>
   LdI .i64 (n5.add 2) v fun t35 =>
   buddy_Heap_Take.call vh t33 t35 v fun t36 t361 v3 =>
   LdI .i64 (n5.add 1) v3 fun t42 =>
   LdI .i64 (n5.add 2) v3 fun t44 =>
   freeholdref03_Heap_Take.call t t42 t44 v3 fun t45 t451 v4 =>
   JnB (fun r v5 =>
    R r v5) fun J =>
   If (t36 == t45) (J (t361 == t451) v4)
    (J false v4))
   (If (t12 == 2) (Held v fun S1 =>
    LdH S1 (.i .i64) (n5.add 1) fun (t60 : Int) =>
    LdH S1 (.i .i64) (n5.add 2) fun (t62 : Int) =>
    LdH S1 (.i .i64) (n5.add 1) fun (t66 : Int) =>
    LdH S1 (.i .i64) (n5.add 2) fun (t68 : Int) =>
    buddy_Heap_TakeRun.call vh t60 t62 v fun t63 v6 =>
    S1 v6 ∧
    freeholdref03_Heap_TakeRun.call t t66 t68 v6 fun t69 v7 =>
    S1 v7 ∧
    R (t63 == t69) v7)
    (R true v)))
set_option maxRecDepth 100000 in
theorem freeholdlaw03_play.vc_eq (vh : Option Addr) (t : Option Addr) (vx : Int) (vx1 : Int) (vx2 : Int) (σ : Hp) (R : Bool → Hp → Prop) : fnK Try.prog Try.f24 freeholdlaw03_play.hint [.pointer vh, .pointer t, .agg #[.int .i64 vx, .int .i64 vx1, .int .i64 vx2]] [.one .b] R σ = freeholdlaw03_play.vc vh t vx vx1 vx2 σ R := by kernel_rfl
theorem freeholdlaw03_play.of_vc {vh : Option Addr} {t : Option Addr} {vx : Int} {vx1 : Int} {vx2 : Int} {σ : Hp} {R : Bool → Hp → Prop} (hv : freeholdlaw03_play.vc vh t vx vx1 vx2 σ R) : freeholdlaw03_play.call vh t vx vx1 vx2 σ R :=
  fnK_sound Try.func24 (x := freeholdlaw03_play.hint) (args := [.pointer vh, .pointer t, .agg #[.int .i64 vx, .int .i64 vx1, .int .i64 vx2]]) (rs := [.one .b]) (R := R) (by rw [freeholdlaw03_play.vc_eq]; exact hv)
def freeholdlaw03_Same.hint : Hn := .seq (.reg (.seq [.op])) (.seq (.seq (.reg (.seq [.op, .op, .op, .op, .op, .op, .grd false 5 [.op, .op, .op, .op, .op], .op, .grd false 6 [.op, .op, .op, .op, .op, .op]])) (.cond (.seq (.reg (.seq [.op])) (.leaf)) (.leaf))) (.seq (.seq (.reg (.seq [.op])) (.block (.loop [(5, .one (.i .i64))] (.seq (.seq (.reg (.seq [.op, .op])) (.cond (.leaf) (.leaf))) (.seq (.block (.seq (.reg (.seq [.op, .op, .op, .op, .op, .op, .op, .op])) (.cond (.seq (.reg (.seq [.op])) (.leaf)) (.leaf)))) (.reg (.seq [.op, .op, .op]))))))) (.seq (.reg (.seq [.op])) (.leaf))))
def freeholdlaw03_Same.vc (vh : Option Addr) (t : Option Addr) (σ : Hp) (R : Bool → Hp → Prop) : Prop :=
 buddy_Heap_Free.call vh σ fun t7 v =>
 freeholdref03_Heap_Free.call t v fun t9 v1 =>
 JnB (fun r v2 =>
  JnB (fun r1 v3 =>
   If r1 (R false v3)
    (LoopK [(.i .i64)] (fun I => I (-1) v3) fun J2 (order : Int) v4 =>
    If (decide (order ≤ 11)) (buddy_Heap_Blocks.call vh order v4 fun t32 v5 =>
     freeholdref03_Heap_Blocks.call t order v5 fun t35 v6 =>
     freeholdref01_Ints.call t32 t35 v6 fun t36 v7 =>
     If (!t36) (R false v7)
      (Ar .i64 (order + 1) fun order1 =>
      J2 order1 v7))
     (R true v4))) fun J1 =>
  If r (J1 true v2)
   (buddy_Heap_Runs.call vh v2 fun t20 v8 =>
   freeholdref03_Heap_Runs.call t v8 fun t22 v9 =>
   freeholdref01_Runs.call t20 t22 v9 fun t23 v10 =>
   J1 (!t23) v10)) fun J =>
 If (t7 != t9) (J true v1)
  (buddy_Heap_Order.call vh v1 fun t13 v11 =>
  freeholdref03_Heap_Order.call t v11 fun t15 v12 =>
  J (t13 != t15) v12)
set_option maxRecDepth 100000 in
theorem freeholdlaw03_Same.vc_eq (vh : Option Addr) (t : Option Addr) (σ : Hp) (R : Bool → Hp → Prop) : fnK Try.prog Try.f25 freeholdlaw03_Same.hint [.pointer vh, .pointer t] [.one .b] R σ = freeholdlaw03_Same.vc vh t σ R := by kernel_rfl
theorem freeholdlaw03_Same.of_vc {vh : Option Addr} {t : Option Addr} {σ : Hp} {R : Bool → Hp → Prop} (hv : freeholdlaw03_Same.vc vh t σ R) : freeholdlaw03_Same.call vh t σ R :=
  fnK_sound Try.func25 (x := freeholdlaw03_Same.hint) (args := [.pointer vh, .pointer t]) (rs := [.one .b]) (R := R) (by rw [freeholdlaw03_Same.vc_eq]; exact hv)
def freeholdref03_Heap_IsFree.hint : Hn := .seq (.reg (.seq [.op])) (.seq (.reg (.seq [.op, .op, .op, .grd true 2 [.op, .op], .op, .grd true 7 [.op, .op, .op, .op, .op, .op, .op], .op, .grd true 7 [.op, .op, .op, .op, .op, .op, .op], .op])) (.leaf))
def freeholdref03_Heap_IsFree.vc (vh : Option Addr) (page : Int) (σ : Hp) (R : Bool → Hp → Prop) : Prop :=
 freeholdref03_Heap_made.call vh σ fun t6 v =>
 JnB (fun r v1 =>
  JnB (fun r1 v2 =>
   JnB (fun r2 v3 =>
    R r2 v3) fun J2 =>
   If r1 (NilP vh fun a22 =>
    LdS (a22.add 0) v2 fun t24 =>
    Ix t24.a t24.len page 1 fun a26 =>
    LdB a26 v2 fun t27 =>
    J2 t27 v2)
    (J2 false v2)) fun J1 =>
  If r (NilP vh fun a14 =>
   LdS (a14.add 0) v1 fun t16 =>
   J1 (decide (page < ((t16.len : Nat) : Int))) v1)
   (J1 false v1)) fun J =>
 If t6 (J (decide (page ≥ 0)) v)
  (J false v)
set_option maxRecDepth 100000 in
theorem freeholdref03_Heap_IsFree.vc_eq (vh : Option Addr) (page : Int) (σ : Hp) (R : Bool → Hp → Prop) : fnK Try.prog Try.f26 freeholdref03_Heap_IsFree.hint [.pointer vh, .int .i64 page] [.one .b] R σ = freeholdref03_Heap_IsFree.vc vh page σ R := by kernel_rfl
theorem freeholdref03_Heap_IsFree.of_vc {vh : Option Addr} {page : Int} {σ : Hp} {R : Bool → Hp → Prop} (hv : freeholdref03_Heap_IsFree.vc vh page σ R) : freeholdref03_Heap_IsFree.call vh page σ R :=
  fnK_sound Try.func26 (x := freeholdref03_Heap_IsFree.hint) (args := [.pointer vh, .int .i64 page]) (rs := [.one .b]) (R := R) (by rw [freeholdref03_Heap_IsFree.vc_eq]; exact hv)
def buddy_Heap_Take.hint : Hn := .seq (.reg (.seq [.op, .op])) (.seq (.block (.seq (.reg (.seq [.op, .op, .op, .op])) (.cond (.seq (.reg (.seq [.op, .op])) (.leaf)) (.seq (.reg (.seq [.op, .op, .op, .grd false 2 [.op, .op], .op, .grd false 2 [.op, .op], .op, .grd false 2 [.op, .op], .op, .grd false 5 [.op, .op, .op, .op, .op], .op])) (.cond (.seq (.reg (.seq [.op, .op])) (.leaf)) (.leaf)))))) (.seq (.seq (.reg (.seq [.op, .op, .op, .op, .op, .op])) (.block (.loop [(42, .one (.i .i64))] (.seq (.reg (.seq [.op])) (.seq (.cond (.leaf) (.leaf)) (.seq (.block (.seq (.reg (.seq [.op, .op, .op, .op, .op])) (.seq (.reg (.seq [.op, .op, .op, .op, .op, .op, .op, .grd true 3 [.op, .op, .op]])) (.cond (.seq (.reg (.seq [.op, .op, .op, .op, .op])) (.seq (.reg (.seq [.op, .op, .op, .op])) (.seq (.reg (.seq [.op, .op, .op])) (.leaf)))) (.leaf))))) (.reg (.seq [.op, .op])))))))) (.seq (.reg (.seq [.op, .op])) (.leaf))))
def buddy_Heap_Take.vc (vh : Option Addr) (pages : Int) (align : Int) (σ : Hp) (R : Int → Int → Hp → Prop) : Prop :=
 buddy_Heap_made.call vh σ fun t13 v =>
 If (!t13) (R 0 5 v)
  (JnB (fun r v1 =>
   JnB (fun r1 v2 =>
    JnB (fun r2 v3 =>
     JnB (fun r3 v4 =>
      If r3 (R 0 1 v4)
       (NilP vh fun a38 =>
       LdS (a38.add 1) v4 fun t40 =>
       LoopK [(.i .i64)] (fun I => I 0 v4) fun J4 (t42 : Int) v5 =>
       If (decide (t42 < ((t40.len : Nat) : Int))) (Ix t40.a t40.len t42 1 fun a45 =>
        LdM a45 v5 fun l =>
        Nn t42 <| Ar .i64 (1 * 2 ^ (min t42.toNat IntKind.i64.bits)) fun t48 =>
        JnB (fun r4 v6 =>
         If r4 (maps_Keys_map_int_bool_int_bool.call l v6 fun t59 v7 =>
          slices_Collect_int.call t59 v7 fun t60 v8 =>
          slices_Min_int_int.call t60 v8 fun start v9 =>
          buddy_Heap_cut.call vh start pages v9 fun v10 =>
          R start 0 v10)
          (Ar .i64 (t42 + 1) fun t67 =>
          J4 t67 v6)) fun J5 =>
        If (decide (t48 ≥ (if align > pages then align else pages))) (MLen .i64 .b l v5 fun t55 =>
         J5 (decide (t55 > 0)) v5)
         (J5 false v5))
        (R 0 6 v5))) fun J3 =>
     If r2 (J3 true v3)
      (Ar .i64 (align - 1) fun t33 =>
      J3 ((bits .and .i64 align t33) != 0) v3)) fun J2 =>
    If r1 (J2 true v2)
     (J2 (decide (align > 1024)) v2)) fun J1 =>
   If r (J1 true v1)
    (J1 (decide (align < 1)) v1)) fun J =>
  If (decide (pages < 1)) (J true v)
   (J (decide (pages > 1024)) v))
set_option maxRecDepth 100000 in
theorem buddy_Heap_Take.vc_eq (vh : Option Addr) (pages : Int) (align : Int) (σ : Hp) (R : Int → Int → Hp → Prop) : fnK Try.prog Try.f27 buddy_Heap_Take.hint [.pointer vh, .int .i64 pages, .int .i64 align] [.one (.i .i64), .one (.i .i64)] R σ = buddy_Heap_Take.vc vh pages align σ R := by kernel_rfl
theorem buddy_Heap_Take.of_vc {vh : Option Addr} {pages : Int} {align : Int} {σ : Hp} {R : Int → Int → Hp → Prop} (hv : buddy_Heap_Take.vc vh pages align σ R) : buddy_Heap_Take.call vh pages align σ R :=
  fnK_sound Try.func27 (x := buddy_Heap_Take.hint) (args := [.pointer vh, .int .i64 pages, .int .i64 align]) (rs := [.one (.i .i64), .one (.i .i64)]) (R := R) (by rw [buddy_Heap_Take.vc_eq]; exact hv)
def freeholdref01_Power.hint : Hn := .seq (.reg (.seq [.op])) (.seq (.seq (.reg (.seq [.op])) (.block (.loop [(5, .one (.i .i64))] (.seq (.seq (.reg (.seq [.op, .op, .op])) (.cond (.leaf) (.leaf))) (.seq (.block (.seq (.reg (.seq [.op, .op, .op])) (.cond (.seq (.reg (.seq [.op])) (.leaf)) (.leaf)))) (.reg (.seq [.op, .op, .op]))))))) (.seq (.reg (.seq [.op])) (.leaf)))
def freeholdref01_Power.vc (n : Int) (most : Int) (σ : Hp) (R : Bool → Hp → Prop) : Prop :=
 LoopK [(.i .i64)] (fun I => I 1 σ) fun J (p : Int) v =>
 If (decide (p ≤ most)) (If (p == n) (R true v)
   (Ar .i64 (2 * p) fun p1 =>
   J p1 v))
  (R false v)
set_option maxRecDepth 100000 in
theorem freeholdref01_Power.vc_eq (n : Int) (most : Int) (σ : Hp) (R : Bool → Hp → Prop) : fnK Try.prog Try.f28 freeholdref01_Power.hint [.int .i64 n, .int .i64 most] [.one .b] R σ = freeholdref01_Power.vc n most σ R := by kernel_rfl
theorem freeholdref01_Power.of_vc {n : Int} {most : Int} {σ : Hp} {R : Bool → Hp → Prop} (hv : freeholdref01_Power.vc n most σ R) : freeholdref01_Power.call n most σ R :=
  fnK_sound Try.func28 (x := freeholdref01_Power.hint) (args := [.int .i64 n, .int .i64 most]) (rs := [.one .b]) (R := R) (by rw [freeholdref01_Power.vc_eq]; exact hv)
def buddy_Heap_Order.hint : Hn := .seq (.reg (.seq [.op])) (.seq (.seq (.reg (.seq [.op, .op, .op])) (.cond (.seq (.reg (.seq [.op])) (.leaf)) (.leaf))) (.seq (.seq (.reg (.seq [.op, .op, .op, .op, .op, .op, .op])) (.block (.loop [(3, .one (.i .i64))] (.seq (.seq (.reg (.seq [.op, .op])) (.cond (.leaf) (.leaf))) (.seq (.block (.seq (.reg (.seq [.op, .op, .op, .op, .op, .op, .op, .op, .op])) (.cond (.seq (.reg (.seq [.op, .op])) (.leaf)) (.leaf)))) (.reg (.seq [.op, .op, .op]))))))) (.seq (.reg (.seq [.op])) (.leaf))))
def buddy_Heap_Order.vc (vh : Option Addr) (σ : Hp) (R : Int → Hp → Prop) : Prop :=
 buddy_Heap_made.call vh σ fun t5 v =>
 If (!t5) (R (-1) v)
  (NilP vh fun a8 =>
  LdS (a8.add 1) v fun t10 =>
  Ar .i64 (((t10.len : Nat) : Int) - 1) fun k =>
  LoopK [(.i .i64)] (fun I => I k v) fun J (k1 : Int) v1 =>
  If (decide (k1 ≥ 0)) (NilP vh fun a18 =>
   LdS (a18.add 1) v1 fun t20 =>
   Ix t20.a t20.len k1 1 fun a22 =>
   LdM a22 v1 fun t23 =>
   MLen .i64 .b t23 v1 fun t24 =>
   If (decide (t24 > 0)) (R k1 v1)
    (Ar .i64 (k1 - 1) fun k2 =>
    J k2 v1))
   (R (-1) v1))
set_option maxRecDepth 100000 in
theorem buddy_Heap_Order.vc_eq (vh : Option Addr) (σ : Hp) (R : Int → Hp → Prop) : fnK Try.prog Try.f29 buddy_Heap_Order.hint [.pointer vh] [.one (.i .i64)] R σ = buddy_Heap_Order.vc vh σ R := by kernel_rfl
theorem buddy_Heap_Order.of_vc {vh : Option Addr} {σ : Hp} {R : Int → Hp → Prop} (hv : buddy_Heap_Order.vc vh σ R) : buddy_Heap_Order.call vh σ R :=
  fnK_sound Try.func29 (x := buddy_Heap_Order.hint) (args := [.pointer vh]) (rs := [.one (.i .i64)]) (R := R) (by rw [buddy_Heap_Order.vc_eq]; exact hv)
def freeholdlaw03_do.hint : Hn := .seq (.reg (.seq [.op, .op])) (.seq (.reg (.seq [.op])) (.seq (.seq (.reg (.seq [.op, .op])) (.block (.seq (.reg (.seq [.op, .op])) (.cond (.reg (.seq [.op, .op, .op, .op, .op, .op, .op])) (.seq (.reg (.seq [.op, .op])) (.cond (.reg (.seq [.op, .op, .op, .op, .op, .op, .op, .op, .op, .op])) (.seq (.reg (.seq [.op, .op])) (.cond (.reg (.seq [.op, .op, .op, .op, .op, .op, .op])) (.leaf))))))))) (.seq (.reg (.seq [.op, .op])) (.leaf))))
def freeholdlaw03_do.vc (vh : Option Addr) (vx : Int) (vx1 : Int) (vx2 : Int) (σ : Hp) (R : Int → Hp → Prop) : Prop :=
 Nw (.cells #[.int .i64 vx, .int .i64 vx1, .int .i64 vx2] 44 (0, 0)) σ fun n3 v =>
 LdI .i64 (n3.add 0) v fun t7 =>
 If (t7 == 0) (LdI .i64 (n3.add 1) v fun t12 =>
  LdI .i64 (n3.add 2) v fun t14 =>
  buddy_Heap_Give.call vh t12 t14 v fun ve v1 =>
  R ve v1)
  (If (t7 == 1) (LdI .i64 (n3.add 1) v fun t21 =>
   LdI .i64 (n3.add 2) v fun t23 =>
   buddy_Heap_Take.call vh t21 t23 v fun t24 t241 v2 =>
   R t241 v2)
   (If (t7 == 2) (LdI .i64 (n3.add 1) v fun t31 =>
    LdI .i64 (n3.add 2) v fun t33 =>
    buddy_Heap_TakeRun.call vh t31 t33 v fun ve1 v3 =>
    R ve1 v3)
    (R 0 v)))
set_option maxRecDepth 100000 in
theorem freeholdlaw03_do.vc_eq (vh : Option Addr) (vx : Int) (vx1 : Int) (vx2 : Int) (σ : Hp) (R : Int → Hp → Prop) : fnK Try.prog Try.f30 freeholdlaw03_do.hint [.pointer vh, .agg #[.int .i64 vx, .int .i64 vx1, .int .i64 vx2]] [.one (.i .i64)] R σ = freeholdlaw03_do.vc vh vx vx1 vx2 σ R := by kernel_rfl
theorem freeholdlaw03_do.of_vc {vh : Option Addr} {vx : Int} {vx1 : Int} {vx2 : Int} {σ : Hp} {R : Int → Hp → Prop} (hv : freeholdlaw03_do.vc vh vx vx1 vx2 σ R) : freeholdlaw03_do.call vh vx vx1 vx2 σ R :=
  fnK_sound Try.func30 (x := freeholdlaw03_do.hint) (args := [.pointer vh, .agg #[.int .i64 vx, .int .i64 vx1, .int .i64 vx2]]) (rs := [.one (.i .i64)]) (R := R) (by rw [freeholdlaw03_do.vc_eq]; exact hv)
def freeholdref01_Ints.hint : Hn := .seq (.reg (.seq [.op])) (.seq (.seq (.reg (.seq [.op, .op, .op, .op, .op])) (.cond (.seq (.reg (.seq [.op])) (.leaf)) (.leaf))) (.seq (.seq (.reg (.seq [.op])) (.block (.loop [(5, .one (.i .i64))] (.seq (.seq (.reg (.seq [.op, .op, .op, .op])) (.cond (.leaf) (.leaf))) (.seq (.block (.seq (.reg (.quiet [.op, .op, .op, .op, .op, .op, .op, .op, .op])) (.cond (.seq (.reg (.seq [.op])) (.leaf)) (.leaf)))) (.reg (.seq [.op, .op, .op]))))))) (.seq (.reg (.seq [.op])) (.leaf))))
def freeholdref01_Ints.vc (a : Sl) (b : Sl) (σ : Hp) (R : Bool → Hp → Prop) : Prop :=
 If (((a.len : Nat) : Int) != ((b.len : Nat) : Int)) (R false σ)
  (LoopK [(.i .i64)] (fun I => I 0 σ) fun J (i : Int) v =>
  If (decide (i < ((a.len : Nat) : Int))) (Ix a.a a.len i 1 fun a19 =>
   LdI .i64 a19 v fun t20 =>
   Ix b.a b.len i 1 fun a23 =>
   LdI .i64 a23 v fun t24 =>
   If (t20 != t24) (R false v)
    (Ar .i64 (i + 1) fun i1 =>
    J i1 v))
   (R true v))
set_option maxRecDepth 100000 in
theorem freeholdref01_Ints.vc_eq (a : Sl) (b : Sl) (σ : Hp) (R : Bool → Hp → Prop) : fnK Try.prog Try.f31 freeholdref01_Ints.hint [.slice a.a a.len a.cap, .slice b.a b.len b.cap] [.one .b] R σ = freeholdref01_Ints.vc a b σ R := by kernel_rfl
theorem freeholdref01_Ints.of_vc {a : Sl} {b : Sl} {σ : Hp} {R : Bool → Hp → Prop} (hv : freeholdref01_Ints.vc a b σ R) : freeholdref01_Ints.call a b σ R :=
  fnK_sound Try.func31 (x := freeholdref01_Ints.hint) (args := [.slice a.a a.len a.cap, .slice b.a b.len b.cap]) (rs := [.one .b]) (R := R) (by rw [freeholdref01_Ints.vc_eq]; exact hv)
def buddy_Heap_made.hint : Hn := .seq (.reg (.seq [.op])) (.seq (.reg (.seq [.op, .op, .op, .grd true 5 [.op, .op, .op, .op, .op], .op])) (.leaf))
def buddy_Heap_made.vc (vh : Option Addr) (σ : Hp) (R : Bool → Hp → Prop) : Prop :=
 JnB (fun r v =>
  R r v) fun J =>
 If (!vh.isNone) (NilP vh fun a7 =>
  LdI .i64 (a7.add 0) σ fun t9 =>
  J (decide (t9 > 0)) σ)
  (J false σ)
set_option maxRecDepth 100000 in
theorem buddy_Heap_made.vc_eq (vh : Option Addr) (σ : Hp) (R : Bool → Hp → Prop) : fnK Try.prog Try.f32 buddy_Heap_made.hint [.pointer vh] [.one .b] R σ = buddy_Heap_made.vc vh σ R := by kernel_rfl
theorem buddy_Heap_made.of_vc {vh : Option Addr} {σ : Hp} {R : Bool → Hp → Prop} (hv : buddy_Heap_made.vc vh σ R) : buddy_Heap_made.call vh σ R :=
  fnK_sound Try.func32 (x := buddy_Heap_made.hint) (args := [.pointer vh]) (rs := [.one .b]) (R := R) (by rw [buddy_Heap_made.vc_eq]; exact hv)
def slices_Sorted_int.hint : Hn := .seq (.reg (.seq [.op])) (.seq (.reg (.seq [.op, .op, .op])) (.seq (.reg (.seq [.op, .op])) (.seq (.reg (.seq [.op, .op])) (.leaf))))
def slices_Sorted_int.vc (seq : Fv) (σ : Hp) (R : Sl → Hp → Prop) : Prop :=
 slices_Collect_int.call seq σ fun s v =>
 slices_Sort_int_int.call s v fun v1 =>
 R s v1
set_option maxRecDepth 100000 in
theorem slices_Sorted_int.vc_eq (seq : Fv) (σ : Hp) (R : Sl → Hp → Prop) : fnK Try.prog Try.f33 slices_Sorted_int.hint [.func (.func seq.f) seq.first seq.captured] [.one .s] R σ = slices_Sorted_int.vc seq σ R := by kernel_rfl
theorem slices_Sorted_int.of_vc {seq : Fv} {σ : Hp} {R : Sl → Hp → Prop} (hv : slices_Sorted_int.vc seq σ R) : slices_Sorted_int.call seq σ R :=
  fnK_sound Try.func33 (x := slices_Sorted_int.hint) (args := [.func (.func seq.f) seq.first seq.captured]) (rs := [.one .s]) (R := R) (by rw [slices_Sorted_int.vc_eq]; exact hv)
def maps_Keys_map_int_bool_int_bool.hint : Hn := .seq (.reg (.seq [.op, .op])) (.seq (.reg (.seq [.op, .op])) (.leaf))
def maps_Keys_map_int_bool_int_bool.vc (m : Option Nat) (σ : Hp) (R : Fv → Hp → Prop) : Prop :=
 Nw (.cells #[.map m] 66 (0, 0)) σ fun n1 v =>
 R ⟨54, #[], #[.pointer (some n1)]⟩ v
set_option maxRecDepth 100000 in
theorem maps_Keys_map_int_bool_int_bool.vc_eq (m : Option Nat) (σ : Hp) (R : Fv → Hp → Prop) : fnK Try.prog Try.f34 maps_Keys_map_int_bool_int_bool.hint [.map m] [.one .fn] R σ = maps_Keys_map_int_bool_int_bool.vc m σ R := by kernel_rfl
theorem maps_Keys_map_int_bool_int_bool.of_vc {m : Option Nat} {σ : Hp} {R : Fv → Hp → Prop} (hv : maps_Keys_map_int_bool_int_bool.vc m σ R) : maps_Keys_map_int_bool_int_bool.call m σ R :=
  fnK_sound Try.func34 (x := maps_Keys_map_int_bool_int_bool.hint) (args := [.map m]) (rs := [.one .fn]) (R := R) (by rw [maps_Keys_map_int_bool_int_bool.vc_eq]; exact hv)
def buddy_Heap_covered.hint : Hn := .seq (.reg (.seq [.op, .op, .op])) (.seq (.seq (.reg (.seq [.op, .op, .op, .op, .op, .op])) (.block (.loop [(15, .one (.i .i64))] (.seq (.reg (.seq [.op])) (.seq (.cond (.leaf) (.leaf)) (.seq (.block (.seq (.reg (.seq [.op, .op, .op, .op, .op])) (.seq (.reg (.seq [.op, .op, .op, .op, .op, .op])) (.seq (.reg (.seq [.op, .op, .op])) (.cond (.seq (.reg (.seq [.op, .op, .op, .op, .op])) (.leaf)) (.leaf)))))) (.reg (.seq [.op, .op])))))))) (.seq (.reg (.seq [.op, .op, .op])) (.leaf)))
def buddy_Heap_covered.vc (vh : Option Addr) (page : Int) (σ : Hp) (R : Int → Int → Bool → Hp → Prop) : Prop :=
 NilP vh fun a11 =>
 LdS (a11.add 1) σ fun t13 =>
 LoopK [(.i .i64)] (fun I => I 0 σ) fun J (t15 : Int) v =>
 If (decide (t15 < ((t13.len : Nat) : Int))) (Ix t13.a t13.len t15 1 fun a18 =>
  LdM a18 v fun l =>
  Nn t15 <|
  Nn t15 <| Ar .i64 ((page.fdiv (2 ^ (min t15.toNat IntKind.i64.bits))) * 2 ^ (min t15.toNat IntKind.i64.bits)) fun start =>
  Lk .i64 .b l start v fun t27 =>
  If (t27.getD false) (R t15 start true v)
   (Ar .i64 (t15 + 1) fun t30 =>
   J t30 v))
  (R 0 0 false v)
set_option maxRecDepth 100000 in
theorem buddy_Heap_covered.vc_eq (vh : Option Addr) (page : Int) (σ : Hp) (R : Int → Int → Bool → Hp → Prop) : fnK Try.prog Try.f35 buddy_Heap_covered.hint [.pointer vh, .int .i64 page] [.one (.i .i64), .one (.i .i64), .one .b] R σ = buddy_Heap_covered.vc vh page σ R := by kernel_rfl
theorem buddy_Heap_covered.of_vc {vh : Option Addr} {page : Int} {σ : Hp} {R : Int → Int → Bool → Hp → Prop} (hv : buddy_Heap_covered.vc vh page σ R) : buddy_Heap_covered.call vh page σ R :=
  fnK_sound Try.func35 (x := buddy_Heap_covered.hint) (args := [.pointer vh, .int .i64 page]) (rs := [.one (.i .i64), .one (.i .i64), .one .b]) (R := R) (by rw [buddy_Heap_covered.vc_eq]; exact hv)
def buddy_Heap_check.hint : Hn := .seq (.reg (.seq [.op])) (.seq (.block (.seq (.reg (.seq [.op, .op, .op, .op])) (.cond (.seq (.reg (.seq [.op])) (.leaf)) (.seq (.reg (.seq [.op, .op, .op, .grd false 2 [.op, .op], .op, .grd false 6 [.op, .op, .op, .op, .op, .op], .op, .grd false 8 [.op, .op, .op, .op, .op, .op, .op, .op], .op])) (.cond (.seq (.reg (.seq [.op])) (.leaf)) (.leaf)))))) (.seq (.reg (.seq [.op])) (.leaf)))
def buddy_Heap_check.vc (vh : Option Addr) (start : Int) (pages : Int) (σ : Hp) (R : Int → Hp → Prop) : Prop :=
 buddy_Heap_made.call vh σ fun t9 v =>
 If (!t9) (R 5 v)
  (JnB (fun r v1 =>
   JnB (fun r1 v2 =>
    JnB (fun r2 v3 =>
     If r2 (R 1 v3)
      (R 0 v3)) fun J2 =>
    If r1 (J2 true v2)
     (NilP vh fun a29 =>
     LdI .i64 (a29.add 0) v2 fun t31 =>
     Ar .i64 (t31 - start) fun t33 =>
     J2 (decide (pages > t33)) v2)) fun J1 =>
   If r (J1 true v1)
    (NilP vh fun a21 =>
    LdI .i64 (a21.add 0) v1 fun t23 =>
    J1 (decide (start > t23)) v1)) fun J =>
  If (decide (start < 0)) (J true v)
   (J (decide (pages < 1)) v))
set_option maxRecDepth 100000 in
theorem buddy_Heap_check.vc_eq (vh : Option Addr) (start : Int) (pages : Int) (σ : Hp) (R : Int → Hp → Prop) : fnK Try.prog Try.f36 buddy_Heap_check.hint [.pointer vh, .int .i64 start, .int .i64 pages] [.one (.i .i64)] R σ = buddy_Heap_check.vc vh start pages σ R := by kernel_rfl
theorem buddy_Heap_check.of_vc {vh : Option Addr} {start : Int} {pages : Int} {σ : Hp} {R : Int → Hp → Prop} (hv : buddy_Heap_check.vc vh start pages σ R) : buddy_Heap_check.call vh start pages σ R :=
  fnK_sound Try.func36 (x := buddy_Heap_check.hint) (args := [.pointer vh, .int .i64 start, .int .i64 pages]) (rs := [.one (.i .i64)]) (R := R) (by rw [buddy_Heap_check.vc_eq]; exact hv)
def buddy_Heap_free.hint : Hn := .block (.loop [(1, .one (.i .i64)), (2, .one (.i .i64))] (.seq (.seq (.reg (.seq [.op, .op])) (.cond (.leaf) (.leaf))) (.block (.seq (.reg (.seq [.op])) (.seq (.block (.loop [(6, .one (.i .i64))] (.seq (.seq (.reg (.seq [.op, .op, .op, .op, .op, .op, .op, .op, .op, .op, .grd true 5 [.op, .op, .op, .op, .op]])) (.cond (.leaf) (.leaf))) (.block (.reg (.seq [.op, .op, .op])))))) (.seq (.reg (.seq [.op, .op, .op, .op])) (.reg (.quiet [.op, .op, .op, .op, .op, .op, .op, .op, .op, .op]))))))))
def buddy_Heap_free.vc (vh : Option Addr) (start : Int) (pages : Int) (σ : Hp) (R : Hp → Prop) : Prop :=
 LoopK [(.i .i64), (.i .i64)] (fun I => I start pages σ) fun J (start1 : Int) (pages1 : Int) v =>
 If (decide (pages1 > 0)) (LoopK [(.i .i64)] (fun I1 => I1 0 v) fun J1 (k : Int) v1 =>
  Ar .i64 (k + 1) fun t11 =>
  Nn t11 <|
  Ar .i64 (k + 1) fun t14 =>
  Nn t14 <| Ar .i64 ((start1.fdiv (2 ^ (min t11.toNat IntKind.i64.bits))) * 2 ^ (min t14.toNat IntKind.i64.bits)) fun t15 =>
  JnB (fun r v2 =>
   If r (Ar .i64 (k + 1) fun k1 =>
    J1 k1 v2)
    (buddy_Heap_add.call vh k start1 v2 fun v3 =>
    Nn k <| Ar .i64 (1 * 2 ^ (min k.toNat IntKind.i64.bits)) fun t33 =>
    Ar .i64 (start1 + t33) fun start2 =>
    Nn k <| Ar .i64 (1 * 2 ^ (min k.toNat IntKind.i64.bits)) fun t37 =>
    Ar .i64 (pages1 - t37) fun pages2 =>
    J start2 pages2 v3)) fun J2 =>
  If (t15 == start1) (Ar .i64 (k + 1) fun t20 =>
   Nn t20 <| Ar .i64 (1 * 2 ^ (min t20.toNat IntKind.i64.bits)) fun t21 =>
   J2 (decide (t21 ≤ pages1)) v1)
   (J2 false v1))
  (R v)
set_option maxRecDepth 100000 in
theorem buddy_Heap_free.vc_eq (vh : Option Addr) (start : Int) (pages : Int) (σ : Hp) (R : Hp → Prop) : fnK Try.prog Try.f37 buddy_Heap_free.hint [.pointer vh, .int .i64 start, .int .i64 pages] [] R σ = buddy_Heap_free.vc vh start pages σ R := by kernel_rfl
theorem buddy_Heap_free.of_vc {vh : Option Addr} {start : Int} {pages : Int} {σ : Hp} {R : Hp → Prop} (hv : buddy_Heap_free.vc vh start pages σ R) : buddy_Heap_free.call vh start pages σ R :=
  fnK_sound Try.func37 (x := buddy_Heap_free.hint) (args := [.pointer vh, .int .i64 start, .int .i64 pages]) (rs := []) (R := R) (by rw [buddy_Heap_free.vc_eq]; exact hv)
def freeholdref01_Runs.hint : Hn := .seq (.reg (.seq [.op])) (.seq (.seq (.reg (.seq [.op, .op, .op, .op, .op])) (.cond (.seq (.reg (.seq [.op])) (.leaf)) (.leaf))) (.seq (.seq (.reg (.seq [.op])) (.block (.loop [(5, .one (.i .i64))] (.seq (.seq (.reg (.seq [.op, .op, .op, .op])) (.cond (.leaf) (.leaf))) (.seq (.block (.seq (.reg (.quiet [.op, .op, .op, .op, .op, .op, .op, .op, .op])) (.cond (.seq (.reg (.seq [.op])) (.leaf)) (.leaf)))) (.reg (.seq [.op, .op, .op]))))))) (.seq (.reg (.seq [.op])) (.leaf))))
def freeholdref01_Runs.vc (a : Sl) (b : Sl) (σ : Hp) (R : Bool → Hp → Prop) : Prop :=
 If (((a.len : Nat) : Int) != ((b.len : Nat) : Int)) (R false σ)
  (LoopK [(.i .i64)] (fun I => I 0 σ) fun J (i : Int) v =>
  If (decide (i < ((a.len : Nat) : Int))) (Ix a.a a.len i 2 fun a19 =>
   LdI .i64 (a19.add 0) v fun t20 =>
   LdI .i64 (a19.add 1) v fun t201 =>
   Ix b.a b.len i 2 fun a23 =>
   LdI .i64 (a23.add 0) v fun t24 =>
   LdI .i64 (a23.add 1) v fun t241 =>
   If (!((t20 == t24) && ((t201 == t241) && true))) (R false v)
    (Ar .i64 (i + 1) fun i1 =>
    J i1 v))
   (R true v))
set_option maxRecDepth 100000 in
theorem freeholdref01_Runs.vc_eq (a : Sl) (b : Sl) (σ : Hp) (R : Bool → Hp → Prop) : fnK Try.prog Try.f38 freeholdref01_Runs.hint [.slice a.a a.len a.cap, .slice b.a b.len b.cap] [.one .b] R σ = freeholdref01_Runs.vc a b σ R := by kernel_rfl
theorem freeholdref01_Runs.of_vc {a : Sl} {b : Sl} {σ : Hp} {R : Bool → Hp → Prop} (hv : freeholdref01_Runs.vc a b σ R) : freeholdref01_Runs.call a b σ R :=
  fnK_sound Try.func38 (x := freeholdref01_Runs.hint) (args := [.slice a.a a.len a.cap, .slice b.a b.len b.cap]) (rs := [.one .b]) (R := R) (by rw [freeholdref01_Runs.vc_eq]; exact hv)
def buddy_Heap_Runs.hint : Hn := .seq (.reg (.seq [.op])) (.seq (.seq (.reg (.seq [.op, .op, .op])) (.cond (.seq (.reg (.seq [.op])) (.leaf)) (.leaf))) (.seq (.reg (.seq [.op])) (.seq (.seq (.reg (.seq [.op])) (.block (.loop [(3, .one .s), (4, .one (.i .i64))] (.seq (.seq (.reg (.seq [.op, .op, .op, .op, .op, .op])) (.cond (.leaf) (.leaf))) (.block (.seq (.reg (.seq [.op, .op, .op, .op, .op, .op, .op, .op, .op, .op])) (.seq (.seq (.reg (.seq [.op, .op])) (.cond (.seq (.reg (.seq [.op, .op, .op])) (.leaf)) (.leaf))) (.sjn [(3, .one .s)] (.seq (.reg (.seq [.op, .op, .op, .op])) (.seq (.reg (.quiet [.op, .op, .op, .grd true 13 [.op, .op, .op, .op, .op, .op, .op, .op, .op, .op, .op, .op, .op]])) (.cond (.reg (.tail 10 [.op, .op, .op, .op, .op, .op, .op, .op, .op, .op] [.op])) (.reg (.seq [.op, .op, .op, .op, .op, .op, .op, .op]))))) (.reg (.seq [.op, .op, .op, .op, .op])))))))))) (.seq (.reg (.seq [.op, .op])) (.leaf)))))
def buddy_Heap_Runs.vc (vh : Option Addr) (σ : Hp) (R : Sl → Hp → Prop) : Prop :=
 buddy_Heap_made.call vh σ fun t10 v =>
 If (!t10) (R ⟨none, 0, 0⟩ v)
  (LoopK [.s, (.i .i64)] (fun I => I ⟨none, 0, 0⟩ 0 v) fun J (out : Sl) (p : Int) v1 =>
  NilP vh fun a14 =>
  LdI .i64 (a14.add 0) v1 fun t16 =>
  If (decide (p < t16)) (buddy_Heap_covered.call vh p v1 fun t21 t211 t212 v2 =>
   If (!t212) (Ar .i64 (p + 1) fun p1 =>
    J out p1 v2)
    (Jn [.s] (fun (out1 : Sl) v3 =>
     Nn t21 <| Ar .i64 (1 * 2 ^ (min t21.toNat IntKind.i64.bits)) fun t68 =>
     Ar .i64 (p + t68) fun p2 =>
     J out1 p2 v3) fun J1 =>
    Ar .i64 (((out.len : Nat) : Int) - 1) fun last =>
    JnB (fun r v4 =>
     If r (Ix out.a out.len last 2 fun a51 =>
      LdI .i64 (a51.add 1) v4 fun t53 =>
      Nn t21 <| Ar .i64 (1 * 2 ^ (min t21.toNat IntKind.i64.bits)) fun t55 =>
      Ar .i64 (t53 + t55) fun t56 =>
      Ix out.a out.len last 2 fun a57 =>
      St1 (a57.add 1) (.int .i64 t56) v4 fun v5 =>
      J1 out v5)
      (Nn t21 <| Ar .i64 (1 * 2 ^ (min t21.toNat IntKind.i64.bits)) fun t62 =>
      Nw (.cells #[.int .i64 p, .int .i64 t62] 80 (0, 0)) v4 fun n64 v6 =>
      App out 2 16 80 [.int .i64 0, .int .i64 0] ⟨(some n64), 1, 1⟩ v6 fun out2 v7 =>
      J1 out2 v7)) fun J2 =>
    If (decide (last ≥ 0)) (Ix out.a out.len last 2 fun a37 =>
     LdI .i64 (a37.add 0) v2 fun t39 =>
     Ix out.a out.len last 2 fun a42 =>
     LdI .i64 (a42.add 1) v2 fun t44 =>
     Ar .i64 (t39 + t44) fun t45 =>
     J2 (t45 == p) v2)
     (J2 false v2)))
   (R out v1))
set_option maxRecDepth 100000 in
theorem buddy_Heap_Runs.vc_eq (vh : Option Addr) (σ : Hp) (R : Sl → Hp → Prop) : fnK Try.prog Try.f39 buddy_Heap_Runs.hint [.pointer vh] [.one .s] R σ = buddy_Heap_Runs.vc vh σ R := by kernel_rfl
theorem buddy_Heap_Runs.of_vc {vh : Option Addr} {σ : Hp} {R : Sl → Hp → Prop} (hv : buddy_Heap_Runs.vc vh σ R) : buddy_Heap_Runs.call vh σ R :=
  fnK_sound Try.func39 (x := buddy_Heap_Runs.hint) (args := [.pointer vh]) (rs := [.one .s]) (R := R) (by rw [buddy_Heap_Runs.vc_eq]; exact hv)
def freeholdref03_Heap_made.hint : Hn := .seq (.reg (.seq [.op])) (.seq (.reg (.seq [.op, .op, .op, .grd true 6 [.op, .op, .op, .op, .op, .op], .op])) (.leaf))
def freeholdref03_Heap_made.vc (vh : Option Addr) (σ : Hp) (R : Bool → Hp → Prop) : Prop :=
 JnB (fun r v =>
  R r v) fun J =>
 If (!vh.isNone) (NilP vh fun a7 =>
  LdS (a7.add 0) σ fun t9 =>
  J (decide (((t9.len : Nat) : Int) > 0)) σ)
  (J false σ)
set_option maxRecDepth 100000 in
theorem freeholdref03_Heap_made.vc_eq (vh : Option Addr) (σ : Hp) (R : Bool → Hp → Prop) : fnK Try.prog Try.f41 freeholdref03_Heap_made.hint [.pointer vh] [.one .b] R σ = freeholdref03_Heap_made.vc vh σ R := by kernel_rfl
theorem freeholdref03_Heap_made.of_vc {vh : Option Addr} {σ : Hp} {R : Bool → Hp → Prop} (hv : freeholdref03_Heap_made.vc vh σ R) : freeholdref03_Heap_made.call vh σ R :=
  fnK_sound Try.func41 (x := freeholdref03_Heap_made.hint) (args := [.pointer vh]) (rs := [.one .b]) (R := R) (by rw [freeholdref03_Heap_made.vc_eq]; exact hv)
def freeholdref03_Heap_Give.hint : Hn := .seq (.reg (.seq [.op])) (.seq (.seq (.reg (.seq [.op, .op, .op])) (.cond (.seq (.reg (.seq [.op])) (.leaf)) (.leaf))) (.seq (.seq (.reg (.seq [.op, .op, .op, .op, .op])) (.cond (.seq (.reg (.seq [.op])) (.leaf)) (.leaf))) (.seq (.seq (.reg (.seq [.op, .op, .op, .op, .op])) (.cond (.seq (.reg (.seq [.op])) (.leaf)) (.leaf))) (.seq (.reg (.seq [.op, .op, .op, .op])) (.seq (.reg (.seq [.op])) (.leaf))))))
def freeholdref03_Heap_Give.vc (vh : Option Addr) (start : Int) (pages : Int) (σ : Hp) (R : Int → Hp → Prop) : Prop :=
 freeholdref03_Heap_made.call vh σ fun t8 v =>
 If (!t8) (R 5 v)
  (freeholdref03_Heap_in.call vh start pages v fun t13 v1 =>
  If (!t13) (R 1 v1)
   (freeholdref03_Heap_all.call vh start pages false v1 fun t18 v2 =>
   If (!t18) (R 9 v2)
    (freeholdref03_Heap_set.call vh start pages true v2 fun v3 =>
    R 0 v3)))
set_option maxRecDepth 100000 in
theorem freeholdref03_Heap_Give.vc_eq (vh : Option Addr) (start : Int) (pages : Int) (σ : Hp) (R : Int → Hp → Prop) : fnK Try.prog Try.f42 freeholdref03_Heap_Give.hint [.pointer vh, .int .i64 start, .int .i64 pages] [.one (.i .i64)] R σ = freeholdref03_Heap_Give.vc vh start pages σ R := by kernel_rfl
theorem freeholdref03_Heap_Give.of_vc {vh : Option Addr} {start : Int} {pages : Int} {σ : Hp} {R : Int → Hp → Prop} (hv : freeholdref03_Heap_Give.vc vh start pages σ R) : freeholdref03_Heap_Give.call vh start pages σ R :=
  fnK_sound Try.func42 (x := freeholdref03_Heap_Give.hint) (args := [.pointer vh, .int .i64 start, .int .i64 pages]) (rs := [.one (.i .i64)]) (R := R) (by rw [freeholdref03_Heap_Give.vc_eq]; exact hv)
def freeholdref03_Heap_Take.hint : Hn := .seq (.reg (.seq [.op, .op])) (.seq (.seq (.reg (.seq [.op, .op, .op])) (.cond (.seq (.reg (.seq [.op, .op])) (.leaf)) (.leaf))) (.seq (.seq (.reg (.seq [.op, .op, .op, .grd false 2 [.op, .op], .op, .grd false 3 [.op, .op, .op]])) (.cond (.seq (.reg (.seq [.op, .op])) (.leaf)) (.leaf))) (.seq (.reg (.seq [.op])) (.seq (.seq (.reg (.seq [.op])) (.block (.loop [(8, .one (.i .i64)), (9, .one (.i .i64))] (.seq (.seq (.reg (.seq [.op, .op])) (.cond (.leaf) (.leaf))) (.seq (.block (.seq (.seq (.reg (.seq [.op, .op, .op, .op, .grd true 3 [.op, .op, .op]])) (.cond (.seq (.reg (.seq [.op, .op, .op, .op])) (.seq (.reg (.seq [.op, .op, .op])) (.cond (.seq (.reg (.seq [.op, .op, .op, .op, .op, .op])) (.seq (.reg (.seq [.op, .op, .op, .op, .op])) (.leaf))) (.leaf)))) (.leaf))) (.reg (.seq [.op, .op, .op])))) (.reg (.seq [.op, .op, .op]))))))) (.seq (.reg (.seq [.op, .op])) (.leaf))))))
def freeholdref03_Heap_Take.vc (vh : Option Addr) (pages : Int) (align : Int) (σ : Hp) (R : Int → Int → Hp → Prop) : Prop :=
 freeholdref03_Heap_made.call vh σ fun t12 v =>
 If (!t12) (R 0 5 v)
  (JnB (fun r v1 =>
   JnB (fun r1 v2 =>
    If r1 (R 0 1 v2)
     (LoopK [(.i .i64), (.i .i64)] (fun I => I 1 0 v2) fun J2 (size : Int) (order : Int) v3 =>
     If (decide (order ≤ 10)) (JnB (fun r2 v4 =>
       If r2 (freeholdref03_Heap_Blocks.call vh order v4 fun l v5 =>
        If (decide (((l.len : Nat) : Int) > 0)) (Ix l.a l.len 0 1 fun a45 =>
         LdI .i64 a45 v5 fun t46 =>
         freeholdref03_Heap_set.call vh t46 pages false v5 fun v6 =>
         Ix l.a l.len 0 1 fun a50 =>
         LdI .i64 a50 v6 fun t51 =>
         R t51 0 v6)
         (Ar .i64 (2 * size) fun size1 =>
         Ar .i64 (order + 1) fun order1 =>
         J2 size1 order1 v5))
        (Ar .i64 (2 * size) fun size2 =>
        Ar .i64 (order + 1) fun order2 =>
        J2 size2 order2 v4)) fun J3 =>
      If (decide (size ≥ pages)) (J3 (decide (size ≥ align)) v3)
       (J3 false v3))
      (R 0 6 v3))) fun J1 =>
   If r (J1 true v1)
    (freeholdref01_Power.call align 1024 v1 fun t22 v7 =>
    J1 (!t22) v7)) fun J =>
  If (decide (pages < 1)) (J true v)
   (J (decide (pages > 1024)) v))
set_option maxRecDepth 100000 in
theorem freeholdref03_Heap_Take.vc_eq (vh : Option Addr) (pages : Int) (align : Int) (σ : Hp) (R : Int → Int → Hp → Prop) : fnK Try.prog Try.f43 freeholdref03_Heap_Take.hint [.pointer vh, .int .i64 pages, .int .i64 align] [.one (.i .i64), .one (.i .i64)] R σ = freeholdref03_Heap_Take.vc vh pages align σ R := by kernel_rfl
theorem freeholdref03_Heap_Take.of_vc {vh : Option Addr} {pages : Int} {align : Int} {σ : Hp} {R : Int → Int → Hp → Prop} (hv : freeholdref03_Heap_Take.vc vh pages align σ R) : freeholdref03_Heap_Take.call vh pages align σ R :=
  fnK_sound Try.func43 (x := freeholdref03_Heap_Take.hint) (args := [.pointer vh, .int .i64 pages, .int .i64 align]) (rs := [.one (.i .i64), .one (.i .i64)]) (R := R) (by rw [freeholdref03_Heap_Take.vc_eq]; exact hv)
def buddy_Heap_TakeRun.hint : Hn := .seq (.reg (.seq [.op])) (.seq (.seq (.reg (.seq [.op, .op, .op, .op, .op])) (.seq (.reg (.seq [.op, .op])) (.cond (.seq (.reg (.seq [.op, .op])) (.leaf)) (.leaf)))) (.seq (.seq (.reg (.seq [.op, .op])) (.block (.loop [(8, .one (.i .i64))] (.seq (.seq (.reg (.seq [.op, .op, .op, .op, .op])) (.cond (.leaf) (.leaf))) (.seq (.block (.seq (.reg (.seq [.op, .op, .op, .op])) (.cond (.seq (.reg (.seq [.op])) (.leaf)) (.leaf)))) (.reg (.seq [.op, .op, .op]))))))) (.seq (.reg (.seq [.op, .op, .op, .op])) (.seq (.reg (.seq [.op])) (.leaf)))))
def buddy_Heap_TakeRun.vc (vh : Option Addr) (start : Int) (pages : Int) (σ : Hp) (R : Int → Hp → Prop) : Prop :=
 buddy_Heap_check.call vh start pages σ fun ve v =>
 If (ve != 0) (R ve v)
  (LoopK [(.i .i64)] (fun I => I start v) fun J (p : Int) v1 =>
  Ar .i64 (start + pages) fun t20 =>
  If (decide (p < t20)) (buddy_Heap_IsFree.call vh p v1 fun t26 v2 =>
   If (!t26) (R 4 v2)
    (Ar .i64 (p + 1) fun p1 =>
    J p1 v2))
   (buddy_Heap_cut.call vh start pages v1 fun v3 =>
   R 0 v3))
set_option maxRecDepth 100000 in
theorem buddy_Heap_TakeRun.vc_eq (vh : Option Addr) (start : Int) (pages : Int) (σ : Hp) (R : Int → Hp → Prop) : fnK Try.prog Try.f44 buddy_Heap_TakeRun.hint [.pointer vh, .int .i64 start, .int .i64 pages] [.one (.i .i64)] R σ = buddy_Heap_TakeRun.vc vh start pages σ R := by kernel_rfl
theorem buddy_Heap_TakeRun.of_vc {vh : Option Addr} {start : Int} {pages : Int} {σ : Hp} {R : Int → Hp → Prop} (hv : buddy_Heap_TakeRun.vc vh start pages σ R) : buddy_Heap_TakeRun.call vh start pages σ R :=
  fnK_sound Try.func44 (x := buddy_Heap_TakeRun.hint) (args := [.pointer vh, .int .i64 start, .int .i64 pages]) (rs := [.one (.i .i64)]) (R := R) (by rw [buddy_Heap_TakeRun.vc_eq]; exact hv)
def freeholdref03_Heap_TakeRun.hint : Hn := .seq (.reg (.seq [.op])) (.seq (.seq (.reg (.seq [.op, .op, .op])) (.cond (.seq (.reg (.seq [.op])) (.leaf)) (.leaf))) (.seq (.seq (.reg (.seq [.op, .op, .op, .op, .op])) (.cond (.seq (.reg (.seq [.op])) (.leaf)) (.leaf))) (.seq (.seq (.reg (.seq [.op, .op, .op, .op, .op])) (.cond (.seq (.reg (.seq [.op])) (.leaf)) (.leaf))) (.seq (.reg (.seq [.op, .op, .op, .op])) (.seq (.reg (.seq [.op])) (.leaf))))))
def freeholdref03_Heap_TakeRun.vc (vh : Option Addr) (start : Int) (pages : Int) (σ : Hp) (R : Int → Hp → Prop) : Prop :=
 freeholdref03_Heap_made.call vh σ fun t8 v =>
 If (!t8) (R 5 v)
  (freeholdref03_Heap_in.call vh start pages v fun t13 v1 =>
  If (!t13) (R 1 v1)
   (freeholdref03_Heap_all.call vh start pages true v1 fun t18 v2 =>
   If (!t18) (R 4 v2)
    (freeholdref03_Heap_set.call vh start pages false v2 fun v3 =>
    R 0 v3)))
set_option maxRecDepth 100000 in
theorem freeholdref03_Heap_TakeRun.vc_eq (vh : Option Addr) (start : Int) (pages : Int) (σ : Hp) (R : Int → Hp → Prop) : fnK Try.prog Try.f45 freeholdref03_Heap_TakeRun.hint [.pointer vh, .int .i64 start, .int .i64 pages] [.one (.i .i64)] R σ = freeholdref03_Heap_TakeRun.vc vh start pages σ R := by kernel_rfl
theorem freeholdref03_Heap_TakeRun.of_vc {vh : Option Addr} {start : Int} {pages : Int} {σ : Hp} {R : Int → Hp → Prop} (hv : freeholdref03_Heap_TakeRun.vc vh start pages σ R) : freeholdref03_Heap_TakeRun.call vh start pages σ R :=
  fnK_sound Try.func45 (x := freeholdref03_Heap_TakeRun.hint) (args := [.pointer vh, .int .i64 start, .int .i64 pages]) (rs := [.one (.i .i64)]) (R := R) (by rw [freeholdref03_Heap_TakeRun.vc_eq]; exact hv)
def freeholdref03_Heap_Free.hint : Hn := .seq (.reg (.seq [.op])) (.seq (.reg (.seq [.op])) (.seq (.seq (.reg (.seq [.op, .op, .op])) (.cond (.seq (.reg (.seq [.op, .op])) (.leaf)) (.leaf))) (.seq (.seq (.reg (.seq [.op])) (.block (.loop [(3, .one (.i .i64)), (4, .one (.i .i64))] (.seq (.seq (.reg (.seq [.op, .op, .op, .op, .op, .op, .op])) (.cond (.leaf) (.leaf))) (.seq (.block (.seq (.reg (.seq [.op, .op, .op, .op, .op, .op, .op])) (.cond (.reg (.seq [.op, .op, .op])) (.leaf)))) (.reg (.seq [.op, .op, .op]))))))) (.seq (.reg (.seq [.op, .op])) (.leaf)))))
def freeholdref03_Heap_Free.vc (vh : Option Addr) (σ : Hp) (R : Int → Hp → Prop) : Prop :=
 freeholdref03_Heap_made.call vh σ fun t6 v =>
 If (!t6) (R 0 v)
  (LoopK [(.i .i64), (.i .i64)] (fun I => I 0 0 v) fun J (n : Int) (p : Int) v1 =>
  NilP vh fun a11 =>
  LdS (a11.add 0) v1 fun t13 =>
  If (decide (p < ((t13.len : Nat) : Int))) (NilP vh fun a19 =>
   LdS (a19.add 0) v1 fun t21 =>
   Ix t21.a t21.len p 1 fun a23 =>
   LdB a23 v1 fun t24 =>
   If t24 (Ar .i64 (n + 1) fun n1 =>
    Ar .i64 (p + 1) fun p1 =>
    J n1 p1 v1)
    (Ar .i64 (p + 1) fun p2 =>
    J n p2 v1))
   (R n v1))
set_option maxRecDepth 100000 in
theorem freeholdref03_Heap_Free.vc_eq (vh : Option Addr) (σ : Hp) (R : Int → Hp → Prop) : fnK Try.prog Try.f46 freeholdref03_Heap_Free.hint [.pointer vh] [.one (.i .i64)] R σ = freeholdref03_Heap_Free.vc vh σ R := by kernel_rfl
theorem freeholdref03_Heap_Free.of_vc {vh : Option Addr} {σ : Hp} {R : Int → Hp → Prop} (hv : freeholdref03_Heap_Free.vc vh σ R) : freeholdref03_Heap_Free.call vh σ R :=
  fnK_sound Try.func46 (x := freeholdref03_Heap_Free.hint) (args := [.pointer vh]) (rs := [.one (.i .i64)]) (R := R) (by rw [freeholdref03_Heap_Free.vc_eq]; exact hv)
def freeholdref03_Heap_Order.hint : Hn := .seq (.reg (.seq [.op])) (.seq (.seq (.reg (.seq [.op, .op, .op])) (.cond (.seq (.reg (.seq [.op])) (.leaf)) (.leaf))) (.seq (.reg (.seq [.op])) (.seq (.seq (.reg (.seq [.op])) (.block (.loop [(3, .one (.i .i64)), (4, .one (.i .i64))] (.seq (.seq (.reg (.seq [.op, .op])) (.cond (.leaf) (.leaf))) (.seq (.block (.seq (.reg (.seq [.op, .op, .op, .op, .op])) (.cond (.reg (.seq [.op, .op])) (.leaf)))) (.reg (.seq [.op, .op, .op]))))))) (.seq (.reg (.seq [.op, .op])) (.leaf)))))
def freeholdref03_Heap_Order.vc (vh : Option Addr) (σ : Hp) (R : Int → Hp → Prop) : Prop :=
 freeholdref03_Heap_made.call vh σ fun t6 v =>
 If (!t6) (R (-1) v)
  (LoopK [(.i .i64), (.i .i64)] (fun I => I (-1) 0 v) fun J (most : Int) (order : Int) v1 =>
  If (decide (order ≤ 10)) (freeholdref03_Heap_Blocks.call vh order v1 fun t14 v2 =>
   If (decide (((t14.len : Nat) : Int) > 0)) (Ar .i64 (order + 1) fun order1 =>
    J order order1 v2)
    (Ar .i64 (order + 1) fun order2 =>
    J most order2 v2))
   (R most v1))
set_option maxRecDepth 100000 in
theorem freeholdref03_Heap_Order.vc_eq (vh : Option Addr) (σ : Hp) (R : Int → Hp → Prop) : fnK Try.prog Try.f47 freeholdref03_Heap_Order.hint [.pointer vh] [.one (.i .i64)] R σ = freeholdref03_Heap_Order.vc vh σ R := by kernel_rfl
theorem freeholdref03_Heap_Order.of_vc {vh : Option Addr} {σ : Hp} {R : Int → Hp → Prop} (hv : freeholdref03_Heap_Order.vc vh σ R) : freeholdref03_Heap_Order.call vh σ R :=
  fnK_sound Try.func47 (x := freeholdref03_Heap_Order.hint) (args := [.pointer vh]) (rs := [.one (.i .i64)]) (R := R) (by rw [freeholdref03_Heap_Order.vc_eq]; exact hv)
def freeholdref03_Heap_Runs.hint : Hn := .seq (.reg (.seq [.op])) (.seq (.reg (.seq [.op])) (.seq (.seq (.reg (.seq [.op, .op, .op])) (.cond (.seq (.reg (.seq [.op, .op])) (.leaf)) (.leaf))) (.seq (.seq (.reg (.seq [.op])) (.block (.loop [(3, .one .s), (4, .one (.i .i64))] (.seq (.seq (.reg (.seq [.op, .op, .op, .op, .op, .op, .op])) (.cond (.leaf) (.leaf))) (.seq (.block (.seq (.seq (.reg (.seq [.op, .op, .op, .op, .op, .op, .op, .op])) (.cond (.leaf) (.leaf))) (.seq (.reg (.seq [.op, .op, .op])) (.seq (.reg (.quiet [.op, .op, .op, .grd true 15 [.op, .op, .op, .op, .op, .op, .op, .op, .op, .op, .op, .op, .op, .op, .op]])) (.cond (.reg (.seq [.op, .op, .op, .op, .op, .op, .op, .op, .op, .op])) (.reg (.seq [.op, .op, .op, .op, .op, .op]))))))) (.reg (.seq [.op, .op, .op]))))))) (.seq (.reg (.seq [.op, .op])) (.leaf)))))
def freeholdref03_Heap_Runs.vc (vh : Option Addr) (σ : Hp) (R : Sl → Hp → Prop) : Prop :=
 freeholdref03_Heap_made.call vh σ fun t7 v =>
 If (!t7) (R ⟨none, 0, 0⟩ v)
  (LoopK [.s, (.i .i64)] (fun I => I ⟨none, 0, 0⟩ 0 v) fun J (l : Sl) (p : Int) v1 =>
  NilP vh fun a12 =>
  LdS (a12.add 0) v1 fun t14 =>
  If (decide (p < ((t14.len : Nat) : Int))) (NilP vh fun a20 =>
   LdS (a20.add 0) v1 fun t22 =>
   Ix t22.a t22.len p 1 fun a24 =>
   LdB a24 v1 fun t25 =>
   If (!t25) (Ar .i64 (p + 1) fun p1 =>
    J l p1 v1)
    (JnB (fun r v2 =>
     If r (Ar .i64 (((l.len : Nat) : Int) - 1) fun t50 =>
      Ix l.a l.len t50 2 fun a51 =>
      LdI .i64 (a51.add 1) v2 fun t53 =>
      Ar .i64 (t53 + 1) fun t54 =>
      Ix l.a l.len t50 2 fun a55 =>
      St1 (a55.add 1) (.int .i64 t54) v2 fun v3 =>
      Ar .i64 (p + 1) fun p2 =>
      J l p2 v3)
      (Nw (.cells #[.int .i64 p, .int .i64 1] 80 (0, 0)) v2 fun n60 v4 =>
      App l 2 16 80 [.int .i64 0, .int .i64 0] ⟨(some n60), 1, 1⟩ v4 fun l1 v5 =>
      Ar .i64 (p + 1) fun p3 =>
      J l1 p3 v5)) fun J1 =>
    If (decide (((l.len : Nat) : Int) > 0)) (Ar .i64 (((l.len : Nat) : Int) - 1) fun t34 =>
     Ix l.a l.len t34 2 fun a35 =>
     LdI .i64 (a35.add 0) v1 fun t37 =>
     Ar .i64 (((l.len : Nat) : Int) - 1) fun t40 =>
     Ix l.a l.len t40 2 fun a41 =>
     LdI .i64 (a41.add 1) v1 fun t43 =>
     Ar .i64 (t37 + t43) fun t44 =>
     J1 (t44 == p) v1)
     (J1 false v1)))
   (R l v1))
set_option maxRecDepth 100000 in
theorem freeholdref03_Heap_Runs.vc_eq (vh : Option Addr) (σ : Hp) (R : Sl → Hp → Prop) : fnK Try.prog Try.f48 freeholdref03_Heap_Runs.hint [.pointer vh] [.one .s] R σ = freeholdref03_Heap_Runs.vc vh σ R := by kernel_rfl
theorem freeholdref03_Heap_Runs.of_vc {vh : Option Addr} {σ : Hp} {R : Sl → Hp → Prop} (hv : freeholdref03_Heap_Runs.vc vh σ R) : freeholdref03_Heap_Runs.call vh σ R :=
  fnK_sound Try.func48 (x := freeholdref03_Heap_Runs.hint) (args := [.pointer vh]) (rs := [.one .s]) (R := R) (by rw [freeholdref03_Heap_Runs.vc_eq]; exact hv)
def freeholdref03_Heap_Blocks.hint : Hn := .seq (.reg (.seq [.op])) (.seq (.reg (.seq [.op])) (.seq (.seq (.reg (.seq [.op, .op, .op, .op, .grd false 2 [.op, .op], .op, .grd false 2 [.op, .op]])) (.cond (.seq (.reg (.seq [.op, .op])) (.leaf)) (.leaf))) (.seq (.reg (.seq [.op])) (.seq (.seq (.reg (.seq [.op])) (.block (.loop [(6, .one (.i .i64)), (7, .one (.i .i64))] (.seq (.seq (.reg (.seq [.op, .op, .op])) (.cond (.leaf) (.leaf))) (.seq (.block (.reg (.seq [.op, .op, .op]))) (.reg (.seq [.op, .op, .op]))))))) (.seq (.seq (.reg (.seq [.op])) (.block (.loop [(5, .one .s), (8, .one (.i .i64))] (.seq (.seq (.reg (.seq [.op, .op, .op, .op, .op, .op, .op])) (.cond (.leaf) (.leaf))) (.sjn [(5, .one .s)] (.block (.seq (.reg (.seq [.op, .op, .op, .op, .op, .grd true 12 [.op, .op, .op, .op, .op, .op, .op, .op, .op, .op, .op, .op]])) (.cond (.reg (.seq [.op, .op, .op, .op, .op])) (.leaf)))) (.reg (.seq [.op, .op, .op, .op]))))))) (.seq (.reg (.seq [.op, .op])) (.leaf)))))))
def freeholdref03_Heap_Blocks.vc (vh : Option Addr) (order : Int) (σ : Hp) (R : Sl → Hp → Prop) : Prop :=
 freeholdref03_Heap_made.call vh σ fun t10 v =>
 JnB (fun r v1 =>
  JnB (fun r1 v2 =>
   If r1 (R ⟨none, 0, 0⟩ v2)
    (LoopK [(.i .i64), (.i .i64)] (fun I => I 1 0 v2) fun J2 (size : Int) (i : Int) v3 =>
    If (decide (i < order)) (Ar .i64 (2 * size) fun size1 =>
     Ar .i64 (i + 1) fun i1 =>
     J2 size1 i1 v3)
     (LoopK [.s, (.i .i64)] (fun I1 => I1 ⟨none, 0, 0⟩ 0 v3) fun J3 (l : Sl) (p : Int) v4 =>
     NilP vh fun a30 =>
     LdS (a30.add 0) v4 fun t32 =>
     If (decide (p < ((t32.len : Nat) : Int))) (Jn [.s] (fun (l1 : Sl) v5 =>
       Ar .i64 (p + size) fun p1 =>
       J3 l1 p1 v5) fun J4 =>
      freeholdref03_Heap_place.call vh p size v4 fun t41 v6 =>
      JnB (fun r2 v7 =>
       If r2 (Nw (.cells #[.int .i64 p] 3 (0, 0)) v7 fun n58 v8 =>
        App l 1 8 3 [.int .i64 0] ⟨(some n58), 1, 1⟩ v8 fun l2 v9 =>
        J4 l2 v9)
        (J4 l v7)) fun J5 =>
      If t41 (Ar .i64 (2 * size) fun t46 =>
       Nz t46 <| Ar .i64 (p.tdiv t46) fun t47 =>
       Ar .i64 (2 * size) fun t49 =>
       Ar .i64 (t47 * t49) fun t50 =>
       Ar .i64 (2 * size) fun t52 =>
       freeholdref03_Heap_place.call vh t50 t52 v6 fun t53 v10 =>
       J5 (!t53) v10)
       (J5 false v6))
      (R l v4)))) fun J1 =>
  If r (J1 true v1)
   (J1 (decide (order > 20)) v1)) fun J =>
 If (!t10) (J true v)
  (J (decide (order < 0)) v)
set_option maxRecDepth 100000 in
theorem freeholdref03_Heap_Blocks.vc_eq (vh : Option Addr) (order : Int) (σ : Hp) (R : Sl → Hp → Prop) : fnK Try.prog Try.f49 freeholdref03_Heap_Blocks.hint [.pointer vh, .int .i64 order] [.one .s] R σ = freeholdref03_Heap_Blocks.vc vh order σ R := by kernel_rfl
theorem freeholdref03_Heap_Blocks.of_vc {vh : Option Addr} {order : Int} {σ : Hp} {R : Sl → Hp → Prop} (hv : freeholdref03_Heap_Blocks.vc vh order σ R) : freeholdref03_Heap_Blocks.call vh order σ R :=
  fnK_sound Try.func49 (x := freeholdref03_Heap_Blocks.hint) (args := [.pointer vh, .int .i64 order]) (rs := [.one .s]) (R := R) (by rw [freeholdref03_Heap_Blocks.vc_eq]; exact hv)
def slices_Min_int_int.hint : Hn := .seq (.reg (.seq [.op])) (.sjn [] (.seq (.reg (.seq [.op, .op, .op])) (.cond (.reg (.seq [.op, .op])) (.leaf))) (.seq (.reg (.seq [.op, .op, .op, .op])) (.seq (.seq (.reg (.seq [.op])) (.block (.loop [(3, .one (.i .i64)), (4, .one (.i .i64))] (.seq (.seq (.reg (.seq [.op, .op, .op, .op])) (.cond (.leaf) (.leaf))) (.seq (.block (.reg (.seq [.op, .op, .op, .op, .op, .op, .op]))) (.reg (.seq [.op, .op, .op]))))))) (.seq (.reg (.seq [.op, .op])) (.leaf)))))
def slices_Min_int_int.vc (vx : Sl) (σ : Hp) (R : Int → Hp → Prop) : Prop :=
 Jn [] (fun v =>
  Ix vx.a vx.len 0 1 fun a10 =>
  LdI .i64 a10 v fun m =>
  LoopK [(.i .i64), (.i .i64)] (fun I => I m 1 v) fun J1 (m1 : Int) (i : Int) v1 =>
  If (decide (i < ((vx.len : Nat) : Int))) (Ix vx.a vx.len i 1 fun a21 =>
   LdI .i64 a21 v1 fun t22 =>
   Ar .i64 (i + 1) fun i1 =>
   J1 (if t22 < m1 then t22 else m1) i1 v1)
   (R m1 v1)) fun J =>
 If (decide (((vx.len : Nat) : Int) < 1)) (False)
  (J σ)
set_option maxRecDepth 100000 in
theorem slices_Min_int_int.vc_eq (vx : Sl) (σ : Hp) (R : Int → Hp → Prop) : fnK Try.prog Try.f50 slices_Min_int_int.hint [.slice vx.a vx.len vx.cap] [.one (.i .i64)] R σ = slices_Min_int_int.vc vx σ R := by kernel_rfl
theorem slices_Min_int_int.of_vc {vx : Sl} {σ : Hp} {R : Int → Hp → Prop} (hv : slices_Min_int_int.vc vx σ R) : slices_Min_int_int.call vx σ R :=
  fnK_sound Try.func50 (x := slices_Min_int_int.hint) (args := [.slice vx.a vx.len vx.cap]) (rs := [.one (.i .i64)]) (R := R) (by rw [slices_Min_int_int.vc_eq]; exact hv)
def slices_Collect_int.hint : Hn := .seq (.reg (.seq [.op])) (.seq (.reg (.seq [.op, .op, .op])) (.leaf))
def slices_Collect_int.vc (seq : Fv) (σ : Hp) (R : Sl → Hp → Prop) : Prop :=
 slices_AppendSeq_int_int.call ⟨none, 0, 0⟩ seq σ fun t4 v =>
 R t4 v
set_option maxRecDepth 100000 in
theorem slices_Collect_int.vc_eq (seq : Fv) (σ : Hp) (R : Sl → Hp → Prop) : fnK Try.prog Try.f51 slices_Collect_int.hint [.func (.func seq.f) seq.first seq.captured] [.one .s] R σ = slices_Collect_int.vc seq σ R := by kernel_rfl
theorem slices_Collect_int.of_vc {seq : Fv} {σ : Hp} {R : Sl → Hp → Prop} (hv : slices_Collect_int.vc seq σ R) : slices_Collect_int.call seq σ R :=
  fnK_sound Try.func51 (x := slices_Collect_int.hint) (args := [.func (.func seq.f) seq.first seq.captured]) (rs := [.one .s]) (R := R) (by rw [slices_Collect_int.vc_eq]; exact hv)
def buddy_Heap_cut.hint : Hn := .seq (.reg (.seq [.op, .op])) (.block (.loop [(6, .one (.i .i64))] (.seq (.seq (.reg (.seq [.op, .op, .op, .op, .op])) (.cond (.leaf) (.leaf))) (.block (.seq (.reg (.seq [.op, .op, .op, .op, .op, .op, .op, .op, .op, .op])) (.seq (.reg (.seq [.op, .op, .op, .op, .op, .op, .op, .op, .op])) (.seq (.reg (.seq [.op, .op, .op, .op, .op])) (.seq (.reg (.seq [.op, .op, .op, .op, .op, .op])) (.seq (.seq (.reg (.seq [.op, .op, .op, .op])) (.seq (.reg (.seq [.op, .op, .op])) (.cond (.reg (.seq [.op, .op, .op, .op, .op, .op])) (.leaf)))) (.reg (.seq [.op, .op])))))))))))
def buddy_Heap_cut.vc (vh : Option Addr) (start : Int) (pages : Int) (σ : Hp) (R : Hp → Prop) : Prop :=
 LoopK [(.i .i64)] (fun I => I start σ) fun J (p : Int) v =>
 Ar .i64 (start + pages) fun t16 =>
 If (decide (p < t16)) (buddy_Heap_covered.call vh p v fun t21 t211 t212 v1 =>
  NilP vh fun a26 =>
  LdS (a26.add 1) v1 fun t28 =>
  Ix t28.a t28.len t21 1 fun a30 =>
  LdM a30 v1 fun t31 =>
  MDel .i64 .b t31 t211 v1 fun v2 =>
  Nn t21 <| Ar .i64 (1 * 2 ^ (min t21.toNat IntKind.i64.bits)) fun t35 =>
  Ar .i64 (t211 + t35) fun vend =>
  Ar .i64 (p - t211) fun t41 =>
  buddy_Heap_free.call vh t211 t41 v2 fun v3 =>
  Ar .i64 (start + pages) fun last =>
  If (decide (vend > last)) (Ar .i64 (vend - last) fun t53 =>
   buddy_Heap_free.call vh last t53 v3 fun v4 =>
   J vend v4)
   (J vend v3))
  (R v)
set_option maxRecDepth 100000 in
theorem buddy_Heap_cut.vc_eq (vh : Option Addr) (start : Int) (pages : Int) (σ : Hp) (R : Hp → Prop) : fnK Try.prog Try.f52 buddy_Heap_cut.hint [.pointer vh, .int .i64 start, .int .i64 pages] [] R σ = buddy_Heap_cut.vc vh start pages σ R := by kernel_rfl
theorem buddy_Heap_cut.of_vc {vh : Option Addr} {start : Int} {pages : Int} {σ : Hp} {R : Hp → Prop} (hv : buddy_Heap_cut.vc vh start pages σ R) : buddy_Heap_cut.call vh start pages σ R :=
  fnK_sound Try.func52 (x := buddy_Heap_cut.hint) (args := [.pointer vh, .int .i64 start, .int .i64 pages]) (rs := []) (R := R) (by rw [buddy_Heap_cut.vc_eq]; exact hv)
def slices_Sort_int_int.hint : Hn := .seq (.reg (.seq [.op, .op, .op])) (.reg (.seq [.op, .op, .op, .op, .op, .op]))
def slices_Sort_int_int.vc (vx : Sl) (σ : Hp) (R : Hp → Prop) : Prop :=
 Ar .u64 ((vx.len : Nat) : Int) fun t8 =>
 math_bits_Len.call t8 σ fun t9 v =>
 slices_pdqsortOrdered_int.call vx 0 ((vx.len : Nat) : Int) t9 v fun v1 =>
 R v1
set_option maxRecDepth 100000 in
theorem slices_Sort_int_int.vc_eq (vx : Sl) (σ : Hp) (R : Hp → Prop) : fnK Try.prog Try.f53 slices_Sort_int_int.hint [.slice vx.a vx.len vx.cap] [] R σ = slices_Sort_int_int.vc vx σ R := by kernel_rfl
theorem slices_Sort_int_int.of_vc {vx : Sl} {σ : Hp} {R : Hp → Prop} (hv : slices_Sort_int_int.vc vx σ R) : slices_Sort_int_int.call vx σ R :=
  fnK_sound Try.func53 (x := slices_Sort_int_int.hint) (args := [.slice vx.a vx.len vx.cap]) (rs := []) (R := R) (by rw [slices_Sort_int_int.vc_eq]; exact hv)
def maps_Keys_map_int_bool_int_bool_L1.hint : Hn := .seq (.reg (.seq [.op, .op])) (.block (.loop [] (.seq (.reg (.seq [.it .i64 .b, .op])) (.seq (.cond (.leaf) (.leaf)) (.block (.seq (.reg (.seq [.it .i64 .b, .op, .op])) (.seq (.reg (.seq [.op, .op, .op, .op])) (.cond (.leaf) (.leaf)))))))))
def maps_Keys_map_int_bool_int_bool_L1.vc (yield : Fv) (cap0 : Addr) (σ : Hp) (R : Hp → Prop) : Prop :=
 LdM cap0 σ fun t4 =>
 Rng .i64 .b t4 σ fun it v =>
 LoopK [] (fun I => I v) fun J v1 =>
 Nxt .i64 .b it v1 (R v1)
  (fun key val v2 =>
  Ent .i64 .b it v2 fun key1 val1 =>
  CallF Try.prog yield [.int .i64 key1] [.one .b] v2 fun t12 v3 =>
  If (!t12) (R v3)
   (J v3))
set_option maxRecDepth 100000 in
theorem maps_Keys_map_int_bool_int_bool_L1.vc_eq (yield : Fv) (cap0 : Addr) (σ : Hp) (R : Hp → Prop) : fnK Try.prog Try.f54 maps_Keys_map_int_bool_int_bool_L1.hint [.func (.func yield.f) yield.first yield.captured, .pointer (some cap0)] [] R σ = maps_Keys_map_int_bool_int_bool_L1.vc yield cap0 σ R := by kernel_rfl
theorem maps_Keys_map_int_bool_int_bool_L1.of_vc {yield : Fv} {cap0 : Addr} {σ : Hp} {R : Hp → Prop} (hv : maps_Keys_map_int_bool_int_bool_L1.vc yield cap0 σ R) : maps_Keys_map_int_bool_int_bool_L1.call yield cap0 σ R :=
  fnK_sound Try.func54 (x := maps_Keys_map_int_bool_int_bool_L1.hint) (args := [.func (.func yield.f) yield.first yield.captured, .pointer (some cap0)]) (rs := []) (R := R) (by rw [maps_Keys_map_int_bool_int_bool_L1.vc_eq]; exact hv)
def buddy_Heap_add.hint : Hn := .seq (.block (.loop [(1, .one (.i .i64)), (2, .one (.i .i64))] (.seq (.seq (.reg (.quiet [.op, .op, .op, .op, .op, .op, .op, .op, .op, .grd true 12 [.op, .op, .op, .op, .op, .op, .op, .op, .op, .op, .op, .op]])) (.cond (.leaf) (.leaf))) (.block (.seq (.reg (.tail 11 [.op, .op, .op, .op, .op, .op, .op, .op, .op, .op, .op] [.op])) (.seq (.reg (.seq [.op, .op, .op, .op, .op, .op, .op, .op])) (.reg (.seq [.op, .op, .op])))))))) (.reg (.seq [.op, .op, .op, .op, .op, .op, .op, .op, .op]))
def buddy_Heap_add.vc (vh : Option Addr) (order : Int) (start : Int) (σ : Hp) (R : Hp → Prop) : Prop :=
 LoopK [(.i .i64), (.i .i64)] (fun I => I order start σ) fun J (order1 : Int) (start1 : Int) v =>
 Ar .i64 (order1 + 1) fun t7 =>
 NilP vh fun a9 =>
 LdS (a9.add 1) v fun t11 =>
 JnB (fun r v1 =>
  If r (NilP vh fun a29 =>
   LdS (a29.add 1) v1 fun t31 =>
   Ix t31.a t31.len order1 1 fun a33 =>
   LdM a33 v1 fun t34 =>
   Nn order1 <| Ar .i64 (1 * 2 ^ (min order1.toNat IntKind.i64.bits)) fun t37 =>
   MDel .i64 .b t34 (bits .xor .i64 start1 t37) v1 fun v2 =>
   Ar .i64 (order1 + 1) fun t41 =>
   Nn t41 <|
   Ar .i64 (order1 + 1) fun t44 =>
   Nn t44 <| Ar .i64 ((start1.fdiv (2 ^ (min t41.toNat IntKind.i64.bits))) * 2 ^ (min t44.toNat IntKind.i64.bits)) fun start2 =>
   Ar .i64 (order1 + 1) fun order2 =>
   J order2 start2 v2)
   (NilP vh fun a49 =>
   LdS (a49.add 1) v1 fun t51 =>
   Ix t51.a t51.len order1 1 fun a53 =>
   LdM a53 v1 fun t54 =>
   MSet .i64 .b t54 start1 true v1 fun v3 =>
   R v3)) fun J1 =>
 If (decide (t7 < ((t11.len : Nat) : Int))) (NilP vh fun a16 =>
  LdS (a16.add 1) v fun t18 =>
  Ix t18.a t18.len order1 1 fun a20 =>
  LdM a20 v fun t21 =>
  Nn order1 <| Ar .i64 (1 * 2 ^ (min order1.toNat IntKind.i64.bits)) fun t24 =>
  Lk .i64 .b t21 (bits .xor .i64 start1 t24) v fun t26 =>
  J1 (t26.getD false) v)
  (J1 false v)
set_option maxRecDepth 100000 in
theorem buddy_Heap_add.vc_eq (vh : Option Addr) (order : Int) (start : Int) (σ : Hp) (R : Hp → Prop) : fnK Try.prog Try.f55 buddy_Heap_add.hint [.pointer vh, .int .i64 order, .int .i64 start] [] R σ = buddy_Heap_add.vc vh order start σ R := by kernel_rfl
theorem buddy_Heap_add.of_vc {vh : Option Addr} {order : Int} {start : Int} {σ : Hp} {R : Hp → Prop} (hv : buddy_Heap_add.vc vh order start σ R) : buddy_Heap_add.call vh order start σ R :=
  fnK_sound Try.func55 (x := buddy_Heap_add.hint) (args := [.pointer vh, .int .i64 order, .int .i64 start]) (rs := []) (R := R) (by rw [buddy_Heap_add.vc_eq]; exact hv)
def freeholdref03_Heap_in.hint : Hn := .seq (.reg (.seq [.op])) (.seq (.reg (.seq [.op, .op, .op, .grd true 2 [.op, .op], .op, .grd true 7 [.op, .op, .op, .op, .op, .op, .op], .op, .grd true 9 [.op, .op, .op, .op, .op, .op, .op, .op, .op], .op])) (.leaf))
def freeholdref03_Heap_in.vc (vh : Option Addr) (start : Int) (pages : Int) (σ : Hp) (R : Bool → Hp → Prop) : Prop :=
 JnB (fun r v =>
  JnB (fun r1 v1 =>
   JnB (fun r2 v2 =>
    R r2 v2) fun J2 =>
   If r1 (NilP vh fun a25 =>
    LdS (a25.add 0) v1 fun t27 =>
    Ar .i64 (((t27.len : Nat) : Int) - start) fun t30 =>
    J2 (decide (pages ≤ t30)) v1)
    (J2 false v1)) fun J1 =>
  If r (NilP vh fun a16 =>
   LdS (a16.add 0) v fun t18 =>
   J1 (decide (start < ((t18.len : Nat) : Int))) v)
   (J1 false v)) fun J =>
 If (decide (start ≥ 0)) (J (decide (pages ≥ 1)) σ)
  (J false σ)
set_option maxRecDepth 100000 in
theorem freeholdref03_Heap_in.vc_eq (vh : Option Addr) (start : Int) (pages : Int) (σ : Hp) (R : Bool → Hp → Prop) : fnK Try.prog Try.f57 freeholdref03_Heap_in.hint [.pointer vh, .int .i64 start, .int .i64 pages] [.one .b] R σ = freeholdref03_Heap_in.vc vh start pages σ R := by kernel_rfl
theorem freeholdref03_Heap_in.of_vc {vh : Option Addr} {start : Int} {pages : Int} {σ : Hp} {R : Bool → Hp → Prop} (hv : freeholdref03_Heap_in.vc vh start pages σ R) : freeholdref03_Heap_in.call vh start pages σ R :=
  fnK_sound Try.func57 (x := freeholdref03_Heap_in.hint) (args := [.pointer vh, .int .i64 start, .int .i64 pages]) (rs := [.one .b]) (R := R) (by rw [freeholdref03_Heap_in.vc_eq]; exact hv)
end Go.Proofs
