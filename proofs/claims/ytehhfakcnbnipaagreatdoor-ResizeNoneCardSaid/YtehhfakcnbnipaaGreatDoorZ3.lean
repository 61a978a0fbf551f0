/- Texts joined. -/
import Derived.Lib.Overlaps
import Derived.Laws.Externs
import Derived.Test.YtehhfakcnbnipaaGreatDoorZ2
set_option linter.unusedVariables false
set_option linter.unusedSimpArgs false
namespace Go.Proofs
open Go.Vc

set_option maxRecDepth 100000
def central_List_Sweep.hint : Hn := .seq (.o 1) (.seq (.seq (.o 3) (.cond (.seq (.o 1) (.leaf)) (.leaf))) (.seq (.o 1) (.seq (.o 10) (.seq (.o 2) (.leaf)))))
def central_List_Sweep.vc (l : Option Addr) (σ : Hp) (R : Sl -> Hp -> Prop) : Prop :=
 central_List_made.call l σ fun t5 v =>
 If (!t5) (R ⟨none, 0, 0⟩ v)
 (Nw (.cells #[.slice none 0 0] 206 (0, 0)) v fun n3 v1 =>
 NilP l fun a9 =>
 LdS (a9.add 3) v1 fun t11 =>
 slices_DeleteFunc_central_entry_central_entry.call t11 ⟨180, #[], #[.pointer (some n3)]⟩ v1 fun t13 v2 =>
 NilP l fun a14 =>
 St1 (a14.add 3) (.slice t13.a t13.len t13.cap) v2 fun v3 =>
 LdS n3 v3 fun t16 =>
 R t16 v3)
theorem central_List_Sweep.of_vc {l : Option Addr} {σ : Hp} {R : Sl -> Hp -> Prop} (hv : central_List_Sweep.vc l σ R) : central_List_Sweep.call l σ R :=
 fnK_sound Tryz.func129 (x := central_List_Sweep.hint) (args := [.pointer l]) (rs := [.one .s]) (R := R) (Eq.mpr (by kernel_rfl) hv)
def central_List_made.hint : Hn := .seq (.o 1) (.seq (.reg (.seq [.op, .op, .op, .grd true 6 [.op, .op, .op, .op, .op, .op], .op])) (.leaf))
def central_List_made.vc (l : Option Addr) (σ : Hp) (R : Bool -> Hp -> Prop) : Prop :=
 JnB (fun r v =>
 R r v) fun J =>
 If (!l.isNone) (NilP l fun a7 =>
 LdI .i64 ((a7.add 0).add 0) σ fun t10 =>
 J (decide (t10 > 0)) σ)
 (J false σ)
theorem central_List_made.of_vc {l : Option Addr} {σ : Hp} {R : Bool -> Hp -> Prop} (hv : central_List_made.vc l σ R) : central_List_made.call l σ R :=
 fnK_sound Tryz.func149 (x := central_List_made.hint) (args := [.pointer l]) (rs := [.one .b]) (R := R) (Eq.mpr (by kernel_rfl) hv)
def central_List_Find.hint : Hn := .seq (.o 2) (.seq (.seq (.o 3) (.cond (.seq (.o 2) (.leaf)) (.leaf))) (.seq (.o 4) (.seq (.seq (.o 2) (.cond (.seq (.o 2) (.leaf)) (.leaf))) (.seq (.o 11) (.seq (.oq 16) (.leaf))))))
def central_List_Find.vc (l : Option Addr) (addr : Int) (σ : Hp) (R : Int -> Int -> Hp -> Prop) : Prop :=
 central_List_made.call l σ fun t10 v =>
 If (!t10) (R 0 5 v)
 (central_List_of.call l addr v fun vx v1 =>
 If vx.isNone (R 0 8 v1)
 (NilP vx fun a19 =>
 LdP (a19.add 2) v1 fun t21 =>
 span_Span_Index.call t21 addr v1 fun t23 t231 v2 =>
 NilP vx fun a27 =>
 LdI .i64 ((a27.add 0).add 1) v2 fun t30 =>
 Ar .i64 (t30 * 256) fun t31 =>
 NilP l fun a34 =>
 LdI .i64 ((a34.add 0).add 0) v2 fun t37 =>
 Ar .i64 (t23 * t37) fun t38 =>
 Ar .i64 (t31 + t38) fun t39 =>
 R t39 0 v2))
theorem central_List_Find.of_vc {l : Option Addr} {addr : Int} {σ : Hp} {R : Int -> Int -> Hp -> Prop} (hv : central_List_Find.vc l addr σ R) : central_List_Find.call l addr σ R :=
 fnK_sound Tryz.func157 (x := central_List_Find.hint) (args := [.pointer l, .int .i64 addr]) (rs := [.one (.i .i64), .one (.i .i64)]) (R := R) (Eq.mpr (by kernel_rfl) hv)
def central_New.hint : Hn := .seq (.o 3) (.seq (.seq (.o 7) (.seq (.o 2) (.cond (.seq (.o 2) (.leaf)) (.leaf)))) (.seq (.o 5) (.leaf)))
def central_New.vc (vclass : Int) (vclass1 : Int) (vclass2 : Int) (σ : Hp) (R : Option Addr -> Int -> Hp -> Prop) : Prop :=
 Nw (.cells #[.int .i64 vclass, .int .i64 vclass1, .int .i64 vclass2] 79 (0, 0)) σ fun n1 v =>
 LdI .i64 (n1.add 0) v fun t7 =>
 LdI .i64 (n1.add 1) v fun t71 =>
 LdI .i64 (n1.add 2) v fun t72 =>
 sizes_Objects.call t7 t71 t72 v fun t8 t81 v1 =>
 If (t81 != 0) (R none 1 v1)
 (LdI .i64 (n1.add 0) v1 fun t13 =>
 LdI .i64 (n1.add 1) v1 fun t131 =>
 LdI .i64 (n1.add 2) v1 fun t132 =>
 Nw (.cells #[.int .i64 t13, .int .i64 t131, .int .i64 t132, .slice none 0 0] 234 (0, 0)) v1 fun n15 v2 =>
 R (some n15) 0 v2)
theorem central_New.of_vc {vclass : Int} {vclass1 : Int} {vclass2 : Int} {σ : Hp} {R : Option Addr -> Int -> Hp -> Prop} (hv : central_New.vc vclass vclass1 vclass2 σ R) : central_New.call vclass vclass1 vclass2 σ R :=
 fnK_sound Tryz.func160 (x := central_New.hint) (args := [.agg #[.int .i64 vclass, .int .i64 vclass1, .int .i64 vclass2]]) (rs := [.one .p, .one (.i .i64)]) (R := R) (Eq.mpr (by kernel_rfl) hv)
def central_List_Take.hint : Hn := .seq (.o 2) (.seq (.block (.seq (.o 4) (.cond (.seq (.o 2) (.leaf)) (.seq (.o 3) (.cond (.seq (.o 2) (.leaf)) (.leaf)))))) (.seq (.o 1) (.seq (.block (.loop [(6, .one .s)] (.seq (.seq (.o 4) (.cond (.leaf) (.leaf))) (.block (.seq (.o 7) (.seq (.seq (.o 2) (.cond (.leaf) (.leaf))) (.o 5))))))) (.seq (.o 3) (.leaf)))))
def central_List_Take.vc (l : Option Addr) (many : Int) (σ : Hp) (R : Sl -> Int -> Hp -> Prop) : Prop :=
 central_List_made.call l σ fun t11 v =>
 If (!t11) (R ⟨none, 0, 0⟩ 5 v)
 (If (decide (many < 0)) (R ⟨none, 0, 0⟩ 1 v)
 (LoopK [.s] (fun I => I ⟨none, 0, 0⟩ v) fun J (out : Sl) v1 =>
 If (decide (((out.len : Nat) : Int) < many)) (central_List_one.call l v1 fun t22 t221 v2 =>
 If (!t221) (R out 0 v2)
 (Nw (.cells #[.int .i64 t22] 3 (0, 0)) v2 fun n29 v3 =>
 App out 1 8 3 [.int .i64 0] ⟨(some n29), 1, 1⟩ v3 fun out1 v4 =>
 J out1 v4))
 (R out 0 v1)))
theorem central_List_Take.of_vc {l : Option Addr} {many : Int} {σ : Hp} {R : Sl -> Int -> Hp -> Prop} (hv : central_List_Take.vc l many σ R) : central_List_Take.call l many σ R :=
 fnK_sound Tryz.func165 (x := central_List_Take.hint) (args := [.pointer l, .int .i64 many]) (rs := [.one .s, .one (.i .i64)]) (R := R) (Eq.mpr (by kernel_rfl) hv)
def central_List_Add.hint : Hn := .seq (.o 1) (.seq (.seq (.o 3) (.cond (.seq (.o 1) (.leaf)) (.leaf))) (.seq (.o 11) (.seq (.seq (.o 2) (.cond (.seq (.o 2) (.leaf)) (.leaf))) (.seq (.seq (.o 6) (.block (.loop [(31, .one (.i .i64))] (.seq (.o 1) (.seq (.cond (.leaf) (.leaf)) (.seq (.block (.seq (.o 4) (.seq (.oq 17) (.cond (.seq (.o 1) (.leaf)) (.leaf))))) (.o 2))))))) (.seq (.o 11) (.seq (.o 15) (.seq (.o 1) (.leaf))))))))
def central_List_Add.vc (l : Option Addr) (start : Int) (σ : Hp) (R : Int -> Hp -> Prop) : Prop :=
 central_List_made.call l σ fun t12 v =>
 If (!t12) (R 5 v)
 (NilP l fun a17 =>
 LdI .i64 ((a17.add 0).add 0) v fun t19 =>
 LdI .i64 ((a17.add 0).add 1) v fun t191 =>
 LdI .i64 ((a17.add 0).add 2) v fun t192 =>
 span_New.call start t19 t191 t192 v fun t20 t201 v1 =>
 If (t201 != 0) (R t201 v1)
 (NilP l fun a27 =>
 LdS (a27.add 3) v1 fun t29 =>
 LoopK [(.i .i64)] (fun I => I 0 v1) fun J (t31 : Int) v2 =>
 If (decide (t31 < ((t29.len : Nat) : Int))) (Ix t29.a t29.len t31 3 fun a33 =>
 LdI .i64 (a33.add 0) v2 fun t34 =>
 LdI .i64 (a33.add 1) v2 fun t341 =>
 LdP (a33.add 2) v2 fun t342 =>
 Nw (.cells #[.int .i64 0, .int .i64 0, .pointer none] 239 (0, 0)) v2 fun n8 v3 =>
 St1 (n8.add 0) (.int .i64 t34) v3 fun v4 =>
 St1 (n8.add 1) (.int .i64 t341) v4 fun v5 =>
 St1 (n8.add 2) (.pointer t342) v5 fun v6 =>
 LdI .i64 ((n8.add 0).add 1) v6 fun t37 =>
 LdI .i64 ((n8.add 0).add 1) v6 fun t42 =>
 Ar .i64 ((if start > t37 then start else t37) - (if start < t42 then start else t42)) fun t45 =>
 NilP l fun a47 =>
 LdI .i64 ((a47.add 0).add 1) v6 fun t50 =>
 If (decide (t45 < t50)) (R 9 v6)
 (Ar .i64 (t31 + 1) fun t52 =>
 J t52 v6))
 (NilP l fun a55 =>
 LdS (a55.add 3) v2 fun t57 =>
 slices_BinarySearchFunc_central_entry_central_entry_int.call t57 start ⟨226, #[], #[]⟩ v2 fun t59 t591 v7 =>
 NilP l fun a64 =>
 LdS (a64.add 3) v7 fun t66 =>
 Nw (.cells #[.int .i64 0, .int .i64 start, .pointer t20] 239 (0, 0)) v7 fun n72 v8 =>
 slices_Insert_central_entry_central_entry.call t66 t59 ⟨(some n72), 1, 1⟩ v8 fun t73 v9 =>
 NilP l fun a74 =>
 St1 (a74.add 3) (.slice t73.a t73.len t73.cap) v9 fun v10 =>
 R 0 v10)))
theorem central_List_Add.of_vc {l : Option Addr} {start : Int} {σ : Hp} {R : Int -> Hp -> Prop} (hv : central_List_Add.vc l start σ R) : central_List_Add.call l start σ R :=
 fnK_sound Tryz.func167 (x := central_List_Add.hint) (args := [.pointer l, .int .i64 start]) (rs := [.one (.i .i64)]) (R := R) (Eq.mpr (by kernel_rfl) hv)
def central_List_Sweep_L1.hint : Hn := .seq (.o 2) (.sjn [] (.seq (.o 4) (.cond (.reg (.held true [6] (.take 0 (.take 1 (.take 2 (.all [(3, .all [(4, .all [(5, .all [(6, .done)])])])])))))) (.leaf))) (.seq (.o 5) (.leaf)))
def central_List_Sweep_L1.vc (vx : Int) (vx1 : Int) (vx2 : Option Addr) (cap0 : Addr) (σ : Hp) (R : Bool -> Hp -> Prop) : Prop :=
 Nw (.cells #[.int .i64 vx, .int .i64 vx1, .pointer vx2] 239 (0, 0)) σ fun n2 v =>
 Jn [] (fun v1 =>
 LdI .i64 ((n2.add 0).add 0) v1 fun t16 =>
 R (t16 == 0) v1) fun J =>
 LdI .i64 ((n2.add 0).add 0) v fun t6 =>
 If (t6 == 0) (Held v fun S =>
 LdH S .s cap0 fun (t8 : Sl) =>
 LdH S .p (n2.add 2) fun (t10 : Option Addr) =>
 span_Span_Run.call t10 v fun t11 t111 v2 =>
 And (S v2) <|
 Nw (.cells #[.int .i64 t11, .int .i64 t111] 212 (0, 0)) v2 fun n12 v3 =>
 And (S v3) <|
 App t8 2 16 212 [.int .i64 0, .int .i64 0] ⟨(some n12), 1, 1⟩ v3 fun t13 v4 =>
 And (S v4) <|
 St1 cap0 (.slice t13.a t13.len t13.cap) v4 fun v5 =>
 J v5)
 (J v)
theorem central_List_Sweep_L1.of_vc {vx : Int} {vx1 : Int} {vx2 : Option Addr} {cap0 : Addr} {σ : Hp} {R : Bool -> Hp -> Prop} (hv : central_List_Sweep_L1.vc vx vx1 vx2 cap0 σ R) : central_List_Sweep_L1.call vx vx1 vx2 cap0 σ R :=
 fnK_sound Tryz.func180 (x := central_List_Sweep_L1.hint) (args := [.agg #[.int .i64 vx, .int .i64 vx1, .pointer vx2], .pointer (some cap0)]) (rs := [.one .b]) (R := R) (Eq.mpr (by kernel_rfl) hv)
def central_List_Put.hint : Hn := .seq (.o 2) (.seq (.seq (.o 3) (.cond (.seq (.o 2) (.leaf)) (.leaf))) (.seq (.o 1) (.seq (.seq (.o 3) (.block (.loop [(6, .one .b), (19, .one (.i .i64))] (.seq (.o 1) (.seq (.cond (.leaf) (.leaf)) (.seq (.block (.seq (.o 5) (.seq (.o 8) (.seq (.seq (.o 2) (.cond (.seq (.o 3) (.leaf)) (.leaf))) (.reg (.seq [.op, .op, .grd false 2 [.op, .op], .op, .grd false 5 [.op, .op, .op, .op, .op], .op])))))) (.o 2))))))) (.seq (.seq (.o 1) (.cond (.seq (.o 2) (.leaf)) (.leaf))) (.seq (.seq (.o 3) (.block (.loop [(49, .one (.i .i64))] (.seq (.o 1) (.seq (.cond (.leaf) (.leaf)) (.seq (.block (.seq (.o 3) (.seq (.o 4) (.seq (.o 6) (.o 10))))) (.o 2))))))) (.seq (.o 4) (.leaf)))))))
def central_List_Put.vc (l : Option Addr) (objects : Sl) (σ : Hp) (R : Sl -> Int -> Hp -> Prop) : Prop :=
 central_List_made.call l σ fun t15 v =>
 If (!t15) (R ⟨none, 0, 0⟩ 5 v)
 (LoopK [.b, (.i .i64)] (fun I => I false 0 v) fun J (twice : Bool) (t19 : Int) v1 =>
 If (decide (t19 < ((objects.len : Nat) : Int))) (Ix objects.a objects.len t19 1 fun a22 =>
 LdI .i64 a22 v1 fun addr =>
 central_List_IsTaken.call l addr v1 fun t27 t271 v2 =>
 If (t271 != 0) (R ⟨none, 0, 0⟩ t271 v2)
 (JnB (fun r v3 =>
 JnB (fun r1 v4 =>
 Ar .i64 (t19 + 1) fun t45 =>
 J r1 t45 v4) fun J2 =>
 If r (J2 true v3)
 (SlcL objects 1 0 t19 (objects.cap : Nat) fun t41 =>
 slices_Contains_int_int.call t41 addr v3 fun t43 v5 =>
 J2 t43 v5)) fun J1 =>
 If twice (J1 true v2)
 (J1 (!t27) v2)))
 (If twice (R ⟨none, 0, 0⟩ 9 v1)
 (LoopK [(.i .i64)] (fun I1 => I1 0 v1) fun J3 (t49 : Int) v6 =>
 If (decide (t49 < ((objects.len : Nat) : Int))) (Ix objects.a objects.len t49 1 fun a51 =>
 LdI .i64 a51 v6 fun addr1 =>
 central_List_of.call l addr1 v6 fun vx v7 =>
 NilP vx fun a57 =>
 LdP (a57.add 2) v7 fun t59 =>
 span_Span_Put.call t59 addr1 v7 fun t61 v8 =>
 NilP vx fun a63 =>
 LdI .i64 ((a63.add 0).add 0) v8 fun t66 =>
 Ar .i64 (t66 - 1) fun t67 =>
 NilP vx fun a68 =>
 St1 ((a68.add 0).add 0) (.int .i64 t67) v8 fun v9 =>
 Ar .i64 (t49 + 1) fun t71 =>
 J3 t71 v9)
 (central_List_Sweep.call l v6 fun t73 v10 =>
 R t73 0 v10))))
theorem central_List_Put.of_vc {l : Option Addr} {objects : Sl} {σ : Hp} {R : Sl -> Int -> Hp -> Prop} (hv : central_List_Put.vc l objects σ R) : central_List_Put.call l objects σ R :=
 fnK_sound Tryz.func199 (x := central_List_Put.hint) (args := [.pointer l, .slice objects.a objects.len objects.cap]) (rs := [.one .s, .one (.i .i64)]) (R := R) (Eq.mpr (by kernel_rfl) hv)
def central_List_of.hint : Hn := .seq (.o 1) (.seq (.seq (.o 6) (.block (.loop [(13, .one (.i .i64))] (.seq (.o 1) (.seq (.cond (.leaf) (.leaf)) (.seq (.block (.seq (.o 2) (.seq (.o 15) (.seq (.o 2) (.cond (.seq (.o 7) (.leaf)) (.leaf)))))) (.o 2))))))) (.seq (.o 1) (.leaf)))
def central_List_of.vc (l : Option Addr) (addr : Int) (σ : Hp) (R : Option Addr -> Hp -> Prop) : Prop :=
 NilP l fun a9 =>
 LdS (a9.add 3) σ fun t11 =>
 LoopK [(.i .i64)] (fun I => I 0 σ) fun J (t13 : Int) v =>
 If (decide (t13 < ((t11.len : Nat) : Int))) (NilP l fun a18 =>
 LdS (a18.add 3) v fun t20 =>
 Ix t20.a t20.len t13 3 fun a22 =>
 LdP (a22.add 2) v fun t24 =>
 span_Span_Index.call t24 addr v fun t26 t261 v1 =>
 If (t261 == 0) (NilP l fun a32 =>
 LdS (a32.add 3) v1 fun t34 =>
 Ix t34.a t34.len t13 3 fun a36 =>
 R (some a36) v1)
 (Ar .i64 (t13 + 1) fun t37 =>
 J t37 v1))
 (R none v)
theorem central_List_of.of_vc {l : Option Addr} {addr : Int} {σ : Hp} {R : Option Addr -> Hp -> Prop} (hv : central_List_of.vc l addr σ R) : central_List_of.call l addr σ R :=
 fnK_sound Tryz.func215 (x := central_List_of.hint) (args := [.pointer l, .int .i64 addr]) (rs := [.one .p]) (R := R) (Eq.mpr (by kernel_rfl) hv)
def central_List_one.hint : Hn := .seq (.o 2) (.seq (.o 1) (.seq (.seq (.o 6) (.block (.loop [(4, .one .p), (14, .one (.i .i64))] (.seq (.o 1) (.seq (.cond (.leaf) (.leaf)) (.seq (.block (.seq (.o 2) (.seq (.o 7) (.seq (.reg (.heldJ true [] [(48, .one .b)] (.take 0 (.take 1 (.take 2 (.take 3 (.take 4 (.take 5 (.take 6 (.take 7 (.take 8 (.all [(9, .take 10 (.take 11 (.split 34 (.take 12 (.take 13 (.take 14 (.split 37 (.take 15 (.take 16 (.take 17 (.take 18 (.take 19 (.take 20 (.take 21 (.take 22 (.take 23 (.take 24 (.take 25 (.done)))))))))))) (.take 15 (.take 16 (.take 17 (.take 19 (.take 20 (.take 21 (.all [(18, .all [(22, .all [(23, .take 24 (.take 25 (.done)))])]), (22, .all [(18, .all [(23, .take 24 (.take 25 (.done)))])])]))))))))))) (.take 12 (.take 13 (.take 14 (.take 15 (.take 16 (.take 17 (.take 18 (.take 19 (.take 20 (.take 21 (.take 22 (.take 23 (.take 24 (.take 25 (.done))))))))))))))))))])))))))))))) (.cond (.o 2) (.leaf)))))) (.o 2))))))) (.seq (.seq (.o 2) (.cond (.seq (.o 2) (.leaf)) (.leaf))) (.seq (.o 10) (.seq (.o 10) (.seq (.o 3) (.leaf)))))))
def central_List_one.vc (l : Option Addr) (σ : Hp) (R : Int -> Bool -> Hp -> Prop) : Prop :=
 NilP l fun a10 =>
 LdS (a10.add 3) σ fun t12 =>
 LoopK [.p, (.i .i64)] (fun I => I none 0 σ) fun J (best : Option Addr) (t14 : Int) v =>
 If (decide (t14 < ((t12.len : Nat) : Int))) (NilP l fun a18 =>
 LdS (a18.add 3) v fun t20 =>
 Ix t20.a t20.len t14 3 fun a22 =>
 Jn [.b] (fun (t48 : Bool) v1 =>
 If t48 (Ar .i64 (t14 + 1) fun t50 =>
 J (some a22) t50 v1)
 (Ar .i64 (t14 + 1) fun t501 =>
 J best t501 v1)) fun J1 =>
 Held v fun S =>
 NilP (some a22) fun a24 =>
 LdH S (.i .i64) ((a24.add 0).add 0) fun (t27 : Int) =>
 NilP (some a22) fun a29 =>
 LdH S .p (a29.add 2) fun (t31 : Option Addr) =>
 span_Span_Objects.call t31 v fun t32 v2 =>
 And (S v2) <|
 If (decide (t27 < t32)) (If best.isNone (J1 true v2)
 (NilP (some a22) fun a39 =>
 NilP best fun a43 =>
 (LdI .i64 ((a39.add 0).add 0) v2 fun t41 =>
 LdI .i64 ((a39.add 0).add 1) v2 fun t411 =>
 And (S v2) <|
 LdI .i64 ((a43.add 0).add 0) v2 fun t45 =>
 LdI .i64 ((a43.add 0).add 1) v2 fun t451 =>
 And (S v2) <|
 central_rank_before.call t41 t411 t45 t451 v2 fun t46 v3 =>
 And (S v3) <|
 J1 t46 v3) ∧
 (LdI .i64 ((a43.add 0).add 0) v2 fun t452 =>
 LdI .i64 ((a43.add 0).add 1) v2 fun t453 =>
 And (S v2) <|
 LdI .i64 ((a39.add 0).add 0) v2 fun t412 =>
 LdI .i64 ((a39.add 0).add 1) v2 fun t413 =>
 And (S v2) <|
 central_rank_before.call t412 t413 t452 t453 v2 fun t461 v4 =>
 And (S v4) <|
 J1 t461 v4)))
 (J1 false v2))
 (If best.isNone (R 0 false v)
 (NilP best fun a55 =>
 LdP (a55.add 2) v fun t57 =>
 span_Span_Take.call t57 v fun t58 t581 v5 =>
 NilP best fun a62 =>
 LdI .i64 ((a62.add 0).add 0) v5 fun t65 =>
 Ar .i64 (t65 + 1) fun t66 =>
 NilP best fun a67 =>
 St1 ((a67.add 0).add 0) (.int .i64 t66) v5 fun v6 =>
 R t58 true v6))
theorem central_List_one.of_vc {l : Option Addr} {σ : Hp} {R : Int -> Bool -> Hp -> Prop} (hv : central_List_one.vc l σ R) : central_List_one.call l σ R :=
 fnK_sound Tryz.func219 (x := central_List_one.hint) (args := [.pointer l]) (rs := [.one (.i .i64), .one .b]) (R := R) (Eq.mpr (by kernel_rfl) hv)
def central_List_Add_L1.hint : Hn := .seq (.o 2) (.seq (.o 6) (.leaf))
def central_List_Add_L1.vc (vx : Int) (vx1 : Int) (vx2 : Option Addr) (start : Int) (σ : Hp) (R : Int -> Hp -> Prop) : Prop :=
 Nw (.cells #[.int .i64 vx, .int .i64 vx1, .pointer vx2] 239 (0, 0)) σ fun n2 v =>
 LdI .i64 ((n2.add 0).add 1) v fun t7 =>
 Ar .i64 (t7 - start) fun t9 =>
 R t9 v
theorem central_List_Add_L1.of_vc {vx : Int} {vx1 : Int} {vx2 : Option Addr} {start : Int} {σ : Hp} {R : Int -> Hp -> Prop} (hv : central_List_Add_L1.vc vx vx1 vx2 start σ R) : central_List_Add_L1.call vx vx1 vx2 start σ R :=
 fnK_sound Tryz.func226 (x := central_List_Add_L1.hint) (args := [.agg #[.int .i64 vx, .int .i64 vx1, .pointer vx2], .int .i64 start]) (rs := [.one (.i .i64)]) (R := R) (Eq.mpr (by kernel_rfl) hv)
def central_List_IsTaken.hint : Hn := .seq (.o 2) (.seq (.seq (.o 3) (.cond (.seq (.o 2) (.leaf)) (.leaf))) (.seq (.o 4) (.seq (.seq (.o 2) (.cond (.seq (.o 2) (.leaf)) (.leaf))) (.seq (.o 10) (.leaf)))))
def central_List_IsTaken.vc (l : Option Addr) (addr : Int) (σ : Hp) (R : Bool -> Int -> Hp -> Prop) : Prop :=
 central_List_made.call l σ fun t8 v =>
 If (!t8) (R false 5 v)
 (central_List_of.call l addr v fun vx v1 =>
 If vx.isNone (R false 8 v1)
 (NilP vx fun a16 =>
 LdP (a16.add 2) v1 fun t18 =>
 span_Span_IsTaken.call t18 addr v1 fun t20 t201 v2 =>
 R t20 t201 v2))
theorem central_List_IsTaken.of_vc {l : Option Addr} {addr : Int} {σ : Hp} {R : Bool -> Int -> Hp -> Prop} (hv : central_List_IsTaken.vc l addr σ R) : central_List_IsTaken.call l addr σ R :=
 fnK_sound Tryz.func231 (x := central_List_IsTaken.hint) (args := [.pointer l, .int .i64 addr]) (rs := [.one .b, .one (.i .i64)]) (R := R) (Eq.mpr (by kernel_rfl) hv)
def central_rank_before.hint : Hn := .seq (.o 3) (.seq (.reg (.seq [.op, .op, .op, .op, .op, .op, .grd false 12 [.op, .op, .op, .op, .op, .op, .grd true 5 [.op, .op, .op, .op, .op]], .op])) (.leaf))
def central_rank_before.vc (r : Int) (r1 : Int) (q : Int) (q1 : Int) (σ : Hp) (R : Bool -> Hp -> Prop) : Prop :=
 Nw (.cells #[.int .i64 r, .int .i64 r1] 236 (0, 0)) σ fun n2 v =>
 Nw (.cells #[.int .i64 q, .int .i64 q1] 236 (0, 0)) v fun n3 v1 =>
 LdI .i64 (n2.add 0) v1 fun t6 =>
 LdI .i64 (n3.add 0) v1 fun t8 =>
 JnB (fun r2 v2 =>
 R r2 v2) fun J =>
 If (decide (t6 > t8)) (J true v1)
 (LdI .i64 (n2.add 0) v1 fun t12 =>
 LdI .i64 (n3.add 0) v1 fun t14 =>
 JnB (fun r3 v3 =>
 J r3 v3) fun J1 =>
 If (t12 == t14) (LdI .i64 (n2.add 1) v1 fun t18 =>
 LdI .i64 (n3.add 1) v1 fun t20 =>
 J1 (decide (t18 < t20)) v1)
 (J1 false v1))
theorem central_rank_before.of_vc {r : Int} {r1 : Int} {q : Int} {q1 : Int} {σ : Hp} {R : Bool -> Hp -> Prop} (hv : central_rank_before.vc r r1 q q1 σ R) : central_rank_before.call r r1 q q1 σ R :=
 fnK_sound Tryz.func255 (x := central_rank_before.hint) (args := [.agg #[.int .i64 r, .int .i64 r1], .agg #[.int .i64 q, .int .i64 q1]]) (rs := [.one .b]) (R := R) (Eq.mpr (by kernel_rfl) hv)
end Go.Proofs
namespace Go.Ar
open Go Go.Vc Go.Proofs


variable {σ : Hp} {F : Rg} {p : Nat} {c : Cls} {ps : List (Nat × Nat)} {ss : List SpA}
def blks (ps : List (Nat × Nat)) : List Nat := ps.flatMap fun x => [x.1, x.2]
theorem mem_blks {ps : List (Nat × Nat)} {b : Nat} : b ∈ blks ps ↔ ∃ x ∈ ps, b = x.1 ∨ b = x.2 := by simp [blks]
def entV : List (Nat × Nat) -> List SpA -> List Value
 | x :: ps, s :: ss => .int .i64 (s.many : Int) :: .int .i64 (s.st : Int) :: .pointer (some ⟨x.1, 0, none⟩) :: entV ps ss
 | _, _ => []
theorem entV_len : ∀ {ps : List (Nat × Nat)} {ss : List SpA}, ps.length = ss.length -> (entV ps ss).length = 3 * ss.length
 | [], [], _ => rfl
 | x :: ps, s :: ss, h => by simp only [entV, List.length_cons] at *; rw [entV_len (by omega)]; omega
theorem entV_get : ∀ {ps : List (Nat × Nat)} {ss : List SpA} {i : Nat} {x : Nat × Nat} {s : SpA}, ps[i]? = some x -> ss[i]? = some s →
 (entV ps ss)[3 * i]? = some (.int .i64 (s.many : Int)) /\ (entV ps ss)[3 * i + 1]? = some (.int .i64 (s.st : Int)) /\ (entV ps ss)[3 * i + 2]? = some (.pointer (some ⟨x.1, 0, none⟩))
 | [], _, _, _, _, h, _ => by simp at h
 | _ :: _, [], _, _, _, _, h => by simp at h
 | y :: ps, t :: ss, 0, x, s, h1, h2 => by simp at h1 h2; subst h1; subst h2; simp [entV]
 | y :: ps, t :: ss, i + 1, x, s, h1, h2 => by
  have := entV_get (ps := ps) (ss := ss) (i := i) (by simpa using h1) (by simpa using h2)
  simp only [entV]
  rw [show 3 * (i + 1) = 3 * i + 3 by omega]
  simpa using this
theorem entV_append : ∀ {ps ps' : List (Nat × Nat)} {ss ss' : List SpA}, ps.length = ss.length -> entV (ps ++ ps') (ss ++ ss') = entV ps ss ++ entV ps' ss'
 | [], _, [], _, _ => rfl
 | x :: ps, _, s :: ss, _, h => by simp only [List.cons_append, entV, entV_append (ps := ps) (ss := ss) (by simpa using h)]
theorem entV_one1 : ∀ {ps : List (Nat × Nat)} {ss : List SpA}, ∀ v ∈ entV ps ss, one1 v = true
 | [], _, v, h => by simp [entV] at h
 | _ :: _, [], v, h => by simp [entV] at h
 | x :: ps, s :: ss, v, h => by
  simp only [entV, List.mem_cons] at h
  rcases h with rfl | rfl | rfl | h
  ·rfl
  ·rfl
  ·rfl
  ·exact entV_one1 v h
structure CeH (σ : Hp) (F : Rg) (p : Nat) (c : Cls) (ps : List (Nat × Nat)) (ss : List SpA) : Prop where
 hd : ∃ sl : Sl, Blk σ p [.int .i64 (c.size : Int), .int .i64 (c.pages : Int), .int .i64 (c.batch : Int), .slice sl.a sl.len sl.cap] /\ RowR sl 3 (entV ps ss) σ (fun b => F b /\ b ≠ p /\ b ∉ blks ps)
 sp : ∀ (i : Nat) (x : Nat × Nat) s, ps[i]? = some x -> ss[i]? = some s -> SpH σ x.1 x.2 c s
 fp : F p
 fb : ∀ b ∈ blks ps, F b
 nd : (p :: blks ps).Nodup
 len : ps.length = ss.length
 ok : c.ok
 srt : ss.Pairwise (fun a b => a.st < b.st)
theorem CeH.loc : Lcl fun σ F => CeH σ F p c ps ss := fun σ σ' F G h hz hs => by
 obtain ⟨sl, hb, hr⟩ := h.hd
 have keep : ∀ b, b < σ.size -> F b -> σ'[b]? = σ[b]? := fun b hb hf => (hs b hb hf).2
 have kb : ∀ {b : Nat} {cs : List Value}, Blk σ b cs -> F b -> Blk σ' b cs := by
  rintro b cs ⟨e, he⟩ hf
  exact ⟨e, (keep b (Blk.lt ⟨e, he⟩) hf).trans he⟩
 have lt : ∀ b ∈ blks ps, b < σ.size := by
  intro b hb
  obtain ⟨x, hx, hbx⟩ := mem_blks.1 hb
  obtain ⟨i, hi⟩ := List.getElem?_of_mem hx
  have hil := (List.getElem?_eq_some_iff.1 hi).1
  have := (h.sp i x _ hi (List.getElem?_eq_getElem (by rw [← h.len]; exact hil))).lt
  rcases hbx with rfl | rfl
  ·exact this.1
  ·exact this.2
 refine ⟨⟨sl, kb hb h.fp, RowR.loc _ _ _ _ _ _ _ hr hz fun b hb hf => ⟨⟨(hs b hb hf.1).1, hf.2⟩, (hs b hb hf.1).2⟩⟩, fun i x s hx hsx => ?_, (hs p hb.lt h.fp).1, fun b hb => (hs b (lt b hb) (h.fb b hb)).1, h.nd, h.len, h.ok, h.srt⟩
 have h1 := h.sp i x s hx hsx
 have m1 : x.1 ∈ blks ps := mem_blks.2 ⟨x, List.mem_of_getElem? hx, .inl rfl⟩
 have m2 : x.2 ∈ blks ps := mem_blks.2 ⟨x, List.mem_of_getElem? hx, .inr rfl⟩
 obtain ⟨cp, hc, hd⟩ := h1.hd
 obtain ⟨r, hr⟩ := h1.row
 exact ⟨⟨cp, hc, kb hd (h.fb _ m1)⟩, ⟨r, kb hr (h.fb _ m2)⟩, h1.ne, h1.len, h1.ok, h1.fit⟩
theorem CeH.keep0 {σ' : Hp} (h : CeH σ F p c ps ss) (e : Ext0 σ σ') : CeH σ' F p c ps ss := Lcl.keep0 CeH.loc h e
theorem CeH.few (h : CeH σ F p c ps ss) : ss.length <= 1024 := by
 have key : ∀ i (hi : i < ss.length), i <= ss[i].st := by
  intro i
  induction i with
  | zero => intro _; omega
  | succ i ih =>
   intro hi
   have h1 := ih (by omega)
   have h2 := List.pairwise_iff_getElem.1 h.srt i (i + 1) (by omega) hi (by omega)
   omega
 rcases Nat.eq_zero_or_pos ss.length with h0 | h0
 ·omega
 ·have hl : ss.length - 1 < ss.length := by omega
  have h1 := key _ hl
  have hp : ss.length - 1 < ps.length := by rw [h.len]; exact hl
  have h2 := (h.sp _ _ _ (List.getElem?_eq_getElem hp) (List.getElem?_eq_getElem hl)).fit
  have := h.ok.2.2.2.1
  omega
structure EnR (σ : Hp) (F : Rg) (p : Nat) (ps : List (Nat × Nat)) (ss : List SpA) (sl : Sl) (rb : Nat) (cs : List Value) : Prop where
 a : sl.a = some ⟨rb, 0, none⟩
 blk : Blk σ rb cs
 fr : F rb /\ rb ≠ p /\ rb ∉ blks ps
 get : ∀ {j : Nat} {v : Value}, (entV ps ss)[j]? = some v -> cs[j]? = some v
 lenC : 3 * ss.length <= cs.length
theorem CeH.sl (h : CeH σ F p c ps ss) : ∃ sl : Sl, Blk σ p [.int .i64 (c.size : Int), .int .i64 (c.pages : Int), .int .i64 (c.batch : Int), .slice sl.a sl.len sl.cap] /\ sl.len = ss.length /\ (ss ≠ [] -> ∃ rb cs, EnR σ F p ps ss sl rb cs) := by
 obtain ⟨sl, hb, hr⟩ := h.hd
 have hl := hr.1
 rw [entV_len h.len] at hl
 refine ⟨sl, hb, by omega, fun hne => ?_⟩
 have hpos : 0 < ss.length := List.length_pos_iff.2 hne
 rcases hr.2 with ⟨h0, _⟩ | ⟨b, cs, hq, ha, hbb, hle, hcl, ht⟩
 ·omega
 ·refine ⟨b, cs, ha, hbb, hq, fun {j v} hj => ?_, ?_⟩
  ·rw [← ht, List.getElem?_take] at hj
   split at hj
   ·exact hj
   ·cases hj
  ·have := congrArg List.length ht
   rw [List.length_take, entV_len h.len] at this
   omega
theorem CeH.at_i (h : CeH σ F p c ps ss) {i : Nat} (hi : i < ss.length) : ∃ x s, ps[i]? = some x /\ ss[i]? = some s /\ SpH σ x.1 x.2 c s := by
 have hi2 : i < ps.length := by rw [h.len]; exact hi
 have h1 : ps[i]? = some ps[i] := List.getElem?_eq_getElem hi2
 exact ⟨_, _, h1, List.getElem?_eq_getElem hi, h.sp i _ _ h1 (List.getElem?_eq_getElem hi)⟩
theorem cmade_ok (h : CeH σ F p c ps ss) {R : Bool -> Hp -> Prop} (hR : R true σ) : central_List_made.call (some ⟨p, 0, none⟩) σ R := by
 refine central_List_made.of_vc ?_
 unfold central_List_made.vc
 obtain ⟨sl, hb, hl, hr⟩ := h.sl
 have hc := h.ok
 unfold Cls.ok at hc
 refine JnB.intro (ifT rfl (nilP (hb.rI2 rfl ?_)))
 rw [decide_eq_true (by omega)]
 exact hR
def I63 (x : Int) : Prop := x <= 9223372036854775807
theorem of_ok' (h : CeH σ F p c ps ss) (x : Int) (hx : I63 x) {R : Option Addr -> Hp -> Prop} (h0 : ofS c ss x = none -> R none σ)
 (h1 : ∀ (i : Nat) sl rb cs, ofS c ss x = some i -> i < ss.length -> Blk σ p [.int .i64 (c.size : Int), .int .i64 (c.pages : Int), .int .i64 (c.batch : Int), .slice sl.a sl.len sl.cap] -> EnR σ F p ps ss sl rb cs -> R (some ⟨rb, 3 * i, none⟩) σ) : central_List_of.call (some ⟨p, 0, none⟩) x σ R := by
 refine central_List_of.of_vc ?_
 unfold central_List_of.vc
 obtain ⟨sl, hb, hl, hr⟩ := h.sl
 have hfew := h.few
 refine nilP (hb.rS rfl ?_)
 refine loop1 (a := .i .i64) (fun (t : Int) h' => ∃ i : Nat, t = (i : Int) /\ i <= ss.length /\ h' = σ /\ ∀ (j : Nat) s, j < i -> ss[j]? = some s -> idx c s x = none) (fun t _ => ss.length - t.toNat) ⟨0, rfl, by omega, rfl, fun j s hj => by omega⟩ ?_
 rintro t h' ⟨i, rfl, hi, rfl, hno⟩
 refine ifD (fun hlt => ?_) fun hge => ?_
 ·simp only at hlt
  have hi' : i < ss.length := by omega
  obtain ⟨xx, s, hp, hs, hS⟩ := h.at_i hi'
  obtain ⟨rb, cs, E⟩ := hr (by rintro rfl; simp at hi')
  have eg := entV_get hp hs
  refine nilP (hb.rS rfl ?_)
  rw [E.a]
  refine ix (by omega) (by omega) ?_
  rw [add_lit]
  refine E.blk.rP (x := some ⟨xx.1, 0, none⟩) ?_ ?_
  ·have := E.get eg.2.2
   rw [show 0 + (i : Int).toNat * 3 + 2 = 3 * i + 2 by omega]; exact this
  have hfind : ∀ r, idx c s x = some r -> ofS c ss x = some i := by
   intro r hr'
   refine List.findIdx?_eq_some_iff_getElem.2 ⟨hi', ?_, fun j hj => ?_⟩
   ·have : ss[i] = s := by rw [List.getElem?_eq_getElem hi'] at hs; simpa using hs
    rw [this, hr']; rfl
   ·rw [hno j _ hj (List.getElem?_eq_getElem (by omega))]; simp
  refine Index_ok hS x hx (fun r hr' => ifT rfl (nilP (hb.rS rfl ?_))) fun hn => ifF rfl ?_
  ·rw [E.a]
   refine ix (by omega) (by omega) ?_
   rw [add_lit, show 0 + (i : Int).toNat * 3 = 3 * i by omega]
   exact h1 i sl rb cs (hfind r hr') hi' hb E
  ·refine arN (m := i + 1) (by omega) (by omega) ⟨⟨i + 1, rfl, by omega, rfl, fun j s' hj hs' => ?_⟩, by omega⟩
   by_cases e : j = i
   ·subst e; rw [hs] at hs'; cases hs'; exact hn
   ·exact hno j s' (by omega) hs'
 ·refine h0 ?_
  refine List.findIdx?_eq_none_iff.2 fun s hs => ?_
  obtain ⟨j, hj⟩ := List.getElem?_of_mem hs
  have := (List.getElem?_eq_some_iff.1 hj).1
  rw [hno j s (by simp only at hge; omega) hj]
  rfl
theorem isTk_some {x : Int} {k : Nat} {s : SpA} (hk : ofS c ss x = some k) (hs : ss[k]? = some s) : isTk c ss x = (obj c s x).map s.is := by
 unfold isTk
 rw [hk]; simp only [hs]; rfl
theorem isTk_none {x : Int} (hk : ofS c ss x = none) : isTk c ss x = none := by unfold isTk; rw [hk]
theorem CIsTaken_ok (h : CeH σ F p c ps ss) (x : Int) (hx : I63 x) {R : Bool -> Int -> Hp -> Prop} (h1 : ∀ b, isTk c ss x = some b -> R b 0 σ) (h0 : isTk c ss x = none -> R false 8 σ) : central_List_IsTaken.call (some ⟨p, 0, none⟩) x σ R := by
 refine central_List_IsTaken.of_vc ?_
 unfold central_List_IsTaken.vc
 refine cmade_ok h (ifF rfl (of_ok' h x hx (fun hn => ifT rfl (h0 (isTk_none hn))) fun i sl rb cs hof hi hb E => ifF rfl (nilP ?_)))
 obtain ⟨xx, s, hp, hs, hS⟩ := h.at_i hi
 have eg := entV_get hp hs
 refine E.blk.rP (x := some ⟨xx.1, 0, none⟩) (E.get eg.2.2) ?_
 have hk := isTk_some hof hs
 exact SIsTaken_ok hS x hx (fun j hj => h1 _ (by rw [hk, hj]; rfl)) fun hn => h0 (by rw [hk, hn]; rfl)
theorem findC_some {x : Int} {k : Nat} {s : SpA} (hk : ofS c ss x = some k) (hs : ss[k]? = some s) : findC c ss x = (idx c s x).map (at_ c s) := by
 unfold findC
 rw [hk]; simp only [hs]
theorem findC_none {x : Int} (hk : ofS c ss x = none) : findC c ss x = none := by unfold findC; rw [hk]
theorem ofS_idx {x : Int} {k : Nat} {s : SpA} (hk : ofS c ss x = some k) (hs : ss[k]? = some s) : ∃ i, idx c s x = some i := by
 obtain ⟨hi, hf, _⟩ := List.findIdx?_eq_some_iff_getElem.1 hk
 have : ss[k] = s := by rw [List.getElem?_eq_getElem hi] at hs; simpa using hs
 rw [this] at hf
 exact Option.isSome_iff_exists.1 hf
theorem CFind_ok (h : CeH σ F p c ps ss) (x : Int) (hx : I63 x) {R : Int -> Int -> Hp -> Prop} (h1 : ∀ a, findC c ss x = some a -> R (a : Int) 0 σ) (h0 : findC c ss x = none -> R 0 8 σ) : central_List_Find.call (some ⟨p, 0, none⟩) x σ R := by
 refine central_List_Find.of_vc ?_
 unfold central_List_Find.vc
 refine cmade_ok h (ifF rfl (of_ok' h x hx (fun hn => ifT rfl (h0 (findC_none hn))) fun i sl rb cs hof hi hb E => ifF rfl (nilP ?_)))
 obtain ⟨xx, s, hp, hs, hS⟩ := h.at_i hi
 have eg := entV_get hp hs
 obtain ⟨r, hr⟩ := ofS_idx hof hs
 have hk := findC_some hof hs
 have hc := h.ok
 unfold Cls.ok at hc
 have hrl := ((idx_some (by omega)).1 hr).2.2
 rw [hS.len] at hrl
 have hn := h.ok.n_le
 have hfit := hS.fit
 have hm : r * c.size <= 128 * 512 := Nat.mul_le_mul (by omega) (by omega)
 refine E.blk.rP (x := some ⟨xx.1, 0, none⟩) (E.get eg.2.2) ?_
 refine Index_ok hS x hx (fun r' hr' => ?_) fun hn => by rw [hr] at hn; cases hn
 rw [hr] at hr'; cases hr'
 refine nilP (E.blk.rI2 (x := s.st) (E.get eg.2.1) (arN (m := s.st * 256) (by simp) (by omega) (nilP (hb.rI2 rfl ?_))))
 refine arN (m := r * c.size) (by simp) (by omega) (arN (m := at_ c s r) (by simp [at_]) (by unfold at_; omega) (h1 _ (by rw [hk, hr]; rfl)))
theorem entBox {h : Hp} {rb i : Nat} {cs : List Value} {x y : Int} {z : Option Addr} {e : Nat} (hb : Blk h rb cs) (h0 : cs[3 * i]? = some (.int .i64 x)) (h1 : cs[3 * i + 1]? = some (.int .i64 y)) (h2 : cs[3 * i + 2]? = some (.pointer z))
 {K : Int -> Int -> Option Addr -> Prop} (hK : K x y z) : LdI .i64 (Addr.add ⟨rb, 3 * i, none⟩ 0) h fun u => LdI .i64 (Addr.add ⟨rb, 3 * i, none⟩ 1) h fun v => LdP (Addr.add ⟨rb, 3 * i, none⟩ 2) h fun w => K u v w :=
 hb.rI h0 (hb.rI h1 (hb.rP h2 hK))
theorem entNew {h : Hp} {x y : Int} {z : Option Addr} {e : Nat} {K : Addr -> Hp -> Prop} (hK : ∀ h', Ext0 h h' -> Blk h' h.size [.int .i64 x, .int .i64 y, .pointer z] -> K ⟨h.size, 0, none⟩ h') :
 Nw (.cells #[.int .i64 0, .int .i64 0, .pointer none] e (0, 0)) h fun n v => St1 (n.add 0) (.int .i64 x) v fun v1 => St1 (n.add 1) (.int .i64 y) v1 fun v2 => St1 (n.add 2) (.pointer z) v2 fun v3 => K n v3 := by
 refine nw (cs := [.int .i64 0, .int .i64 0, .pointer none]) fun v hz e hb => hb.s1 (by simp) fun v1 o1 b1 => b1.s1 (by simp) fun v2 o2 b2 => b2.s1 (by simp) fun v3 o3 b3 => ?_
 refine hK v3 ?_ b3
 exact Ext.fresh (Ext.fresh (Ext.fresh e o1.ext fun i hi => by omega) o2.ext fun i hi => by omega) o3.ext fun i hi => by omega
def runV (c : Cls) (l : List Nat) : List Value := l.flatMap fun (s : Nat) => [.int .i64 (s : Int), .int .i64 (c.pages : Int)]
theorem runV_len (c : Cls) (l : List Nat) : (runV c l).length = 2 * l.length := by
 induction l with
 | nil => rfl
 | cons x l ih => simp only [runV, List.flatMap_cons, List.length_append, List.length_cons, List.length_nil] at *; omega
theorem CNew_ok (hc : c.ok) {R : Option Addr -> Int -> Hp -> Prop} (hR : ∀ σ' p, Ext0 σ σ' -> σ.size <= p -> p < σ'.size -> CeH σ' (· = p) p c [] [] -> R (some ⟨p, 0, none⟩) 0 σ') : central_New.call c.size c.pages c.batch σ R := by
 refine central_New.of_vc ?_
 unfold central_New.vc
 refine nw (cs := [.int .i64 c.size, .int .i64 c.pages, .int .i64 c.batch]) fun v hz e hb => ?_
 refine hb.rI rfl (hb.rI rfl (hb.rI rfl (Objects_ok _ _ _ (fun c' hc' e1 e2 e3 v1 ex => ?_) fun hno => ?_)))
 case refine_2 => rw [(clsOk_nat c).2 hc] at hno; cases hno
 have hb1 := ex.blk hb id
 refine ifF rfl (hb1.rI rfl (hb1.rI rfl (hb1.rI rfl (nw (cs := [.int .i64 c.size, .int .i64 c.pages, .int .i64 c.batch, .slice none 0 0]) fun v2 hz2 ex2 hb2 => ?_))))
 exact hR _ _ ((e.trans ex).trans ex2) (by have := ex.1; omega) (by omega) ⟨⟨⟨none, 0, 0⟩, hb2, RowR.nil _ _ _ _⟩, by simp, rfl, by simp [blks], by simp [blks], rfl, hc, by simp⟩
end Go.Ar
namespace Go.Ar
open Go Go.Vc Go.Proofs


variable {σ : Hp} {F : Rg} {p : Nat} {c : Cls} {ps : List (Nat × Nat)} {ss : List SpA}
theorem before_ok (a b a' b' : Nat) {R : Bool -> Hp -> Prop} (hR : ∀ σ', Ext0 σ σ' -> R (decide (a > a') || (a == a' && decide (b < b'))) σ') : central_rank_before.call (a : Int) (b : Int) (a' : Int) (b' : Int) σ R := by
 refine central_rank_before.of_vc ?_
 unfold central_rank_before.vc
 refine nw (cs := [.int .i64 a, .int .i64 b]) fun v hz e hb => nw (cs := [.int .i64 a', .int .i64 b']) fun v1 hz1 e1 hb1 => ?_
 have hb' := e1.blk hb id
 have hR' := hR _ (e.trans e1)
 refine hb'.rI rfl (hb1.rI rfl (JnB.intro (ifD (fun h => ?_) fun h => ?_)))
 ·have : decide (a > a') = true := by simpa using h
  rw [this, Bool.true_or] at hR'; exact hR'
 ·have : decide (a > a') = false := by simpa using h
  rw [this, Bool.false_or] at hR'
  refine hb'.rI rfl (hb1.rI rfl (JnB.intro ?_))
  rw [beqN]
  refine iff_ (fun he => ?_) fun he => ?_
  ·rw [he, Bool.true_and] at hR'
   refine hb'.rI rfl (hb1.rI rfl ?_)
   have : decide ((b : Int) < (b' : Int)) = decide (b < b') := by rw [decide_eq_decide]; omega
   rw [this]; exact hR'
  ·rw [he, Bool.false_and] at hR'; exact hR'
theorem bestFrom_spec : ∀ {i k : Nat}, bestFrom ss i = some k -> k < i /\ ∃ s, ss[k]? = some s /\ s.many < s.tk.length
 | 0, _, h => by simp [bestFrom] at h
 | i + 1, k, h => by
  have up : bestFrom ss i = some k -> k < i + 1 /\ ∃ s, ss[k]? = some s /\ s.many < s.tk.length := fun h => by
   have := bestFrom_spec h; exact ⟨by omega, this.2⟩
  simp only [bestFrom] at h
  split at h
  ·rename_i x hx
   split at h
   ·rename_i hlt
    have here : i < i + 1 /\ ∃ s, ss[i]? = some s /\ s.many < s.tk.length := ⟨by omega, x, hx, hlt⟩
    split at h
    ·rename_i j hj
     split at h
     ·split at h
      ·cases h; exact here
      ·cases h; exact up hj
     ·cases h; exact here
    ·cases h; exact here
   ·exact up h
  ·exact up h
theorem low_some {s : SpA} (h : s.many < s.tk.length) : ∃ i, low s = some i /\ i < s.tk.length /\ s.is i = false := by
 unfold low
 cases hf : s.tk.findIdx? (· == false) with
 | some i =>
  obtain ⟨hi, hb, _⟩ := List.findIdx?_eq_some_iff_getElem.1 hf
  refine ⟨i, rfl, hi, ?_⟩
  have : s.tk[i] = false := by simpa using hb
  simp [SpA.is, List.getD_eq_getElem?_getD, List.getElem?_eq_getElem hi, this]
 | none =>
  exfalso
  have h1 := List.findIdx?_eq_none_iff.1 hf
  have : s.many = s.tk.length := by
   unfold SpA.many
   rw [List.count_eq_length]
   intro x hx
   have := h1 x hx
   cases x
   ·simp at this
   ·rfl
  omega
theorem entV_set : ∀ {ps : List (Nat × Nat)} {ss : List SpA} {k : Nat} {s s' : SpA}, ps.length = ss.length -> ss[k]? = some s -> s'.st = s.st -> entV ps (ss.set k s') = (entV ps ss).set (3 * k) (.int .i64 (s'.many : Int))
 | [], [], _, _, _, _, h, _ => by simp at h
 | [], _ :: _, _, _, _, h, _, _ => by simp at h
 | _ :: _, [], _, _, _, _, h, _ => by simp at h
 | x :: ps, t :: ss, 0, s, s', _, h, e => by simp at h; subst h; simp [entV, e]
 | x :: ps, t :: ss, k + 1, s, s', hl, h, e => by
  simp only [List.set_cons_succ, entV]
  rw [entV_set (ps := ps) (ss := ss) (s := s) (by simpa using hl) (by simpa using h) e]
  rw [show 3 * (k + 1) = 3 * k + 1 + 1 + 1 by omega]
  simp
theorem blk_unique {h : Hp} {b : Nat} {cs cs' : List Value} (h1 : Blk h b cs) (h2 : Blk h b cs') : cs = cs' := by
 obtain ⟨e, he⟩ := h1
 obtain ⟨e', he'⟩ := h2
 rw [he] at he'
 simp only [Option.some.injEq, Obj.cells.injEq] at he'
 simpa using congrArg Array.toList he'.1
theorem mem_blks_of {x : Nat × Nat} {i : Nat} (hx : ps[i]? = some x) : x.1 ∈ blks ps /\ x.2 ∈ blks ps :=
 ⟨mem_blks.2 ⟨x, List.mem_of_getElem? hx, .inl rfl⟩, mem_blks.2 ⟨x, List.mem_of_getElem? hx, .inr rfl⟩⟩
theorem blks_apart : ∀ {ps : List (Nat × Nat)}, (blks ps).Nodup -> ∀ {i j : Nat} {x y : Nat × Nat}, ps[i]? = some x -> ps[j]? = some y -> i ≠ j -> ∀ b, (b = x.1 ∨ b = x.2) -> ¬ (b = y.1 ∨ b = y.2)
 | [], _, _, _, _, _, h, _, _ => by simp at h
 | z :: ps, hn, i, j, x, y, h1, h2, hij => by
  have hn' : z.1 ∉ blks ps /\ z.2 ∉ blks ps /\ z.1 ≠ z.2 /\ (blks ps).Nodup := by
   simp only [blks, List.flatMap_cons, List.cons_append, List.nil_append, List.nodup_cons, List.mem_cons, not_or] at hn
   exact ⟨hn.1.2, hn.2.1, hn.1.1, hn.2.2⟩
  intro b hb hb'
  match i, j, hij with
  | 0, 0, h => exact h rfl
  | 0, j + 1, _ =>
   simp at h1; subst h1
   have := mem_blks_of (ps := ps) (i := j) (by simpa using h2)
   rcases hb with rfl | rfl <;> rcases hb' with e | e <;> rw [e] at hn' <;> simp [this] at hn'
  | i + 1, 0, _ =>
   simp at h2; subst h2
   have := mem_blks_of (ps := ps) (i := i) (by simpa using h1)
   rcases hb with rfl | rfl <;> rcases hb' with e | e <;> rw [← e] at hn' <;> simp [this] at hn'
  | i + 1, j + 1, h => exact blks_apart hn'.2.2.2 (by simpa using h1) (by simpa using h2) (by omega) b hb hb'
theorem CeH.turn (h : CeH σ F p c ps ss) {k : Nat} {x : Nat × Nat} {s s' : SpA} (hx : ps[k]? = some x) (hs : ss[k]? = some s) (hst : s'.st = s.st) {σ1 : Hp} (e1 : Ext (fun b => b = x.1 ∨ b = x.2) σ σ1) (hS : SpH σ1 x.1 x.2 c s')
 {sl : Sl} {rb : Nat} {cs : List Value} (hb : Blk σ p [.int .i64 (c.size : Int), .int .i64 (c.pages : Int), .int .i64 (c.batch : Int), .slice sl.a sl.len sl.cap]) (E : EnR σ F p ps ss sl rb cs)
 {K : Hp -> Prop} (hK : ∀ σ2, Ext F σ σ2 -> CeH σ2 F p c ps (ss.set k s') -> K σ2) : St1 ⟨rb, 3 * k, none⟩ (.int .i64 (s'.many : Int)) σ1 K := by
 obtain ⟨sl', hb', hr⟩ := h.hd
 have hsl : sl' = sl := by
  have := blk_unique hb' hb
  simp at this
  obtain ⟨a, n, c⟩ := sl; obtain ⟨a', n', c'⟩ := sl'
  simp at this ⊢
  exact this
 subst hsl
 have hm := mem_blks_of hx
 have hnd := h.nd
 simp only [List.nodup_cons] at hnd
 have hki := (List.getElem?_eq_some_iff.1 hs).1
 have hr1 := (RowR.loc sl' 3 (entV ps ss)).keep hr e1 fun b hb hf => fun hh => hf.2.2 (by rcases hh with rfl | rfl; exact hm.1; exact hm.2)
 have hb1 := e1.blk hb fun hh => hnd.1 (by rcases hh with h | h <;> rw [h]; exact hm.1; exact hm.2)
 refine hr1.st (j := 3 * k) (by rw [entV_len h.len]; omega) (fun b hba => by rw [E.a] at hba; cases hba; rfl) fun σ2 e2 hr2 => ?_
 have e12 : Ext F σ σ2 := (e1.sub fun i hi => h.fb i (by rcases hi with rfl | rfl; exact hm.1; exact hm.2)).trans (e2.sub fun i hi => hi.1)
 refine hK σ2 e12 ⟨⟨sl', e2.blk hb1 fun hh => hh.2.1 rfl, ?_⟩, fun i y t hy ht => ?_, h.fp, h.fb, h.nd, by simpa using h.len, h.ok, ?_⟩
 ·rw [entV_set h.len hs hst]; exact hr2
 ·have hmy := mem_blks_of hy
  have k2 : SpH σ1 y.1 y.2 c t := by
   by_cases hik : i = k
   ·subst hik
    rw [hx] at hy; cases hy
    rw [List.getElem?_set_self hki] at ht; cases ht
    exact hS
   ·rw [List.getElem?_set_ne (Ne.symm hik)] at ht
    have ap := blks_apart hnd.2 hy hx hik
    exact (h.sp i y t hy ht).keep e1 (ap _ (.inl rfl)) (ap _ (.inr rfl))
  exact k2.keep e2 (fun hh => hh.2.2 hmy.1) (fun hh => hh.2.2 hmy.2)
 ·have : (ss.set k s').map (·.st) = ss.map (·.st) := by
   apply List.ext_getElem?
   intro i
   simp only [List.getElem?_map]
   by_cases hik : i = k
   ·subst hik
    rw [List.getElem?_set_self hki, hs]; simp [hst]
   ·rw [List.getElem?_set_ne (Ne.symm hik)]
  have h2 := h.srt
  rw [← List.pairwise_map (f := SpA.st) (R := (· < ·))] at h2 ⊢
  rw [this]; exact h2
theorem one_ok' (h : CeH σ F p c ps ss) {R : Int -> Bool -> Hp -> Prop} (h1 : ∀ x ss', oneS c ss = some (x, ss') -> ∀ σ', Ext F σ σ' -> CeH σ' F p c ps ss' -> R (x : Int) true σ') (h0 : oneS c ss = none -> ∀ σ', Ext0 σ σ' -> R 0 false σ') :
 central_List_one.call (some ⟨p, 0, none⟩) σ R := by
 refine central_List_one.of_vc ?_
 unfold central_List_one.vc
 obtain ⟨sl, hb, hl, hr⟩ := h.sl
 have hfew := h.few
 have hn := h.ok.n_le
 obtain ⟨rb, cs, E⟩ : ∃ rb cs, ss ≠ [] -> EnR σ F p ps ss sl rb cs := by
  by_cases hne : ss = []
  ·exact ⟨0, [], fun h => absurd hne h⟩
  ·obtain ⟨rb, cs, E⟩ := hr hne
   exact ⟨rb, cs, fun _ => E⟩
 refine nilP (hb.rS rfl ?_)
 refine loop2 (a := .p) (bb := .i .i64) (fun (best : Option Addr) (t : Int) h' => ∃ i : Nat, t = (i : Int) /\ i <= ss.length /\ Ext0 σ h' /\ best = (bestFrom ss i).map fun k => ⟨rb, 3 * k, none⟩) (fun _ t _ => ss.length - t.toNat) ⟨0, rfl, by omega, Ext.refl _ _, rfl⟩ ?_
 rintro best t h' ⟨i, rfl, hi, e, rfl⟩
 refine ifD (fun hlt => ?_) fun hge => ?_
 ·simp only at hlt
  have hi' : i < ss.length := by omega
  have E := E (by rintro rfl; simp at hi')
  obtain ⟨xx, s, hp, hs, hS⟩ := h.at_i hi'
  have eg := entV_get hp hs
  have hsl := hS.len
  refine nilP ((e.blk hb id).rS rfl ?_)
  rw [E.a]
  refine ix (by omega) (by omega) ?_
  rw [add_lit, show 0 + (i : Int).toNat * 3 = 3 * i by omega]
  have Eb := e.blk E.blk id
  have bf : bestFrom ss (i + 1) = if s.many < s.tk.length then (match bestFrom ss i with
   | some j => match ss[j]? with
    | some y => if before s y then some i else some j
    | none => some i
   | none => some i) else bestFrom ss i := by
   simp only [bestFrom, hs]
   rfl
  have J : ∀ (r : Bool) (v : Hp), Ext0 σ v -> (if r then some i else bestFrom ss i) = bestFrom ss (i + 1) →
   If r (Ar .i64 ((i : Int) + 1) fun t50 => (∃ j : Nat, t50 = (j : Int) /\ j <= ss.length /\ Ext0 σ v /\ some (⟨rb, 3 * i, none⟩ : Addr) = (bestFrom ss j).map fun k => ⟨rb, 3 * k, none⟩) /\ ss.length - t50.toNat < ss.length - (i : Int).toNat)
    (Ar .i64 ((i : Int) + 1) fun t50 => (∃ j : Nat, t50 = (j : Int) /\ j <= ss.length /\ Ext0 σ v /\ ((bestFrom ss i).map fun k => (⟨rb, 3 * k, none⟩ : Addr)) = (bestFrom ss j).map fun k => ⟨rb, 3 * k, none⟩) /\ ss.length - t50.toNat < ss.length - (i : Int).toNat) := by
   intro r v ev hr'
   cases r
   ·refine ifF rfl (arN (m := i + 1) (by omega) (by omega) ⟨⟨i + 1, rfl, by omega, ev, ?_⟩, by omega⟩)
    rw [← hr']; rfl
   ·refine ifT rfl (arN (m := i + 1) (by omega) (by omega) ⟨⟨i + 1, rfl, by omega, ev, ?_⟩, by omega⟩)
    rw [← hr']; rfl
  refine Jn.intro ⟨fun h'' => Blk h'' rb cs, Eb, nilP ⟨_, fun h'' hS => by rw [add_lit, add_lit, hS.cell]; exact E.get eg.1, nilP ⟨_, fun h'' hS => by rw [add_lit, hS.cell]; exact E.get eg.2.2, ?_⟩⟩⟩
  refine Objects_ok' (hS.keep0 e) ⟨Eb, ?_⟩
  refine ifD (fun hlt2 => ?_) fun hge2 => ?_
  ·have hm : s.many < s.tk.length := by omega
   rw [if_pos hm] at bf
   cases hbf : bestFrom ss i with
   | none =>
    rw [hbf] at bf J
    exact ifT rfl (J true h' e bf.symm)
   | some j =>
    rw [hbf] at bf J
    obtain ⟨hji, y, hy, hym⟩ := bestFrom_spec hbf
    simp only [hy] at bf
    have hpj : j < ps.length := by rw [h.len]; omega
    have egj := entV_get (List.getElem?_eq_getElem hpj) hy
    have fin : central_rank_before.call (s.many : Int) (s.st : Int) (y.many : Int) (y.st : Int) h' fun t46 v3 => Blk v3 rb cs ∧
     If t46 (Ar .i64 ((i : Int) + 1) fun t50 => (∃ j : Nat, t50 = (j : Int) /\ j <= ss.length /\ Ext0 σ v3 /\ some (⟨rb, 3 * i, none⟩ : Addr) = (bestFrom ss j).map fun k => ⟨rb, 3 * k, none⟩) /\ ss.length - t50.toNat < ss.length - (i : Int).toNat)
      (Ar .i64 ((i : Int) + 1) fun t50 => (∃ j' : Nat, t50 = (j' : Int) /\ j' <= ss.length /\ Ext0 σ v3 /\ ((some j).map fun k => (⟨rb, 3 * k, none⟩ : Addr)) = (bestFrom ss j').map fun k => ⟨rb, 3 * k, none⟩) /\ ss.length - t50.toNat < ss.length - (i : Int).toNat) := by
     refine before_ok _ _ _ _ fun v3 e3 => ⟨e3.blk Eb id, J _ v3 (e.trans e3) ?_⟩
     rw [bf]; rfl
    refine ifF rfl (nilP (nilP ⟨?_, ?_⟩))
    ·exact Eb.rI2 (E.get eg.1) (Eb.rI2 (E.get eg.2.1) ⟨Eb, Eb.rI2 (E.get egj.1) (Eb.rI2 (E.get egj.2.1) ⟨Eb, fin⟩)⟩)
    ·exact Eb.rI2 (E.get egj.1) (Eb.rI2 (E.get egj.2.1) ⟨Eb, Eb.rI2 (E.get eg.1) (Eb.rI2 (E.get eg.2.1) ⟨Eb, fin⟩)⟩)
  ·have hm : ¬ s.many < s.tk.length := by omega
   rw [if_neg hm] at bf
   exact J false h' e bf.symm
 ·have hii : i = ss.length := by simp only at hge; omega
  subst hii
  cases hbf : bestFrom ss ss.length with
  | none =>
   refine ifT rfl (h0 ?_ _ e)
   simp [oneS, best, hbf]
  | some k =>
   obtain ⟨hk, s, hs, hsm⟩ := bestFrom_spec hbf
   have E := E (by rintro rfl; simp at hk)
   obtain ⟨xx, s', hp, hs', hS⟩ := h.at_i hk
   rw [hs] at hs'; cases hs'
   have eg := entV_get hp hs
   obtain ⟨r, hlow, hr1, hr2⟩ := low_some hsm
   have h' := h.keep0 e
   have one : oneS c ss = some (at_ c s r, ss.set k (s.put r true)) := by simp [oneS, best, hbf, hs, hlow]
   have E' : EnR _ F p ps ss sl rb cs := ⟨E.a, e.blk E.blk id, E.fr, E.get, E.lenC⟩
   refine ifF rfl (nilP (E'.blk.rP (x := some ⟨xx.1, 0, none⟩) (E.get eg.2.2) ?_))
   refine STake_ok (hS.keep0 e) hlow fun v5 e5 hS5 => nilP ?_
   have hmx := mem_blks_of hp
   have nrb : ¬ (rb = xx.1 ∨ rb = xx.2) := fun hh => E.fr.2.2 (by rcases hh with h | h <;> rw [h]; exact hmx.1; exact hmx.2)
   have hml := many_le' s
   have hmany := put_many hr1 true
   rw [hr2] at hmany
   have hmany' : (s.put r true).many = s.many + 1 := by simp at hmany; omega
   have hsl := hS.len
   refine (e5.blk E'.blk nrb).rI2 (E.get eg.1) (arN (m := s.many + 1) (by omega) (by omega) (nilP ?_))
   rw [add_lit, add_lit, Nat.add_zero, Nat.add_zero, ← hmany']
   exact h'.turn (s' := s.put r true) hp hs rfl e5 hS5 (e.blk hb id) E' fun v6 e6 h6 => h1 _ _ one v6 (e.to.trans e6) h6
theorem roomC_set {k : Nat} {s s' : SpA} (hs : ss[k]? = some s) : roomC (ss.set k s') + (s.tk.length - s.many) = roomC ss + (s'.tk.length - s'.many) := by
 unfold roomC
 induction ss generalizing k with
 | nil => simp at hs
 | cons x ss ih =>
  cases k with
  | zero => simp at hs; subst hs; simp; omega
  | succ k =>
   have := ih (by simpa using hs)
   simp only [List.set_cons_succ, List.map_cons, List.sum_cons]
   omega
theorem oneS_room {x : Nat} {ss' : List SpA} (h : oneS c ss = some (x, ss')) : roomC ss' + 1 = roomC ss := by
 unfold oneS at h
 split at h
 ·rename_i k hk
  obtain ⟨_, s, hs, hsm⟩ := bestFrom_spec hk
  rw [hs] at h
  simp only at h
  split at h
  ·rename_i i hi
   cases h
   obtain ⟨r, hr, hrl, hri⟩ := low_some hsm
   rw [hi] at hr; cases hr
   have h1 := roomC_set (s' := s.put i true) hs
   have h2 := put_many hrl true
   rw [hri] at h2
   have h3 : (s.put i true).tk.length = s.tk.length := by simp [SpA.put]
   simp at h2
   omega
  ·cases h
 ·cases h
theorem CeH.room (h : CeH σ F p c ps ss) : roomC ss <= 131072 := by
 have key : ∀ l : List SpA, (∀ s ∈ l, s.tk.length <= 128) -> roomC l <= 128 * l.length := by
  intro l
  induction l with
  | nil => intro _; simp [roomC]
  | cons x l ih =>
   intro hl
   have h1 := hl x (by simp)
   have h2 := ih fun s hs => hl s (by simp [hs])
   simp only [roomC, List.map_cons, List.sum_cons, List.length_cons] at *
   omega
 have := key ss fun s hs => by
  obtain ⟨i, hi⟩ := List.getElem?_of_mem hs
  have hil := (List.getElem?_eq_some_iff.1 hi).1
  obtain ⟨x, s', _, hs', hS⟩ := h.at_i hil
  rw [hi] at hs'; cases hs'
  rw [hS.len]; exact h.ok.n_le
 have := h.few
 omega
theorem takeC_step {m : Nat} {x : Nat} {ss' : List SpA} (h : oneS c ss = some (x, ss')) : takeC c (m + 1) ss = (x :: (takeC c m ss').1, (takeC c m ss').2) := by
 simp [takeC, h]
theorem CTake_ok (h : CeH σ F p c ps ss) (m : Int) (hm : 0 <= m) {R : Sl -> Int -> Hp -> Prop}
 (hR : ∀ s σ', Ext F σ σ' -> RowR s 1 (ints (takeC c m.toNat ss).1) σ' (fun b => σ.size <= b) -> CeH σ' (Cut F σ) p c ps (takeC c m.toNat ss).2 -> R s 0 σ') : central_List_Take.call (some ⟨p, 0, none⟩) m σ R := by
 refine central_List_Take.of_vc ?_
 unfold central_List_Take.vc
 have h := CeH.loc.cut h
 have hroom := CeH.room h
 refine cmade_ok h (ifF rfl (ifDF (by omega) ?_))
 refine loop1 (a := .s) (fun (out : Sl) h' => ∃ xs ss', Ext F σ h' /\ RowR out 1 (ints xs) h' (fun b => σ.size <= b) /\ CeH h' (Cut F σ) p c ps ss' /\ xs.length <= m.toNat /\ xs.length + roomC ss' = roomC ss /\ takeC c m.toNat ss = (xs ++ (takeC c (m.toNat - xs.length) ss').1, (takeC c (m.toNat - xs.length) ss').2))
  (fun out _ => m.toNat - out.len) ⟨[], ss, Ext.refl _ _, RowR.nil _ _ _ _, h, by simp, by simp, by simp⟩ ?_
 rintro out h' ⟨xs, ss', e, hrow, hC, hle, hrm, htk⟩
 have hlen := hrow.lenN
 refine ifD (fun hlt => ?_) fun hge => ?_
 ·have hsucc : m.toNat - xs.length = (m.toNat - (xs.length + 1)) + 1 := by omega
  refine one_ok' hC (fun x ss2 hone v2 e2 hC2 => ifF rfl ?_) fun hnone v2 e2 => ifT rfl ?_
  ·have e02 : Ext F σ v2 := e.trans (e2.sub fun i hi => hi.1)
   have hrow2 := (RowR.loc _ _ _).keep hrow e2 fun b _ hb hc => by have := hc.2; omega
   refine hrow2.push (vs := [.int .i64 (x : Int)]) (fun b hb => Nat.le_trans e02.1 hb) rfl rfl (by simp [one1]) (by omega) (by omega) fun s' v4 hl' e' ho' => ?_
   have hr2 := oneS_room hone
   refine ⟨⟨xs ++ [x], ss2, e02.newT e' fun i hi => .inr hi, by rw [ints_append]; exact ho', CeH.loc.keep hC2 e' fun b _ hb hc => (by have := hb.2; omega), by simp; omega, by simp; omega, ?_⟩, by omega⟩
   rw [htk, hsucc, takeC_step hone]
   simp
  ·have : takeC c (m.toNat - xs.length) ss' = ([], ss') := by rw [hsucc]; simp [takeC, hnone]
   rw [this] at htk
   have hr := hR out v2 (e.trans e2.to)
   rw [htk, List.append_nil] at hr
   exact hr ((RowR.loc _ _ _).keep0 hrow e2) (hC.keep0 e2)
 ·have hz : m.toNat - xs.length = 0 := by omega
  rw [hz] at htk
  have hr := hR out h' e
  rw [htk] at hr
  simp only [takeC, List.append_nil] at hr
  exact hr hrow hC
theorem CTake_neg (h : CeH σ F p c ps ss) (m : Int) (hm : m < 0) {R : Sl -> Int -> Hp -> Prop} (hR : R ⟨none, 0, 0⟩ 1 σ) : central_List_Take.call (some ⟨p, 0, none⟩) m σ R := by
 refine central_List_Take.of_vc ?_
 unfold central_List_Take.vc
 exact cmade_ok h (ifF rfl (ifDT (by omega) hR))
end Go.Ar
namespace Go.Ar
open Go Go.Vc Go.Proofs


variable {σ : Hp} {F : Rg} {p : Nat} {c : Cls} {ps : List (Nat × Nat)} {ss : List SpA}
def kps : List (Nat × Nat) -> List SpA -> List (Nat × Nat)
 | x :: ps, s :: ss => if s.many != 0 then x :: kps ps ss else kps ps ss
 | _, _ => []
theorem kps_len : ∀ {ps : List (Nat × Nat)} {ss : List SpA}, ps.length = ss.length -> (kps ps ss).length = (sweep ss).length
 | [], [], _ => rfl
 | x :: ps, s :: ss, h => by
  have ih := kps_len (ps := ps) (ss := ss) (by simpa using h)
  simp only [kps, sweep, List.filter_cons] at *
  split <;> simp [ih]
theorem kps_sub : ∀ {ps : List (Nat × Nat)} {ss : List SpA}, (kps ps ss).Sublist ps
 | [], _ => by simp [kps]
 | _ :: _, [] => by simp [kps]
 | x :: ps, s :: ss => by
  simp only [kps]
  split
  ·exact kps_sub.cons_cons x
  ·exact kps_sub.cons x
theorem kps_append : ∀ {ps ps' : List (Nat × Nat)} {ss ss' : List SpA}, ps.length = ss.length -> kps (ps ++ ps') (ss ++ ss') = kps ps ss ++ kps ps' ss'
 | [], _, [], _, _ => rfl
 | x :: ps, _, s :: ss, _, h => by
  simp only [List.cons_append, kps, kps_append (ps := ps) (ss := ss) (by simpa using h)]
  split <;> rfl
theorem kps_get : ∀ {ps : List (Nat × Nat)} {ss : List SpA} {i : Nat} {x : Nat × Nat} {s : SpA}, ps.length = ss.length -> (kps ps ss)[i]? = some x -> (sweep ss)[i]? = some s -> ∃ j : Nat, ps[j]? = some x /\ ss[j]? = some s
 | [], [], _, _, _, _, h, _ => by simp [kps] at h
 | y :: ps, t :: ss, i, x, s, hl, h1, h2 => by
  have ih := fun i => kps_get (ps := ps) (ss := ss) (i := i) (x := x) (s := s) (by simpa using hl)
  simp only [kps, sweep, List.filter_cons] at h1 h2
  cases hm : (t.many != 0)
  ·rw [hm] at h1 h2
   obtain ⟨j, h3, h4⟩ := ih i h1 h2
   exact ⟨j + 1, by simpa using h3, by simpa using h4⟩
  ·rw [hm] at h1 h2
   cases i with
   | zero => simp at h1 h2; exact ⟨0, by simp [h1], by simp [h2]⟩
   | succ i =>
    obtain ⟨j, h3, h4⟩ := ih i (by simpa using h1) (by simpa [sweep] using h2)
    exact ⟨j + 1, by simpa using h3, by simpa using h4⟩
theorem sweep_append (a b : List SpA) : sweep (a ++ b) = sweep a ++ sweep b := by simp [sweep]
theorem swept_append (a b : List SpA) : swept (a ++ b) = swept a ++ swept b := by simp [swept]
theorem runV_append (c : Cls) (a b : List Nat) : runV c (a ++ b) = runV c a ++ runV c b := by simp [runV]
theorem sublist_blks {a b : List (Nat × Nat)} (h : a.Sublist b) : (blks a).Sublist (blks b) := by
 induction h with
 | slnil => exact List.Sublist.refl _
 | cons x _ ih => exact (ih.cons _).cons _
 | cons_cons x _ ih => exact (ih.cons_cons _).cons_cons _
theorem sweep1_ok {h : Hp} {Q : Rg} {n3 : Nat} {o : Sl} {l : List Nat} {x1 x2 : Nat} {s : SpA} (hb : Blk h n3 [.slice o.a o.len o.cap]) (hrow : RowR o 2 (runV c l) h Q) (hQ : ∀ b, Q b -> n3 < b) (hl : l.length <= 2000) (hS : SpH h x1 x2 c s) {R : Bool -> Hp -> Prop}
 (hR : ∀ h' o', Ext (fun b => b = n3 ∨ Q b) h h' -> Blk h' n3 [.slice (Sl.a o') o'.len o'.cap] -> RowR o' 2 (runV c (l ++ if s.many = 0 then [s.st] else [])) h' (Grow Q h) -> R (s.many == 0) h') :
 CallF Tryz.prog ⟨180, #[], #[.pointer (some ⟨n3, 0, none⟩)]⟩ [.agg #[.int .i64 (s.many : Int), .int .i64 (s.st : Int), .pointer (some ⟨x1, 0, none⟩)]] [.one .b] h R := by
 refine callF (all := #[.agg #[.int .i64 (s.many : Int), .int .i64 (s.st : Int), .pointer (some ⟨x1, 0, none⟩)], .pointer (some ⟨n3, 0, none⟩)]) (by kernel_rfl) (by simp) ?_
 refine central_List_Sweep_L1.of_vc ?_
 unfold central_List_Sweep_L1.vc
 refine nw (cs := [.int .i64 (s.many : Int), .int .i64 (s.st : Int), .pointer (some ⟨x1, 0, none⟩)]) fun v hz e hb1 => ?_
 have hn3 := hb.lt
 have hbv := e.blk hb id
 have hrow := (RowR.loc o 2 (runV c l)).mono hrow (G := fun b => Q b /\ b < h.size) fun b hb hf => ⟨hf, hb⟩
 refine Jn.intro (hb1.rI2 rfl ?_)
 rw [beqN0]
 refine iff_ (fun hm => ?_) fun hm => ?_
 ·have hm' : s.many = 0 := by simpa using hm
  rw [if_pos hm'] at hR
  refine ⟨fun h' => Blk h' h.size [.int .i64 (s.many : Int), .int .i64 (s.st : Int), .pointer (some ⟨x1, 0, none⟩)] /\ Blk h' n3 [.slice o.a o.len o.cap], ⟨hb1, hbv⟩, ⟨o, fun h' hS => by rw [hS.2.cell]; rfl, ⟨some ⟨x1, 0, none⟩, fun h' hS => by rw [add_lit, hS.1.cell]; rfl, ?_⟩⟩⟩
  refine Run_ok (hS.keep0 e) fun v2 e2 => ⟨⟨e2.blk hb1 id, e2.blk hbv id⟩, ?_⟩
  have e02 := e.trans e2
  have hrow2 := (RowR.loc _ _ _).keep0 hrow e02
  have hlen := hrow2.1
  rw [runV_len] at hlen
  refine nw (cs := [.int .i64 (s.st : Int), .int .i64 (c.pages : Int)]) fun v3 hz3 e3 hb3 => ⟨⟨(e2.trans e3).blk hb1 id, (e2.trans e3).blk hbv id⟩, ?_⟩
  have hrow3 := (RowR.loc _ _ _).keep0 hrow2 e3
  have hs2 := e02.1
  refine hrow3.app (ys := [.int .i64 (s.st : Int), .int .i64 (c.pages : Int)]) rfl rfl ?_ (by simp [one1]) ?_ ?_ Nat.zero_lt_one fun s' v4 hl' e4 ho' => ?_
  ·intro j u hu
   rw [add_lit, Nat.zero_add, hb3.cell]; exact hu
  ·simp only; have : (o.len + 1) * 16 <= 2001 * 16 := Nat.mul_le_mul (by omega) (by omega); omega
  ·simp only; omega
  ·have b1 : Blk v4 h.size [.int .i64 (s.many : Int), .int .i64 (s.st : Int), .pointer (some ⟨x1, 0, none⟩)] := e4.blk ((e2.trans e3).blk hb1 id) fun hh => by have := hh.2; omega
   have b2 : Blk v4 n3 [.slice o.a o.len o.cap] := e4.blk ((e2.trans e3).blk hbv id) fun hh => by have := hQ _ hh.1; omega
   refine ⟨⟨b1, b2⟩, b2.s0 (by simp) fun v5 o5 b5 => (only_blk o5 b1 (by omega)).rI2 rfl ?_⟩
   have e05 : Ext (fun b => b = n3 ∨ Q b) h v5 := (Ext0.to ((e.trans e2).trans e3)).trans (e4.sub fun i hi => .inr hi.1)|>.trans (o5.ext.sub fun i hi => .inl hi)
   rw [beqN0]
   refine hR v5 s' e05 b5 ?_
   rw [runV_append]
   have : runV c [s.st] = [.int .i64 (s.st : Int), .int .i64 (c.pages : Int)] := rfl
   rw [this]
   have k1 := (RowR.loc _ _ _).mono ho' (G := Grow Q h) fun b _ hg => by
    rcases hg with h | h
    ·exact .inl h.1
    ·exact .inr (by omega)
   exact (RowR.loc _ _ _).keep k1 o5.ext fun b _ hf he => by
    rcases hf with h | h
    ·have := hQ _ h; omega
    ·omega
 ·have hm' : ¬ s.many = 0 := by simpa using hm
  rw [if_neg hm', List.append_nil] at hR
  refine hb1.rI2 rfl ?_
  rw [beqN0]
  exact hR v o e.to hbv ((RowR.loc _ _ _).keep0 ((RowR.loc _ _ _).mono hrow fun b _ hf => .inl hf.1) e)
def Asked (n3 : Nat) (c : Cls) (l : List Nat) (h : Hp) : Prop := ∃ o : Sl, Blk h n3 [.slice o.a o.len o.cap] /\ RowR o 2 (runV c l) h (fun b => n3 < b)
theorem set3 {A D : List Value} {x y z : Value} {k : Nat} (hk : k = A.length) (hD : 3 <= D.length) : (((A ++ D).set k x).set (k + 1) y).set (k + 2) z = A ++ [x, y, z] ++ D.drop 3 := by
 subst hk
 match D, hD with
 | d0 :: d1 :: d2 :: D, _ => simp [List.set_append]
theorem swept_take {i : Nat} {s : SpA} (hs : ss[i]? = some s) : swept (ss.take (i + 1)) = swept (ss.take i) ++ (if s.many = 0 then [s.st] else []) := by
 rw [List.take_add_one, hs, swept_append]
 congr 1
 by_cases hm : s.many = 0 <;> simp [swept, hm]
theorem sweep_take {i : Nat} {s : SpA} (hs : ss[i]? = some s) : sweep (ss.take (i + 1)) = sweep (ss.take i) ++ (if s.many = 0 then [] else [s]) := by
 rw [List.take_add_one, hs, sweep_append]
 congr 1
 by_cases hm : s.many = 0 <;> simp [sweep, hm]
theorem kps_take {i : Nat} {x : Nat × Nat} {s : SpA} (hl : ps.length = ss.length) (hx : ps[i]? = some x) (hs : ss[i]? = some s) : kps (ps.take (i + 1)) (ss.take (i + 1)) = kps (ps.take i) (ss.take i) ++ (if s.many = 0 then [] else [x]) := by
 rw [List.take_add_one, List.take_add_one, hs, hx, kps_append (by simp [hl])]
 congr 1
 by_cases hm : s.many = 0 <;> simp [kps, hm]
theorem swept_len (l : List SpA) : (swept l).length <= l.length := by unfold swept; rw [List.length_map]; exact List.length_filter_le _ _
theorem sweep_len (l : List SpA) : (sweep l).length <= l.length := List.length_filter_le _ _
theorem delete_ok (h : CeH σ F p c ps ss) {sl : Sl} {rb n3 : Nat} {cs : List Value} {σ1 : Hp} (e1 : Ext0 σ σ1) (hlen : sl.len = ss.length) (hn3 : σ.size <= n3) (hE : ss ≠ [] -> EnR σ F p ps ss sl rb cs /\ sl.len <= sl.cap /\ cs.length = sl.cap * 3) (h0 : Asked n3 c [] σ1) {R : Sl -> Hp -> Prop}
 (hR : ∀ h' sl', Ext (fun b => F b /\ b ≠ p /\ b ∉ blks ps ∨ n3 <= b) σ1 h' -> Asked n3 c (swept ss) h' -> (sl' = sl /\ swept ss = [] /\ sweep ss = ss /\ kps ps ss = ps /\ Ext (fun b => n3 <= b) σ1 h' ∨ (RowR sl' 3 (entV (kps ps ss) (sweep ss)) h' (fun b => F b /\ b ≠ p /\ b ∉ blks ps))) -> R sl' h') :
 slices_DeleteFunc_central_entry_central_entry.call sl ⟨180, #[], #[.pointer (some ⟨n3, 0, none⟩)]⟩ σ1 R := by
 refine slices_DeleteFunc_central_entry_central_entry.of_vc ?_
 unfold slices_DeleteFunc_central_entry_central_entry.vc
 refine slices_IndexFunc_central_entry_central_entry.of_vc ?_
 unfold slices_IndexFunc_central_entry_central_entry.vc
 have hfew := h.few
 have hpl := h.len
 refine loop1 (a := .i .i64) (fun (t : Int) h' => ∃ i : Nat, t = (i : Int) /\ i <= ss.length /\ Ext (fun b => n3 <= b) σ1 h' /\ Asked n3 c [] h' /\ swept (ss.take i) = [] /\ sweep (ss.take i) = ss.take i /\ kps (ps.take i) (ss.take i) = ps.take i) (fun t _ => ss.length - t.toNat) ⟨0, rfl, by omega, Ext.refl _ _, h0, by simp [swept], by simp [sweep], by simp [kps]⟩ ?_
 rintro t h' ⟨i, rfl, hi, e, ⟨o, hbo, hro⟩, q1, q2, q3⟩
 have eo : ∀ {v : Hp}, Ext (fun b => n3 <= b) σ1 v -> Ext (fun b => n3 <= b) σ v := fun e => e1.to.trans e
 refine ifD (fun hlt => ?_) fun hge => ?_
 ·have hi' : i < ss.length := by omega
  obtain ⟨E, hcap, hcl⟩ := hE (by rintro rfl; simp at hi')
  obtain ⟨xx, s, hp, hs, hS⟩ := h.at_i hi'
  have eg := entV_get hp hs
  have hrl := E.blk.lt
  have hSl := hS.lt
  rw [E.a]
  refine ix (by omega) (by omega) ?_
  rw [add_lit, show 0 + (i : Int).toNat * 3 = 3 * i by omega]
  refine entBox (e := 0) ((eo e).blk E.blk (by omega)) (E.get eg.1) (E.get eg.2.1) (E.get eg.2.2) ?_
  have hn3h : n3 < h'.size := hbo.lt
  refine sweep1_ok hbo hro (fun b h => h) (by simp) (hS.keep (eo e) (by omega) (by omega)) fun h2 o2 e2 hb2 hr2 => ?_
  have e2 : Ext (fun b => n3 <= b) h' h2 := e2.sub fun b hb => by omega
  have hr2 := (RowR.loc _ _ _).mono hr2 (G := fun b => n3 < b) fun b _ hb => by
   rcases hb with h | h
   ·exact h
   ·omega
  refine iff_ (fun hm => ?_) fun hm => ?_
  ·-- the first that goes
   have hm' : s.many = 0 := by simpa using hm
   rw [if_pos hm', List.nil_append] at hr2
   have hne1 : ((i : Int) == (-1)) = false := by rw [beq_eq_false_iff_ne]; omega
   show If ((i : Int) == (-1)) _ _
   refine ifF hne1 (arN (m := i + 1) (by omega) (by omega) ?_)
   have q1' : swept (ss.take (i + 1)) = [s.st] := by rw [swept_take hs, q1, if_pos hm']; rfl
   have q2' : sweep (ss.take (i + 1)) = ss.take i := by rw [sweep_take hs, q2, if_pos hm', List.append_nil]
   have q3' : kps (ps.take (i + 1)) (ss.take (i + 1)) = ps.take i := by rw [kps_take hpl hp hs, q3, if_pos hm', List.append_nil]
   have hke : ∀ k, k <= ss.length -> (entV (kps (ps.take k) (ss.take k)) (sweep (ss.take k))).length = 3 * (sweep (ss.take k)).length := fun k _ => entV_len (kps_len (by simp [hpl]))
   have Eb2 : Blk h2 rb cs := (eo (e.trans e2)).blk E.blk (by omega)
   refine loop2 (a := .i .i64) (bb := .i .i64) (fun (i1 j1 : Int) v => ∃ j : Nat, j1 = (j : Int) /\ i < j /\ j <= ss.length /\ i1 = ((sweep (ss.take j)).length : Int) /\ (sweep (ss.take j)).length < j /\ Ext (fun b => b = rb ∨ n3 <= b) σ1 v /\ Asked n3 c (swept (ss.take j)) v ∧
    Blk v rb (entV (kps (ps.take j) (ss.take j)) (sweep (ss.take j)) ++ cs.drop (3 * (sweep (ss.take j)).length))) (fun _ j1 _ => ss.length - j1.toNat) ?_ ?_
   ·refine ⟨i + 1, rfl, by omega, by omega, ?_, ?_, (e.trans e2).sub fun b hb => .inr hb, ?_, ?_⟩
    ·rw [q2', List.length_take]; omega
    ·rw [q2', List.length_take]; omega
    ·rw [q1']; exact ⟨o2, hb2, hr2⟩
    ·rw [q2', q3', List.length_take, Nat.min_eq_left (by omega)]
     have : entV (ps.take i) (ss.take i) ++ cs.drop (3 * i) = cs := by
      have h1 : (entV (ps.take i) (ss.take i)).length = 3 * i := by rw [entV_len (by simp [hpl]), List.length_take]; omega
      apply List.ext_getElem?
      intro k
      rcases Nat.lt_or_ge k (3 * i) with hk | hk
      ·rw [List.getElem?_append_left (by omega)]
       have h2 : (entV ps ss)[k]? = (entV (ps.take i) (ss.take i))[k]? := by
        conv => lhs; rw [← List.take_append_drop i ps, ← List.take_append_drop i ss, entV_append (by simp [hpl])]
        rw [List.getElem?_append_left (by omega)]
       rw [← h2]
       have h3 : k < (entV ps ss).length := by rw [entV_len hpl]; omega
       rw [List.getElem?_eq_getElem h3]
       exact (E.get (List.getElem?_eq_getElem h3)).symm
      ·rw [List.getElem?_append_right (by omega), List.getElem?_drop, h1]
       congr 1; omega
     rw [this]; exact Eb2
   ·rintro i1 j1 v ⟨j, rfl, hij, hj, rfl, hKj, ev, ⟨o3, hbo3, hro3⟩, hrow⟩
    have hK1 := hke j hj
    have evo : Ext (fun b => b = rb ∨ n3 <= b) σ v := e1.to.trans ev
    refine ifD (fun hlt2 => ?_) fun hge2 => ?_
    ·have hj' : j < ss.length := by omega
     obtain ⟨yy, u, hpy, hsu, hSu⟩ := h.at_i hj'
     have egu := entV_get hpy hsu
     have hSul := hSu.lt
     have hm1 := mem_blks_of hpy
     refine ix (by omega) (by omega) ?_
     rw [add_lit, show 0 + (j : Int).toNat * 3 = 3 * j by omega]
     have get : ∀ d, d < 3 -> ∀ w, (entV ps ss)[3 * j + d]? = some w -> (entV (kps (ps.take j) (ss.take j)) (sweep (ss.take j)) ++ cs.drop (3 * (sweep (ss.take j)).length))[3 * j + d]? = some w := by
      intro d hd w hw
      rw [List.getElem?_append_right (by omega), List.getElem?_drop, hK1, show 3 * (sweep (ss.take j)).length + (3 * j + d - 3 * (sweep (ss.take j)).length) = 3 * j + d by omega]
      exact E.get hw
     refine entBox (e := 0) hrow (get 0 (by omega) _ egu.1) (get 1 (by omega) _ egu.2.1) (get 2 (by omega) _ egu.2.2) (entNew fun v5 e5 b5 => b5.rI rfl (b5.rI rfl (b5.rP rfl ?_)))
     have hn3v : n3 < v.size := hbo3.lt
     have hcut := (RowR.loc _ _ _).mono hro3 (G := fun b => n3 < b /\ b < v.size) fun b hb hf => ⟨hf, hb⟩
     have hswl := swept_len (ss.take j)
     rw [List.length_take] at hswl
     refine sweep1_ok (e5.blk hbo3 id) ((RowR.loc _ _ _).keep0 hcut e5) (fun b hb => hb.1) (by omega) ((hSu.keep evo (fun hh => by rcases hh with h | h; exact E.fr.2.2 (h ▸ hm1.1); omega) (fun hh => by rcases hh with h | h; exact E.fr.2.2 (h ▸ hm1.2); omega)).keep0 e5) fun v6 o6 e6 hb6 hr6 => ?_
     have hsz5 := e5.1
     have hr6 := (RowR.loc _ _ _).mono hr6 (G := fun b => n3 < b) fun b _ hb => by
      rcases hb with h | h
      ·exact h.1
      ·omega
     have b6 : Blk v6 v.size [.int .i64 (u.many : Int), .int .i64 (u.st : Int), .pointer (some ⟨yy.1, 0, none⟩)] := e6.blk b5 fun hh => by rcases hh with h | h; omega; have := h.2; omega
     have hrb : rb < σ.size := E.blk.lt
     have row6 := e6.blk (e5.blk hrow id) fun hh => by rcases hh with h | h; omega; have := h.1; omega
     have ev6 : Ext (fun b => b = rb ∨ n3 <= b) σ1 v6 := (ev.trans e5.to).trans (e6.sub fun b hb => by rcases hb with h | h; omega; have := h.1; omega)
     rw [← swept_take hsu] at hr6
     have st := sweep_take hsu
     have kt := kps_take hpl hpy hsu
     by_cases hum : u.many = 0
     ·rw [if_pos hum, List.append_nil] at st kt
      have : (u.many == 0) = true := by simp [hum]
      rw [this]
      refine ifF rfl (arN (m := j + 1) (by omega) (by omega) ⟨⟨j + 1, rfl, by omega, by omega, ?_, ?_, ev6, ⟨o6, hb6, hr6⟩, ?_⟩, by omega⟩)
      ·rw [st]
      ·rw [st]; omega
      ·rw [st, kt]; exact row6
     ·rw [if_neg hum] at st kt
      have : (u.many == 0) = false := by simp [hum]
      rw [this]
      refine ifT rfl (b6.rI rfl (b6.rI rfl (b6.rP rfl (ix (by omega) (by omega) ?_))))
      rw [add_lit, show 0 + ((sweep (ss.take j)).length : Int).toNat * 3 = 3 * (sweep (ss.take j)).length by omega]
      have hlen6 : (entV (kps (ps.take j) (ss.take j)) (sweep (ss.take j)) ++ cs.drop (3 * (sweep (ss.take j)).length)).length = cs.length := by
       rw [List.length_append, hK1, List.length_drop]; omega
      refine row6.s1 (by omega) fun v7 o7 b7 => b7.s1 (by simp; omega) fun v8 o8 b8 => b8.s1 (by simp; omega) fun v9 o9 b9 => ?_
      rw [Nat.add_zero, set3 hK1.symm (by rw [List.length_drop]; omega), List.drop_drop] at b9
      have ev9 : Ext (fun b => b = rb ∨ n3 <= b) σ1 v9 := ((ev6.trans (o7.ext.sub fun b hb => .inl hb)).trans (o8.ext.sub fun b hb => .inl hb)).trans (o9.ext.sub fun b hb => .inl hb)
      have e69 : Ext (· = rb) v6 v9 := (o7.ext.trans o8.ext).trans o9.ext
      refine arN (m := (sweep (ss.take j)).length + 1) (by omega) (by omega) (arN (m := j + 1) (by omega) (by omega) ⟨⟨j + 1, rfl, by omega, by omega, ?_, ?_, ev9, ⟨o6, e69.blk hb6 (by omega), (RowR.loc _ _ _).keep hr6 e69 fun b _ hb he => by omega⟩, ?_⟩, by omega⟩)
      ·rw [st]; simp
      ·rw [st]; simp; omega
      ·rw [st, kt, entV_append (kps_len (by simp [hpl]))]
       simp only [List.length_append, List.length_cons, List.length_nil, entV]
       rw [show 3 * ((sweep (ss.take j)).length + (0 + 1)) = 3 * (sweep (ss.take j)).length + 3 by omega]
       exact b9
    ·have hjj : j = ss.length := by omega
     subst hjj
     rw [List.take_length] at *
     have htl : ps.take ss.length = ps := by rw [← hpl, List.take_length]
     rw [htl] at hrow hK1
     have hswl := sweep_len ss
     refine slc (by omega) (by omega) (by omega) ?_
     have hK3 : 3 * (sweep ss).length <= cs.length := by omega
     have hlt3 : (sweep ss).length < ss.length := hKj
     rw [if_neg (by omega)]
     simp only [E.a, Option.map_some, add_lit, Nat.zero_add]
     refine ⟨by simp [one1], ?_⟩
     simp only
     have hz : (List.replicate (sl.len - (sweep ss).length) [Value.int .i64 0, .int .i64 0, .pointer none]).flatten.length = 3 * (sl.len - (sweep ss).length) := by
      rw [List.length_flatten, List.map_replicate, List.sum_replicate_nat]; simp; omega
     refine stN_blk (o := (sweep ss).length * 3) (i := 0) hrow (by rw [hz, List.length_append, hK1, List.length_drop]; omega) fun v10 o10 b10 => ?_
     refine slc (lo := 0) (by omega) (by omega) (by omega) ?_
     have ev10 : Ext (fun b => b = rb ∨ n3 <= b) σ1 v10 := ev.trans (o10.ext.sub fun b hb => .inl hb)
     refine hR v10 _ (ev10.sub fun b hb => ?_) ⟨o3, only_blk o10 hbo3 (by have := E.blk.lt; omega), (RowR.loc _ _ _).keep hro3 o10.ext fun b _ hb he => by have := E.blk.lt; omega⟩ (.inr ?_)
     ·rcases hb with rfl | h
      ·exact .inl E.fr
      ·exact .inr h
     ·refine ⟨by rw [entV_len (kps_len hpl)]; simp; omega, .inr ⟨rb, _, E.fr, ?_, b10, ?_, ?_, ?_⟩⟩
      ·simp only [E.a]
       split <;> simp [add_lit]
      ·simp only; omega
      ·simp only [List.length_append, List.length_take, List.length_drop, hz, hK1]; omega
      ·rw [entV_len (kps_len hpl), Nat.add_zero, show (sweep ss).length * 3 = 3 * (sweep ss).length by omega]
       rw [List.append_assoc, List.take_append_of_le_length (by rw [List.length_take, List.length_append, hK1]; omega), List.take_take, Nat.min_self]
       rw [List.take_append_of_le_length (by omega), List.take_of_length_le (by omega)]
  ·have hm' : ¬ s.many = 0 := by simpa using hm
   rw [if_neg hm', List.append_nil] at hr2
   refine arN (m := i + 1) (by omega) (by omega) ⟨⟨i + 1, rfl, by omega, e.trans e2, ⟨o2, hb2, hr2⟩, ?_, ?_, ?_⟩, by omega⟩
   ·rw [swept_take hs, q1, if_neg hm']; rfl
   ·rw [sweep_take hs, q2, if_neg hm', List.take_add_one, hs]; rfl
   ·rw [kps_take hpl hp hs, q3, if_neg hm', List.take_add_one, hp]; rfl
 ·have hii : i = ss.length := by omega
  subst hii
  rw [List.take_length] at *
  have htl : ps.take ss.length = ps := by rw [← hpl, List.take_length]
  rw [htl] at q3
  have hne1 : ((-1 : Int) == (-1)) = true := rfl
  refine ifT hne1 (hR h' sl (e.sub fun b hb => .inr hb) ?_ (.inl ⟨rfl, q1, q2, q3, e⟩))
  rw [q1]; exact ⟨o, hbo, hro⟩
end Go.Ar
namespace Go.Ar
open Go Go.Vc Go.Proofs


variable {σ : Hp} {F : Rg} {p : Nat} {c : Cls} {ps : List (Nat × Nat)} {ss : List SpA}
theorem CeH.sl' (h : CeH σ F p c ps ss) : ∃ sl : Sl, Blk σ p [.int .i64 (c.size : Int), .int .i64 (c.pages : Int), .int .i64 (c.batch : Int), .slice sl.a sl.len sl.cap] /\ sl.len = ss.length /\ RowR sl 3 (entV ps ss) σ (fun b => F b /\ b ≠ p /\ b ∉ blks ps) ∧
 ∃ rb cs, (ss ≠ [] -> EnR σ F p ps ss sl rb cs /\ sl.len <= sl.cap /\ cs.length = sl.cap * 3) := by
 obtain ⟨sl, hb, hr⟩ := h.hd
 have hl := hr.1
 rw [entV_len h.len] at hl
 refine ⟨sl, hb, by omega, hr, ?_⟩
 rcases hr.2 with ⟨h0, _⟩ | ⟨b, cs, hq, ha, hbb, hle, hcl, ht⟩
 ·exact ⟨0, [], fun hne => by have := List.length_pos_iff.2 hne; omega⟩
 ·refine ⟨b, cs, fun _ => ⟨⟨ha, hbb, hq, fun {j v} hj => ?_, ?_⟩, hle, hcl⟩⟩
  ·rw [← ht, List.getElem?_take] at hj
   split at hj
   ·exact hj
   ·cases hj
  ·have := congrArg List.length ht
   rw [List.length_take, entV_len h.len] at this
   omega
theorem Sweep_ok (h : CeH σ F p c ps ss) {R : Sl -> Hp -> Prop}
 (hR : ∀ o σ', Ext F σ σ' -> RowR o 2 (runV c (swept ss)) σ' (fun b => σ.size <= b) -> CeH σ' (Cut F σ) p c (kps ps ss) (sweep ss) -> R o σ') : central_List_Sweep.call (some ⟨p, 0, none⟩) σ R := by
 refine central_List_Sweep.of_vc ?_
 unfold central_List_Sweep.vc
 have h := CeH.loc.cut h
 obtain ⟨sl, hb, hl, hrow, rb, cs, hE⟩ := h.sl'
 refine cmade_ok h (ifF rfl (nw (cs := [.slice none 0 0]) fun v1 hz1 e1 hb1 => nilP ((e1.blk hb id).rS rfl ?_)))
 refine delete_ok h e1 hl (Nat.le_refl _) hE ⟨⟨none, 0, 0⟩, hb1, RowR.nil _ _ _ _⟩ fun v2 sl' e2 ⟨o, hbo, hro⟩ hcase => nilP ?_
 have hplt := hb.lt
 have hnd := h.nd
 have hsub := sublist_blks (kps_sub (ps := ps) (ss := ss))
 simp only [List.nodup_cons] at hnd
 refine (e2.blk (e1.blk hb id) fun hh => by rcases hh with h | h; exact h.2.1 rfl; omega).s1 (by simp) fun v3 o3 hb3 => ?_
 have hbo3 := only_blk o3 hbo (by have := hbo.lt; omega)
 refine hbo3.rS0 rfl (hR o v3 ?_ ((RowR.loc _ _ _).keep ((RowR.loc _ _ _).mono hro fun b _ hb => by omega) o3.ext fun b _ hb he => by omega) ?_)
 ·refine (e1.to.newT e2 fun b hb => ?_).newT o3.ext fun b hb => ?_
  ·rcases hb with h | h
   ·exact .inl h.1.1
   ·exact .inr h
  ·subst hb; exact .inl h.fp.1
 ·have esp : ∀ b, b ∈ blks ps -> b < σ.size -> ¬ (Cut F σ b /\ b ≠ p /\ b ∉ blks ps ∨ σ.size <= b) := fun b hb hlt hh => by
   rcases hh with h | h
   ·exact h.2.2 hb
   ·omega
  refine ⟨⟨sl', hb3, ?_⟩, fun i x s hx hs => ?_, h.fp, fun b hb => h.fb b (hsub.subset hb), ?_, kps_len h.len, h.ok, h.srt.sublist List.filter_sublist⟩
  ·rcases hcase with ⟨rfl, _, q2, q3, ex⟩ | hr
   ·rw [q2, q3]
    exact (RowR.loc _ _ _).keep ((RowR.loc _ _ _).keep ((RowR.loc _ _ _).keep0 hrow e1) ex fun b _ hb he => by have := hb.1.2; omega) o3.ext fun b _ hb he => hb.2.1 he
   ·exact (RowR.loc _ _ _).keep ((RowR.loc _ _ _).mono hr fun b _ hb => ⟨hb.1, hb.2.1, fun hm => hb.2.2 (hsub.subset hm)⟩) o3.ext fun b _ hb he => hb.2.1 he
  ·obtain ⟨j, hxj, hsj⟩ := kps_get h.len hx hs
   have hS := h.sp j x s hxj hsj
   have hm := mem_blks_of hxj
   have hl := hS.lt
   exact ((hS.keep0 e1).keep e2 (esp _ hm.1 hl.1) (esp _ hm.2 hl.2)).keep o3.ext (fun he => hnd.1 (he ▸ hm.1)) (fun he => hnd.1 (he ▸ hm.2))
  ·simp only [List.nodup_cons]
   exact ⟨fun hm => hnd.1 (hsub.subset hm), hnd.2.sublist hsub⟩
theorem ofS_put {x : Int} {k i : Nat} {s : SpA} (hc : 0 < c.size) (hk : ofS c ss x = some k) (hs : ss[k]? = some s) (v : Bool) (y : Int) : ofS c (ss.set k (s.put i v)) y = ofS c ss y := by
 have hid : ∀ t : SpA, ∀ j w z, idx c (t.put j w) z = idx c t z := fun t j w z => by unfold idx SpA.put; simp only [List.length_set]
 unfold ofS
 have hki := (List.getElem?_eq_some_iff.1 hs).1
 have : (ss.set k (s.put i v)).map (fun s => (idx c s y).isSome) = ss.map (fun s => (idx c s y).isSome) := by
  apply List.ext_getElem?
  intro j
  simp only [List.getElem?_map]
  by_cases hjk : j = k
  ·subst hjk; rw [List.getElem?_set_self hki, hs]; simp [hid]
  ·rw [List.getElem?_set_ne (Ne.symm hjk)]
 have h2 : ∀ l : List SpA, l.findIdx? (fun s => (idx c s y).isSome) = (l.map fun s => (idx c s y).isSome).findIdx? id := fun l => by rw [List.findIdx?_map]; rfl
 rw [h2, h2, this]
def AllT (c : Cls) (ss : List SpA) (xs : List Int) : Prop := (∀ x ∈ xs, isTk c ss x = some true) /\ xs.Nodup
theorem isTk_inv {x : Int} {b : Bool} (h : isTk c ss x = some b) : ∃ k s i, ofS c ss x = some k /\ ss[k]? = some s /\ obj c s x = some i /\ s.is i = b := by
 unfold isTk at h
 split at h
 ·rename_i k hk
  split at h
  ·rename_i s hs
   cases ho : obj c s x with
   | none => rw [ho] at h; cases h
   | some i => rw [ho] at h; exact ⟨k, s, i, hk, hs, ho, by simpa [SpA.is] using h⟩
  ·cases h
 ·cases h
theorem put1_eq {x : Int} {k i : Nat} {s : SpA} (hk : ofS c ss x = some k) (hs : ss[k]? = some s) (ho : obj c s x = some i) : put1 c ss x = ss.set k (s.put i false) := by
 simp [put1, hk, hs, ho]
theorem put1_isTk {x y : Int} (hc : 0 < c.size) (hx : isTk c ss x = some true) (hne : y ≠ x) : isTk c (put1 c ss x) y = isTk c ss y := by
 obtain ⟨k, s, i, hk, hs, ho, _⟩ := isTk_inv hx
 rw [put1_eq hk hs ho]
 have hki := (List.getElem?_eq_some_iff.1 hs).1
 have hof := ofS_put hc hk hs false (i := i) y
 have hob : ∀ t : SpA, ∀ j w z, obj c (t.put j w) z = obj c t z := fun t j w z => by unfold obj idx at_ SpA.put; simp only [List.length_set]
 cases hy : ofS c ss y with
 | none => rw [isTk_none (hof.trans hy), isTk_none hy]
 | some m =>
  by_cases hmk : m = k
  ·subst hmk
   rw [isTk_some (hof.trans hy) (List.getElem?_set_self hki), isTk_some hy hs, hob]
   cases hoy : obj c s y with
   | none => rfl
   | some j =>
    simp only [Option.map_some, Option.some.injEq]
    have hij : i ≠ j := fun e => by
     subst e
     exact hne (((obj_some hc).1 hoy).1.trans ((obj_some hc).1 ho).1.symm)
    simp [SpA.is, SpA.put, List.getD_eq_getElem?_getD, List.getElem?_set_ne hij]
  ·have hml : m < ss.length := (List.findIdx?_eq_some_iff_getElem.1 hy).1
   rw [isTk_some (hof.trans hy) ((List.getElem?_set_ne (Ne.symm hmk)).trans (List.getElem?_eq_getElem hml)), isTk_some hy (List.getElem?_eq_getElem hml)]
theorem AllT.next {x : Int} {xs : List Int} (hc : 0 < c.size) (h : AllT c ss (x :: xs)) : AllT c (put1 c ss x) xs := by
 have hn := List.nodup_cons.1 h.2
 refine ⟨fun y hy => ?_, hn.2⟩
 rw [put1_isTk hc (h.1 x (by simp)) fun e => hn.1 (e ▸ hy)]
 exact h.1 y (by simp [hy])
theorem putE_ok {xs : List Int} (h : putE c ss xs = 0) : AllT c ss xs := by
 unfold putE at h
 split at h
 ·cases h
 ·rename_i h1
  split at h
  ·cases h
  ·rename_i h2
   simp only [Bool.or_eq_true, not_or, Bool.not_eq_true, List.any_eq_false, Bool.not_eq_false', decide_eq_true_eq, beq_iff_eq] at h1 h2
   refine ⟨fun x hx => ?_, h2.2⟩
   have a := h1 x hx
   have b := h2.1 x hx
   cases ht : isTk c ss x with
   | none => rw [ht] at a; simp at a
   | some v => cases v
               ·rw [ht] at b; exact absurd rfl b
               ·rfl
theorem putLoop_ok {sl : Sl} {xs : List Int} {X : Rg} (h : CeH σ F p c ps ss) (hs : SlR sl 1 (xs.map (Value.int .i64)) σ X) (hX : ∀ b, X b -> ¬ F b) (hi : ∀ x ∈ xs, I63 x) (hA : AllT c ss xs) (hl : xs.length <= 1000000) {K : Hp -> Prop}
 (hK : ∀ σ', Ext F σ σ' -> CeH σ' F p c ps (xs.foldl (put1 c) ss) -> K σ') :
 LoopK [(.i .i64)] (fun I1 => I1 0 σ) fun J3 (t49 : Int) v6 => If (decide (t49 < ((sl.len : Nat) : Int))) (Ix sl.a sl.len t49 1 fun a51 => LdI .i64 a51 v6 fun addr1 =>
  central_List_of.call (some ⟨p, 0, none⟩) addr1 v6 fun vx v7 => NilP vx fun a57 => LdP (a57.add 2) v7 fun t59 => span_Span_Put.call t59 addr1 v7 fun t61 v8 => NilP vx fun a63 => LdI .i64 ((a63.add 0).add 0) v8 fun t66 =>
  Ar .i64 (t66 - 1) fun t67 => NilP vx fun a68 => St1 ((a68.add 0).add 0) (.int .i64 t67) v8 fun v9 => Ar .i64 (t49 + 1) fun t71 => J3 t71 v9) (K v6) := by
 have hlen : sl.len = xs.length := by have := hs.1; simp at this; omega
 have hcs : 0 < c.size := by have := h.ok.1; omega
 refine loop1 (a := .i .i64) (fun (t : Int) h' => ∃ (i : Nat) (ss' : List SpA), t = (i : Int) /\ i <= xs.length /\ Ext F σ h' /\ CeH h' F p c ps ss' /\ AllT c ss' (xs.drop i) /\ (xs.drop i).foldl (put1 c) ss' = xs.foldl (put1 c) ss) (fun t _ => xs.length - t.toNat) ⟨0, ss, rfl, by omega, Ext.refl _ _, h, by simpa using hA, by simp⟩ ?_
 rintro t h' ⟨i, ss', rfl, hil, e, hC, hA', hf⟩
 refine ifD (fun hlt => ?_) fun hge => ?_
 ·have hi' : i < xs.length := by omega
  have hx : xs[i]? = some xs[i] := List.getElem?_eq_getElem hi'
  have hd : xs.drop i = xs[i] :: xs.drop (i + 1) := List.drop_eq_getElem_cons hi'
  rw [hd] at hA' hf
  refine ((SlR.loc _ _ _).keep hs e fun b _ hb hF => hX b hb hF).ixI hx ?_
  obtain ⟨k, s, j, hk, hss, ho, hit⟩ := isTk_inv (hA'.1 xs[i] List.mem_cons_self)
  have hix := hi xs[i] (List.getElem_mem hi')
  refine of_ok' hC xs[i] hix (fun hn => by rw [hk] at hn; cases hn) fun k' sl' rb cs hof hkl hb E => nilP ?_
  rw [hk] at hof; cases hof
  obtain ⟨yy, s', hp, hs', hS⟩ := hC.at_i hkl
  rw [hss] at hs'; cases hs'
  have eg := entV_get hp hss
  have hj := ((obj_some hcs).1 ho).2
  refine E.blk.rP (x := some ⟨yy.1, 0, none⟩) (E.get eg.2.2) ?_
  refine SPut_ok hS hix ho hit fun v8 e8 hS8 => nilP ?_
  have hmx := mem_blks_of hp
  have nrb : ¬ (rb = yy.1 ∨ rb = yy.2) := fun hh => E.fr.2.2 (by rcases hh with h | h <;> rw [h]; exact hmx.1; exact hmx.2)
  have hml := many_le' s
  have hmany := put_many hj false
  rw [hit] at hmany
  have hsl := hS.len
  have hnl := hS.ok.n_le
  have hmany' : ((s.put j false).many : Int) = s.many - 1 := by simp at hmany; omega
  refine (e8.blk E.blk nrb).rI2 (E.get eg.1) (ar (by omega) (by omega) (nilP ?_))
  simp only [add_lit, Nat.add_zero]
  rw [← hmany']
  refine hC.turn (s' := s.put j false) hp hss rfl e8 hS8 hb E fun v9 e9 hC9 => ?_
  refine arN (m := i + 1) (by omega) (by omega) ⟨⟨i + 1, _, rfl, by omega, e.trans e9, hC9, ?_, ?_⟩, by omega⟩
  ·have := AllT.next hcs hA'
   rwa [put1_eq hk hss ho] at this
  ·rw [List.foldl_cons, put1_eq hk hss ho] at hf; exact hf
 ·have : i = xs.length := by omega
  subst this
  rw [List.drop_length, List.foldl_nil] at hf
  subst hf
  exact hK h' e hC
theorem CPut_ok (h : CeH σ F p c ps ss) {sl : Sl} {xs : List Int} {X : Rg} (hs : SlR sl 1 (xs.map (Value.int .i64)) σ X) (hX : ∀ b, X b -> ¬ F b) (hi : ∀ x ∈ xs, I63 x) (hl : xs.length <= 1000000) (hcap : sl.len <= sl.cap) {R : Sl -> Int -> Hp -> Prop}
 (h0 : putE c ss xs ≠ 0 -> R ⟨none, 0, 0⟩ (putE c ss xs) σ)
 (h1 : putE c ss xs = 0 -> ∀ o σ', Ext F σ σ' -> RowR o 2 (runV c (swept (xs.foldl (put1 c) ss))) σ' (fun b => σ.size <= b) -> CeH σ' (Cut F σ) p c (kps ps (xs.foldl (put1 c) ss)) (sweep (xs.foldl (put1 c) ss)) -> R o 0 σ') :
 central_List_Put.call (some ⟨p, 0, none⟩) sl σ R := by
 refine central_List_Put.of_vc ?_
 unfold central_List_Put.vc
 have hlen : sl.len = xs.length := by have := hs.1; simp at this; omega
 refine cmade_ok h (ifF rfl ?_)
 have tw : ∀ i, (xs.take i).any (fun x => isTk c ss x == some false) = true ∨ ¬ (xs.take i).Nodup -> (∀ x ∈ xs, (isTk c ss x).isSome = true) -> putE c ss xs = 9 := by
  intro i hb hall
  unfold putE
  rw [if_neg, if_pos]
  ·rcases hb with hb | hb
   ·rw [List.any_eq_true] at hb
    obtain ⟨x, hx, hx2⟩ := hb
    have : xs.any (fun x => isTk c ss x == some false) = true := List.any_eq_true.2 ⟨x, List.mem_of_mem_take hx, hx2⟩
    rw [this]; rfl
   ·have : ¬ xs.Nodup := fun hn => hb (hn.sublist (List.take_sublist _ _))
    simp [this]
  ·simp only [Bool.not_eq_true, List.any_eq_false]
   intro x hx
   have := hall x hx
   cases ht : isTk c ss x
   ·rw [ht] at this; cases this
   ·simp
 refine loop2 (a := .b) (bb := .i .i64) (fun (tw : Bool) (t : Int) h' => ∃ i : Nat, t = (i : Int) /\ i <= xs.length /\ h' = σ /\ (∀ x ∈ xs.take i, (isTk c ss x).isSome = true) /\ (tw = true ↔ (xs.take i).any (fun x => isTk c ss x == some false) = true ∨ ¬ (xs.take i).Nodup)) (fun _ t _ => xs.length - t.toNat)
  ⟨0, rfl, by omega, rfl, by simp, by simp⟩ ?_
 rintro tw' t h' ⟨i, rfl, hil, rfl, hsome, htw⟩
 refine ifD (fun hlt => ?_) fun hge => ?_
 ·have hi' : i < xs.length := by omega
  have hx : xs[i]? = some xs[i] := List.getElem?_eq_getElem hi'
  have hix := hi xs[i] (List.getElem_mem hi')
  have htk : xs.take (i + 1) = xs.take i ++ [xs[i]] := by rw [List.take_add_one, hx]; rfl
  refine hs.ixI hx (CIsTaken_ok h xs[i] hix (fun b hb => ifF rfl ?_) fun hn => ifT rfl ?_)
  ·have hsome' : ∀ x ∈ xs.take (i + 1), (isTk c ss x).isSome = true := by
    rw [htk]
    intro x hx
    rcases List.mem_append.1 hx with h1 | h1
    ·exact hsome x h1
    ·simp at h1; subst h1; rw [hb]; rfl
   have fin : ∀ r1 : Bool, (r1 = true ↔ (xs.take (i + 1)).any (fun x => isTk c ss x == some false) = true ∨ ¬ (xs.take (i + 1)).Nodup) -> Ar .i64 ((i : Int) + 1) fun t45 =>
    (∃ j : Nat, t45 = (j : Int) /\ j <= xs.length /\ h' = h' /\ (∀ x ∈ xs.take j, (isTk c ss x).isSome = true) /\ (r1 = true ↔ (xs.take j).any (fun x => isTk c ss x == some false) = true ∨ ¬ (xs.take j).Nodup)) /\ xs.length - t45.toNat < xs.length - (i : Int).toNat :=
    fun r1 hr1 => arN (m := i + 1) (by omega) (by omega) ⟨⟨i + 1, rfl, by omega, rfl, hsome', hr1⟩, by omega⟩
   have hnd : ∀ y : Int, (xs.take i ++ [y]).Nodup ↔ (xs.take i).Nodup /\ y ∉ xs.take i := fun y => by
    rw [List.nodup_append]
    constructor
    ·exact fun h => ⟨h.1, fun hm => h.2.2 y hm y (by simp) rfl⟩
    ·exact fun h => ⟨h.1, by simp, fun a ha z hz e => by simp at hz; subst hz; exact h.2 (e ▸ ha)⟩
   have ex : (xs.take (i + 1)).any (fun x => isTk c ss x == some false) = true ∨ ¬ (xs.take (i + 1)).Nodup ↔ (tw' = true ∨ b = false) ∨ xs[i] ∈ xs.take i := by
    rw [htk, hnd, List.any_append, htw]
    simp only [List.any_cons, List.any_nil, Bool.or_false, Bool.or_eq_true, hb]
    have hbb : ((some b == some false) = true) ↔ b = false := by cases b <;> simp
    rw [hbb]
    constructor
    ·rintro ((h | h) | h)
     ·exact .inl (.inl (.inl h))
     ·exact .inl (.inr h)
     ·by_cases hn : (xs.take i).Nodup
      ·by_cases hm : xs[i] ∈ xs.take i
       ·exact .inr hm
       ·exact absurd ⟨hn, hm⟩ h
      ·exact .inl (.inl (.inr hn))
    ·rintro (((h | h) | h) | h)
     ·exact .inl (.inl h)
     ·exact .inr fun hh => h hh.1
     ·exact .inl (.inr h)
     ·exact .inr fun hh => hh.2 h
   have J1 : ∀ r : Bool, (r = true ↔ tw' = true ∨ b = false) -> JnB (fun r1 v4 => Ar .i64 ((i : Int) + 1) fun t45 =>
    (∃ j : Nat, t45 = (j : Int) /\ j <= xs.length /\ v4 = h' /\ (∀ x ∈ xs.take j, (isTk c ss x).isSome = true) /\ (r1 = true ↔ (xs.take j).any (fun x => isTk c ss x == some false) = true ∨ ¬ (xs.take j).Nodup)) /\ xs.length - t45.toNat < xs.length - (i : Int).toNat) fun J2 =>
    If r (J2 true h') (SlcL sl 1 0 (i : Int) (sl.cap : Nat) fun t41 => slices_Contains_int_int.call t41 xs[i] h' fun t43 v5 => J2 t43 v5) := by
    intro r hr
    refine JnB.intro ?_
    cases r
    ·refine ifF rfl ?_
     refine slc (lo := 0) (by omega) (by omega) (by omega) ?_
     have hsub : SlR ⟨if sl.cap = 0 then sl.a else sl.a.map (·.add (0 * 1)), i - 0, sl.cap - 0⟩ 1 ((xs.take i).map (Value.int .i64)) h' X := by
      refine ⟨by simp; omega, ?_⟩
      rcases hs.2 with h0 | ⟨b', o', cs', hf', ha', hb', hc'⟩
      ·left
       have : xs = [] := by simpa using h0
       simp [this]
      ·refine .inr ⟨b', o', cs', hf', ?_, hb', fun j hj => ?_⟩
       ·rw [if_neg (by omega), ha']; simp [add_lit]
       ·simp only [List.length_map, List.length_take] at hj
        rw [hc' j (by simp; omega), List.map_take, List.getElem?_take, if_pos (by omega)]
     refine containsI_ok hsub (by simp; omega) _ (fin _ ?_)
     rw [ex, ← hr]
     simp
    ·refine ifT rfl (fin true ?_)
     rw [ex, ← hr]; simp
   refine JnB.intro ?_
   cases tw'
   ·refine ifF rfl (J1 _ ?_)
    cases b <;> simp
   ·exact ifT rfl (J1 _ (by simp))
  ·have : putE c ss xs = 8 := by
    unfold putE
    rw [if_pos]
    exact List.any_eq_true.2 ⟨xs[i], List.getElem_mem hi', by rw [hn]; rfl⟩
   have h0 := h0 (by rw [this]; decide)
   rw [this] at h0; exact h0
 ·have : i = xs.length := by omega
  subst this
  rw [List.take_length] at *
  cases tw'
  ·refine ifF rfl ?_
   have hE : putE c ss xs = 0 := by
    unfold putE
    have h2 : ¬ (xs.any (fun x => isTk c ss x == some false) = true ∨ ¬ xs.Nodup) := fun hh => by have := htw.2 hh; cases this
    rw [if_neg, if_neg]
    ·simp only [not_or, Bool.not_eq_true, Decidable.not_not] at h2
     rw [h2.1]; simp [h2.2]
    ·simp only [Bool.not_eq_true, List.any_eq_false]
     intro x hx
     have := hsome x hx
     cases ht : isTk c ss x
     ·rw [ht] at this; cases this
     ·simp
   refine putLoop_ok (CeH.loc.cut h) hs (fun b hb hf => hX b hb hf.1) hi (putE_ok hE) hl fun v6 e6 hC6 => ?_
   refine Sweep_ok hC6 fun o v10 e10 hro hC10 => ?_
   exact h1 hE o v10 ((e6.trans e10).sub fun b hb => hb.1) ((RowR.loc _ _ _).mono hro fun b _ hb => Nat.le_trans e6.1 hb) (CeH.loc.mono hC10 fun b _ hb => hb.1)
  ·refine ifT rfl ?_
   have h9 := tw xs.length (by rw [List.take_length]; exact htw.1 rfl) hsome
   have h0 := h0 (by rw [h9]; decide)
   rw [h9] at h0; exact h0
end Go.Ar
namespace Go.Ar
open Go Go.Vc Go.Proofs


variable {σ : Hp} {F : Rg} {p : Nat} {c : Cls} {ps : List (Nat × Nat)} {ss : List SpA}
theorem overlaps_ok {x y : Sl} {a o b o' : Nat} {cs ds : List Value} (hx : x.a = some ⟨a, o, none⟩) (hy : y.a = some ⟨b, o', none⟩) (ha : Blk σ a cs) (hb : Blk σ b ds) (hne : a ≠ b) (hd : ds ≠ []) {K : Bool -> Hp -> Prop} (hK : K false σ) :
 ExtB Tryz.prog 261 [.slice x.a x.len x.cap, .slice y.a y.len y.cap] σ K := by
 rintro w rfl
 obtain ⟨ea, ha⟩ := ha
 obtain ⟨eb, hb⟩ := hb
 refine ⟨false, w, ?_, .refl _, hK⟩
 rw [hx, hy, run_callFunc_extern Tryz.func261 (by kernel_rfl) (by kernel_rfl) (by kernel_rfl) (e := Extern.SlicesOverlaps.overlaps #[232, 232] #[4]) (by kernel_rfl)]
 have := Lib.run_overlaps_apart (P := Tryz.prog) w 232 4 239 Tryz.underlying232 3 Tryz.sizeOf239
  ⟨a, o, none⟩ ⟨b, o', none⟩ x.len x.cap y.len y.cap hne ea eb cs.length ds.length (by simp [World.shape?, ha]) (by simp [World.shape?, hb]) (by simpa using hd) (by simp [World.frozen?, ha]) (by simp [World.frozen?, ha])
 rw [this]; rfl
theorem insert_ok {Q : Rg} {s : Sl} {xs : List Value} {i m vb : Nat} {x y z : Value} (h : RowR s 3 xs σ Q) (hlen : s.len = m) (hm : m <= 2000) (hi : i <= m) (hv : Blk σ vb [x, y, z]) (hvb : ¬ Q vb) (h1 : ∀ v ∈ xs, one1 v = true) (h2 : one1 x = true /\ one1 y = true /\ one1 z = true)
 {R : Sl -> Hp -> Prop} (hR : ∀ s' σ', Ext Q σ σ' -> RowR s' 3 (xs.take (3 * i) ++ [x, y, z] ++ xs.drop (3 * i)) σ' (Grow Q σ) -> R s' σ') :
 slices_Insert_central_entry_central_entry.call s (i : Int) ⟨some ⟨vb, 0, none⟩, 1, 1⟩ σ R := by
 refine slices_Insert_central_entry_central_entry.of_vc ?_
 unfold slices_Insert_central_entry_central_entry.vc
 have hxl := h.1
 have hcap : s.len <= s.cap := by
  rcases h.2 with ⟨h0, h0'⟩ | ⟨b, cs, _, _, _, hle, _⟩
  ·omega
  ·exact hle
 have hrd : Rd σ (some ⟨vb, 0, none⟩) [x, y, z] := by
  intro j u hu
  rw [add_lit, Nat.zero_add, hv.cell]; exact hu
 have ho : ∀ v ∈ [x, y, z], one1 v = true := by simp [h2]
 refine slc (by omega) (by omega) (by omega) (ifF rfl (iff_ (fun he => ?_) fun he => ?_))
 ·have hie : i = m := by
   have : (i : Int) = ((s.len : Nat) : Int) := by simpa using he
   omega
  refine h.app (ys := [x, y, z]) rfl rfl hrd ho (by first | omega | (simp only; omega)) (by first | omega | (simp only; omega)) Nat.zero_lt_one fun s' h' hl' e' ho' => hR s' h' e' ?_
  rw [List.take_of_length_le (by omega), List.drop_of_length_le (by omega), List.append_nil]
  exact ho'
 ·have hie : i < m := by
   have : ¬ (i : Int) = ((s.len : Nat) : Int) := by simpa using he
   omega
  obtain ⟨b, cs, hQ, ha, hb, hle, hcl, ht⟩ : ∃ b cs, Q b /\ s.a = some ⟨b, 0, none⟩ /\ Blk σ b cs /\ s.len <= s.cap /\ cs.length = s.cap * 3 /\ cs.take xs.length = xs := by
   rcases h.2 with ⟨h0, _⟩ | h
   ·omega
   ·exact h
  have hbv : vb ≠ b := fun e => hvb (e ▸ hQ)
  have hxcs : ∀ j v, xs[j]? = some v -> cs[j]? = some v := fun j v hj => by
   rw [← ht, List.getElem?_take] at hj
   split at hj
   ·exact hj
   ·cases hj
  refine arN (m := m + 1) (by first | omega | (simp only; omega)) (by omega) (ifD (fun hgt => ?_) fun hle2 => ?_)
  ·-- no room: a new row
   refine slc (lo := 0) (by omega) (by omega) (by omega) (arN (m := m + 1) (by first | omega | (simp only; omega)) (by omega) (arN (m := m + 1 - i) (by omega) (by omega) ?_))
   have hcz : ¬ s.cap = 0 := by omega
   rw [if_neg hcz]
   simp only [ha, Option.map_some, add_lit, Nat.zero_mul, Nat.add_zero, Nat.sub_zero]
   refine ⟨by omega, xs.take (3 * i), by rw [List.length_take]; simp only; omega, ?_, by simp [one1], by simp only; omega, by simp only; omega, by omega, fun hin => by simp only at hin; omega, fun _ cc hcc => ?_⟩
   ·intro j v hj
    rw [add_lit, Nat.zero_add, hb.cell]
    rw [List.getElem?_take] at hj
    split at hj
    ·exact hxcs j v hj
    ·cases hj
   simp only [Int.toNat_natCast] at hcc ⊢
   have hi1 : i + (m + 1 - i) = m + 1 := by omega
   rw [hi1] at hcc ⊢
   refine nw fun v2 hz2 e2 hb2 => ?_
   have hzl : ∀ k, (List.replicate k [Value.int .i64 0, .int .i64 0, .pointer none]).flatten.length = 3 * k := fun k => by
    rw [List.length_flatten, List.map_replicate, List.sum_replicate_nat]; simp; omega
   have htl : (xs.take (3 * i)).length = 3 * i := by rw [List.length_take]; omega
   refine slc (by first | omega | (simp only; omega)) (by first | omega | (simp only; omega)) (by first | omega | (simp only; omega)) ?_
   have hv2 := e2.blk hv id
   have n1 : (if cc = i then (some ⟨σ.size, 0, none⟩ : Option Addr) else (some ⟨σ.size, 0, none⟩ : Option Addr).map (·.add (i * 3))) = some ⟨σ.size, i * 3, none⟩ := by
    have : ¬ cc = i := by omega
    rw [if_neg this]; simp [add_lit]
   rw [n1]
   refine ⟨[x, y, z], by simp only; rw [Nat.min_eq_left (by omega)]; rfl, ?_, ho, ?_⟩
   ·intro j u hu
    rw [add_lit, Nat.zero_add, hv2.cell]; exact hu
   simp only
   refine stN_blk (o := i * 3) (i := 0) hb2 (by simp only [List.length_append, htl, hzl, List.length_cons, List.length_nil]; omega) fun v3 o3 b3 => ?_
   refine arN (m := i + 1) (by first | omega | (simp only; omega)) (by omega) (slc (by first | omega | (simp only; omega)) (by first | omega | (simp only; omega)) (by first | omega | (simp only; omega)) (slc (by omega) (by omega) (by omega) ?_))
   have hb3' : Blk v3 b cs := only_blk o3 (e2.blk hb id) (by have := hb.lt; omega)
   have hdl : (xs.drop (3 * i)).length = 3 * (m - i) := by rw [List.length_drop]; omega
   refine ⟨xs.drop (3 * i), by simp only; rw [Nat.min_eq_left (by omega), hdl]; omega, ?_, fun v hv => h1 v (List.mem_of_mem_drop hv), ?_⟩
   ·have hci : ¬ s.cap = i := by omega
    rw [if_neg hci]
    simp only [ha, Option.map_some, add_lit]
    intro j v hj
    rw [add_lit, hb3'.cell]
    rw [List.getElem?_drop] at hj
    have := hxcs _ _ hj
    rw [show 0 + i * 3 + j = 3 * i + j by omega]; exact this
   have hbig : (xs.take (3 * i) ++ (List.replicate (m + 1 - i) [Value.int .i64 0, .int .i64 0, .pointer none]).flatten ++ (List.replicate (cc - (m + 1)) [Value.int .i64 0, .int .i64 0, .pointer none]).flatten).length = 3 * cc := by
    simp only [List.length_append, htl, hzl]; omega
   have tk : ∀ L : List Value, ((xs.take (3 * i) ++ (List.replicate (m + 1 - i) [Value.int .i64 0, .int .i64 0, .pointer none]).flatten ++ (List.replicate (cc - (m + 1)) [Value.int .i64 0, .int .i64 0, .pointer none]).flatten).take (3 * i)) = xs.take (3 * i) := fun _ => by
    rw [List.append_assoc, List.take_append_of_le_length (by omega), List.take_of_length_le (by omega)]
   have fin : ∀ v4, OnlyB v3 v4 σ.size -> Blk v4 σ.size ((xs.take (3 * i) ++ [x, y, z]) ++ xs.drop (3 * i) ++ ((xs.take (3 * i) ++ (List.replicate (m + 1 - i) [Value.int .i64 0, .int .i64 0, .pointer none]).flatten ++ (List.replicate (cc - (m + 1)) [Value.int .i64 0, .int .i64 0, .pointer none]).flatten).drop (3 * i + 3)).drop (3 * (m - i))) -> R ⟨some ⟨σ.size, 0, none⟩, m + 1, cc⟩ v4 := by
    intro v4 o4 b4
    refine hR _ v4 ?_ ⟨?_, .inr ⟨σ.size, _, .inr (Nat.le_refl _), rfl, b4, by simp only; omega, ?_, ?_⟩⟩
    ·exact ((e2.to.newT o3.ext fun i hi => by subst hi; exact .inr (Nat.le_refl _)).newT o4.ext fun i hi => by subst hi; exact .inr (Nat.le_refl _))
    ·simp only [List.length_append, htl, hdl, List.length_cons, List.length_nil]; omega
    ·simp only [List.length_append, htl, hdl, List.length_cons, List.length_nil, List.length_drop, hzl]; omega
    ·rw [List.append_assoc (xs.take (3 * i) ++ [x, y, z]), ← List.append_assoc, List.take_left']
     rfl
   have e3 : (xs.take (3 * i) ++ (List.replicate (m + 1 - i) [Value.int .i64 0, .int .i64 0, .pointer none]).flatten ++ (List.replicate (cc - (m + 1)) [Value.int .i64 0, .int .i64 0, .pointer none]).flatten).take (i * 3 + 0) = xs.take (3 * i) := by
    rw [show i * 3 + 0 = 3 * i by omega]; exact tk []
   rw [e3] at b3
   have hlen3 : (xs.take (3 * i) ++ [x, y, z] ++ (xs.take (3 * i) ++ (List.replicate (m + 1 - i) [Value.int .i64 0, .int .i64 0, .pointer none]).flatten ++ (List.replicate (cc - (m + 1)) [Value.int .i64 0, .int .i64 0, .pointer none]).flatten).drop (i * 3 + 0 + [x, y, z].length)).length = 3 * cc := by
    simp only [List.length_append, List.length_drop, htl, hzl, List.length_cons, List.length_nil]; omega
   by_cases hci : cc = i + 1
   ·exfalso; omega
   ·rw [if_neg hci]
    simp only [Option.map_some, add_lit, Nat.zero_add]
    refine stN_blk (o := (i + 1) * 3) (i := 0) b3 (by rw [hlen3, hdl]; omega) fun v4 o4 b4 => fin v4 o4 ?_
    have q1 : (i + 1) * 3 + 0 = (xs.take (3 * i) ++ [x, y, z]).length := by rw [List.length_append, htl]; simp; omega
    have q2 : (i + 1) * 3 + 0 + (xs.drop (3 * i)).length = (xs.take (3 * i) ++ [x, y, z]).length + 3 * (m - i) := by rw [hdl, q1]
    rw [q2, q1, List.take_left', List.drop_append] at b4
    ·rw [List.drop_of_length_le (show (xs.take (3 * i) ++ [x, y, z]).length <= (xs.take (3 * i) ++ [x, y, z]).length + 3 * (m - i) by omega), List.nil_append] at b4
     have q3 : i * 3 + 0 + [x, y, z].length = 3 * i + 3 := by simp; omega
     rw [q3] at b4
     have q4 : (xs.take (3 * i) ++ [x, y, z]).length + 3 * (m - i) - (xs.take (3 * i) ++ [x, y, z]).length = 3 * (m - i) := by omega
     rw [q4] at b4
     exact b4
    ·rfl
  ·-- room: the rest moves
   have hle3 : m + 1 <= s.cap := by omega
   have hcz : ¬ s.cap = 0 := by omega
   have hci : ¬ s.cap = i := by omega
   refine arN (m := m + 1) (by first | omega | (simp only; omega)) (by omega) (slc (lo := 0) (by omega) (by omega) (by omega) ?_)
   rw [if_neg hcz]
   simp only [ha, Option.map_some, add_lit, Nat.zero_mul, Nat.add_zero, Nat.sub_zero]
   refine arN (m := i + 1) (by first | omega | (simp only; omega)) (by omega) (slc (by first | omega | (simp only; omega)) (by first | omega | (simp only; omega)) (by first | omega | (simp only; omega)) ?_)
   have hxcs' : cs.take (3 * m) = xs := by rw [← hlen, show 3 * s.len = xs.length by omega]; exact ht
   have na : ∃ o', (if s.cap = i + 1 then (some ⟨b, 0, none⟩ : Option Addr) else (some ⟨b, 0, none⟩ : Option Addr).map (·.add ((i + 1) * 3))) = some ⟨b, o', none⟩ := by
    split
    ·exact ⟨0, rfl⟩
    ·exact ⟨_, by simp [add_lit]; rfl⟩
   obtain ⟨o', na⟩ := na
   refine overlaps_ok (x := ⟨some ⟨vb, 0, none⟩, 1, 1⟩) (a := vb) (o := 0) (b := b) rfl na hv hb hbv (fun e => by rw [e] at hcl; simp at hcl; omega) (ifT rfl ?_)
   refine arN (m := i + 1) (by first | omega | (simp only; omega)) (by omega) (slc (by first | omega | (simp only; omega)) (by first | omega | (simp only; omega)) (by first | omega | (simp only; omega)) (slc (by first | omega | (simp only; omega)) (by first | omega | (simp only; omega)) (by first | omega | (simp only; omega)) ?_))
   have hne1 : ¬ s.cap = i + 1 := by omega
   rw [if_neg hne1, if_neg hci]
   simp only [Option.map_some, add_lit, Nat.zero_add]
   have hdl : (xs.drop (3 * i)).length = 3 * (m - i) := by rw [List.length_drop]; omega
   refine ⟨xs.drop (3 * i), by simp only; rw [Nat.min_eq_right (by omega), hdl]; omega, ?_, fun v hv => h1 v (List.mem_of_mem_drop hv), ?_⟩
   ·intro j v hj
    rw [add_lit, hb.cell]
    rw [List.getElem?_drop] at hj
    have := hxcs _ _ hj
    rw [show i * 3 + j = 3 * i + j by omega]; exact this
   refine stN_blk (o := (i + 1) * 3) (i := 0) hb (by rw [hdl]; omega) fun v3 o3 b3 => ?_
   refine slc (by first | omega | (simp only; omega)) (by first | omega | (simp only; omega)) (by first | omega | (simp only; omega)) ?_
   rw [if_neg hci]
   simp only [Option.map_some, add_lit, Nat.zero_add]
   have hv3 := only_blk o3 hv hbv
   refine ⟨[x, y, z], by simp only; rw [Nat.min_eq_left (by omega)]; rfl, ?_, ho, ?_⟩
   ·intro j u hu
    rw [add_lit, Nat.zero_add, hv3.cell]; exact hu
   have hl3 : (cs.take ((i + 1) * 3 + 0) ++ xs.drop (3 * i) ++ cs.drop ((i + 1) * 3 + 0 + (xs.drop (3 * i)).length)).length = cs.length := by
    simp only [List.length_append, List.length_take, List.length_drop, hdl]; omega
   refine stN_blk (o := i * 3) (i := 0) b3 (by rw [hl3]; simp; omega) fun v4 o4 b4 => ?_
   have a1 : (cs.take ((i + 1) * 3 + 0)).length = 3 * i + 3 := by rw [List.length_take]; omega
   have htl : (xs.take (3 * i)).length = 3 * i := by rw [List.length_take]; omega
   have p1 : (cs.take ((i + 1) * 3 + 0) ++ xs.drop (3 * i) ++ cs.drop ((i + 1) * 3 + 0 + (xs.drop (3 * i)).length)).take (i * 3 + 0) = xs.take (3 * i) := by
    rw [List.append_assoc, List.take_append_of_le_length (by omega), List.take_take, Nat.min_eq_left (by omega), ← hxcs', List.take_take, Nat.min_eq_left (by omega)]
    congr 1; omega
   have p2 : (cs.take ((i + 1) * 3 + 0) ++ xs.drop (3 * i) ++ cs.drop ((i + 1) * 3 + 0 + (xs.drop (3 * i)).length)).drop (i * 3 + 0 + [x, y, z].length) = xs.drop (3 * i) ++ cs.drop ((i + 1) * 3 + 0 + (xs.drop (3 * i)).length) := by
    rw [List.append_assoc, List.drop_left']
    rw [a1]; simp; omega
   rw [p1, p2, ← List.append_assoc] at b4
   refine hR _ v4 ((Ext.of_only (F := Q) o3 hQ).trans (Ext.of_only o4 hQ)) ⟨?_, .inr ⟨b, _, .inl hQ, rfl, b4, (by first | omega | (simp only; omega)), ?_, ?_⟩⟩
   ·simp only [List.length_append, htl, List.length_cons, List.length_nil, hdl]; omega
   ·simp only [List.length_append, htl, List.length_drop, List.length_cons, List.length_nil, hdl]; omega
   ·rw [List.take_left']; rfl
def place (ss : List SpA) (st : Nat) : Nat := (ss.takeWhile (fun s => s.st < st)).length
theorem takeWhile_eq_take (l : List SpA) (P : SpA -> Bool) : l.takeWhile P = l.take (l.takeWhile P).length /\ l.dropWhile P = l.drop (l.takeWhile P).length := by
 induction l with
 | nil => simp
 | cons x l ih =>
  simp only [List.takeWhile_cons, List.dropWhile_cons]
  cases P x
  ·simp
  ·simp only [if_true, List.length_cons, List.take_succ_cons, List.drop_succ_cons]
   exact ⟨by rw [← ih.1], ih.2⟩
theorem addS_eq (c : Cls) (ss : List SpA) (st : Nat) : addS c ss st = ss.take (place ss st) ++ ⟨st, List.replicate c.n false⟩ :: ss.drop (place ss st) := by
 have := takeWhile_eq_take ss (fun s => decide (s.st < st))
 unfold addS place
 rw [this.2, ← this.1]
theorem place_spec (hs : ss.Pairwise (fun a b => a.st < b.st)) (st : Nat) : place ss st <= ss.length /\ ∀ (i : Nat) s, ss[i]? = some s -> (s.st < st ↔ i < place ss st) := by
 unfold place
 induction ss with
 | nil => simp
 | cons x ss ih =>
  have hp := List.pairwise_cons.1 hs
  obtain ⟨h1, h2⟩ := ih hp.2
  simp only [List.takeWhile_cons]
  by_cases hx : x.st < st
  ·simp only [hx, decide_true, if_true, List.length_cons]
   refine ⟨by omega, fun i s hi => ?_⟩
   cases i with
   | zero => simp at hi; subst hi; simp [hx]
   | succ i => have := h2 i s (by simpa using hi); omega
  ·simp only [hx, decide_false, Bool.false_eq_true, if_false, List.length_nil, Nat.zero_le, Nat.not_lt_zero, iff_false, true_and]
   intro i s hi
   cases i with
   | zero => simp at hi; subst hi; exact hx
   | succ i =>
    have := hp.1 s (List.mem_of_getElem? (i := i) (by simpa using hi))
    omega
theorem search_ok (h : CeH σ F p c ps ss) {σ1 : Hp} (e1 : Ext0 σ σ1) {sl : Sl} {rb : Nat} {cs : List Value} (hl : sl.len = ss.length) (hE : ss ≠ [] -> EnR σ F p ps ss sl rb cs) (st : Nat) (hst : st <= 1024) {R : Int -> Bool -> Hp -> Prop} (hR : ∀ σ' b, Ext0 σ1 σ' -> R (place ss st : Int) b σ') :
 slices_BinarySearchFunc_central_entry_central_entry_int.call sl (st : Int) ⟨226, #[], #[]⟩ σ1 R := by
 refine slices_BinarySearchFunc_central_entry_central_entry_int.of_vc ?_
 unfold slices_BinarySearchFunc_central_entry_central_entry_int.vc
 have hfew := h.few
 obtain ⟨hp1, hp2⟩ := place_spec h.srt st
 have cmp : ∀ (k : Nat) (x : Nat × Nat) s (v : Hp) (K : Int -> Hp -> Prop), ps[k]? = some x -> ss[k]? = some s -> Ext0 σ1 v -> (∀ v', Ext0 v v' -> K ((s.st : Int) - (st : Int)) v') →
  CallF Tryz.prog ⟨226, #[], #[]⟩ [.agg #[.int .i64 (s.many : Int), .int .i64 (s.st : Int), .pointer (some ⟨x.1, 0, none⟩)], .int .i64 (st : Int)] [.one (.i .i64)] v K := by
  intro k x s v K hx hs ev hK
  refine callF (all := #[.agg #[.int .i64 (s.many : Int), .int .i64 (s.st : Int), .pointer (some ⟨x.1, 0, none⟩)], .int .i64 (st : Int)]) (by kernel_rfl) (by simp) ?_
  refine central_List_Add_L1.of_vc ?_
  unfold central_List_Add_L1.vc
  have hf := (h.sp k x s hx hs).fit
  refine nw (cs := [.int .i64 (s.many : Int), .int .i64 (s.st : Int), .pointer (some ⟨x.1, 0, none⟩)]) fun v1 hz e hb => hb.rI2 rfl (ar (by omega) (by omega) (hK v1 e))
 refine loop2 (a := .i .i64) (bb := .i .i64) (fun (i j : Int) v => ∃ a b : Nat, i = (a : Int) /\ j = (b : Int) /\ a <= place ss st /\ place ss st <= b /\ b <= ss.length /\ Ext0 σ1 v) (fun i j _ => j.toNat - i.toNat) ⟨0, ss.length, rfl, by rw [hl], by omega, hp1, by omega, Ext.refl _ _⟩ ?_
 rintro i j v ⟨a, b, rfl, rfl, ha, hb, hbl, ev⟩
 have ev0 : Ext0 σ v := e1.trans ev
 refine ifD (fun hlt => ?_) fun hge => ?_
 ·have hne : ss ≠ [] := by rintro rfl; simp at hbl; omega
  have E := hE hne
  refine arN (m := a + b) (by omega) (by omega) ?_
  have hw : IntKind.u64.wrap ((a + b : Nat) : Int) = ((a + b : Nat) : Int) := by
   unfold IntKind.wrap; simp [IntKind.bits, IntKind.signed]; omega
  refine arW ?_
  rw [hw]
  refine nn (by omega) ?_
  have hm1 : min (1 : Int).toNat IntKind.u64.bits = 1 := by decide
  rw [hm1, fdiv_nat]
  have hmid : (((a + b : Nat) : Int) / 2 ^ 1) = (((a + b) / 2 : Nat) : Int) := by omega
  refine arN (m := (a + b) / 2) hmid (by omega) ?_
  have hml : (a + b) / 2 < ss.length := by omega
  obtain ⟨x, s, hx, hs, hS⟩ := h.at_i hml
  have eg := entV_get hx hs
  rw [E.a]
  refine ix (by omega) (by omega) ?_
  rw [add_lit, show 0 + (((a + b) / 2 : Nat) : Int).toNat * 3 = 3 * ((a + b) / 2) by omega]
  refine entBox (e := 0) (ev0.blk E.blk id) (E.get eg.1) (E.get eg.2.1) (E.get eg.2.2) (cmp _ x s v _ hx hs ev fun v' e' => ?_)
  have hiff := hp2 _ s hs
  show If (decide (((s.st : Int) - (st : Int)) < 0)) _ _
  refine ifD (fun hneg => ?_) fun hpos => ?_
  ·exact arN (m := (a + b) / 2 + 1) (by omega) (by omega) ⟨⟨_, b, rfl, rfl, by have := hiff.1 (by omega); omega, hb, hbl, ev.trans e'⟩, by omega⟩
  ·exact ⟨⟨a, _, rfl, rfl, ha, by
    apply Classical.byContradiction
    intro hc
    have := hiff.2 (by omega)
    omega, by omega, ev.trans e'⟩, by omega⟩
 ·have hab : a = place ss st := by omega
  subst hab
  refine JnB.intro (ifD (fun hlt2 => ?_) fun hge2 => hR v _ ev)
  have hml : place ss st < ss.length := by omega
  have hne : ss ≠ [] := by rintro rfl; simp at hml
  have E := hE hne
  obtain ⟨x, s, hx, hs, hS⟩ := h.at_i hml
  have eg := entV_get hx hs
  rw [E.a]
  refine ix (by omega) (by omega) ?_
  rw [add_lit, show 0 + (place ss st : Int).toNat * 3 = 3 * place ss st by omega]
  refine entBox (e := 0) (ev0.blk E.blk id) (E.get eg.1) (E.get eg.2.1) (E.get eg.2.2) (cmp _ x s v _ hx hs ev fun v' e' => hR v' _ (ev.trans e'))
theorem CAdd_ok (h : CeH σ F p c ps ss) {st : Nat} (hf : st + c.pages <= 1024) {R : Int -> Hp -> Prop} (h9 : addSE c ss st = 9 -> ∀ σ', Ext0 σ σ' -> R 9 σ')
 (h0 : addSE c ss st = 0 -> ∀ σ' ps', Ext F σ σ' -> CeH σ' (Grow F σ) p c ps' (addS c ss st) -> R 0 σ') : central_List_Add.call (some ⟨p, 0, none⟩) (st : Int) σ R := by
 refine central_List_Add.of_vc ?_
 unfold central_List_Add.vc
 have h := CeH.loc.cut h
 obtain ⟨sl, hb, hl, hrow, rb, cs, hE⟩ := h.sl'
 have hfew := h.few
 have hc := h.ok
 have hck := hc
 unfold Cls.ok at hck
 refine cmade_ok h (ifF rfl (nilP (hb.rI2 rfl (hb.rI2 rfl (hb.rI2 rfl ?_)))))
 refine SNew_ok hc hf fun v1 pn qn e1 hpn hqn hSn => ifF rfl (nilP ((e1.blk hb id).rS rfl ?_))
 have hplt := hb.lt
 refine loop1 (a := .i .i64) (fun (t : Int) v => ∃ i : Nat, t = (i : Int) /\ i <= ss.length /\ Ext0 v1 v /\ ∀ (j : Nat) s, j < i -> ss[j]? = some s -> ¬ max s.st st - min s.st st < c.pages) (fun t _ => ss.length - t.toNat) ⟨0, rfl, by omega, Ext.refl _ _, fun j s hj => by omega⟩ ?_
 rintro t v ⟨i, rfl, hi, ev, hno⟩
 have ev0 := e1.trans ev
 refine ifD (fun hlt => ?_) fun hge => ?_
 ·simp only at hlt
  have hi' : i < ss.length := by omega
  obtain ⟨E, hcap, hcl⟩ := hE (by rintro rfl; simp at hi')
  obtain ⟨x, s, hx, hs, hS⟩ := h.at_i hi'
  have eg := entV_get hx hs
  have hsf := hS.fit
  rw [E.a]
  refine ix (by omega) (by omega) ?_
  rw [add_lit, show 0 + (i : Int).toNat * 3 = 3 * i by omega]
  refine entBox (e := 0) (ev0.blk E.blk id) (E.get eg.1) (E.get eg.2.1) (E.get eg.2.2) (entNew fun v6 e6 b6 => b6.rI2 rfl (b6.rI2 rfl ?_))
  have hd : (if (st : Int) > (s.st : Int) then (st : Int) else (s.st : Int)) - (if (st : Int) < (s.st : Int) then (st : Int) else (s.st : Int)) = ((max s.st st - min s.st st : Nat) : Int) := by
   split <;> split <;> omega
  refine arN (m := max s.st st - min s.st st) hd (by omega) (nilP (((ev0.trans e6).blk hb id).rI2 rfl ?_))
  refine ifD (fun hlt2 => h9 ?_ _ (ev0.trans e6)) fun hge2 => ?_
  ·unfold addSE
   rw [if_pos]
   exact List.any_eq_true.2 ⟨s, List.mem_of_getElem? hs, by simpa using (by omega : max s.st st - min s.st st < c.pages)⟩
  ·refine arN (m := i + 1) (by omega) (by omega) ⟨⟨i + 1, rfl, by omega, ev.trans e6, fun j s' hj hs' => ?_⟩, by omega⟩
   by_cases e : j = i
   ·subst e; rw [hs] at hs'; cases hs'; omega
   ·exact hno j s' (by omega) hs'
 ·have hii : i = ss.length := by simp only at hge; omega
  subst hii
  have hE0 : addSE c ss st = 0 := by
   unfold addSE
   rw [if_neg]
   simp only [Bool.not_eq_true, List.any_eq_false, decide_eq_true_eq]
   intro s hs
   obtain ⟨j, hj⟩ := List.getElem?_of_mem hs
   exact hno j s (List.getElem?_eq_some_iff.1 hj).1 hj
  refine nilP ((ev0.blk hb id).rS rfl ?_)
  refine search_ok h ev0 hl (fun hne => (hE hne).1) st (by omega) fun v7 bb e7 => nilP (((ev0.trans e7).blk hb id).rS rfl ?_)
  have e07 := ev0.trans e7
  obtain ⟨hp1, hp2⟩ := place_spec h.srt st
  refine nw (cs := [.int .i64 0, .int .i64 st, .pointer (some ⟨pn, 0, none⟩)]) fun v8 hz8 e8 hb8 => ?_
  have e08 := e07.trans e8
  have hrow8 := (RowR.loc _ _ _).keep0 hrow e08
  have hsz7 := e07.1
  refine insert_ok hrow8 hl (by omega) hp1 hb8 (fun hh => by have := hh.1.2; omega) entV_one1 ⟨rfl, rfl, rfl⟩ fun s' v9 e9 hr9 => nilP ?_
  have hb9 := e9.blk (e08.blk hb id) fun hh => hh.2.1 rfl
  refine hb9.s1 (by simp) fun v10 o10 hb10 => ?_
  have hpl := h.len
  have hnd := h.nd
  simp only [List.nodup_cons] at hnd
  have hlt := hSn.lt
  have hsz1 := (ev.trans e7).trans e8 |>.1
  have hlow : ∀ b ∈ blks ps, b < σ.size := fun b hb => (h.fb b hb).2
  have hS9 : ∀ {a b s'}, SpH v8 a b c s' -> ¬ (Cut F σ a /\ a ≠ p /\ a ∉ blks ps) -> ¬ (Cut F σ b /\ b ≠ p /\ b ∉ blks ps) -> a ≠ p -> b ≠ p -> SpH v10 a b c s' := fun hS n1 n2 m1 m2 => (hS.keep e9 n1 n2).keep o10.ext m1 m2
  have hnew := ((hSn.keep0 ev).keep0 e7).keep0 e8
  have hent : entV (ps.take (place ss st) ++ (pn, qn) :: ps.drop (place ss st)) (ss.take (place ss st) ++ ⟨st, List.replicate c.n false⟩ :: ss.drop (place ss st)) =
   (entV ps ss).take (3 * place ss st) ++ [.int .i64 0, .int .i64 st, .pointer (some ⟨pn, 0, none⟩)] ++ (entV ps ss).drop (3 * place ss st) := by
   rw [entV_append (by simp [hpl])]
   have h1 : entV ps ss = entV (ps.take (place ss st)) (ss.take (place ss st)) ++ entV (ps.drop (place ss st)) (ss.drop (place ss st)) := by
    rw [← entV_append (by simp [hpl]), List.take_append_drop, List.take_append_drop]
   have h2 : (entV (ps.take (place ss st)) (ss.take (place ss st))).length = 3 * place ss st := by rw [entV_len (by simp [hpl]), List.length_take]; omega
   rw [h1, List.take_left' h2, List.drop_left' h2, List.append_assoc]
   have : SpA.many ⟨st, List.replicate c.n false⟩ = 0 := by simp [SpA.many, List.count_replicate]
   simp [entV, this]
  refine h0 hE0 v10 (ps.take (place ss st) ++ (pn, qn) :: ps.drop (place ss st)) ?_ ?_
  ·refine (((Ext0.to e08).trans (e9.sub fun b hb => hb.1.1))).trans (o10.ext.sub fun b hb => hb ▸ h.fp.1)
  ·have hperm : (blks (ps.take (place ss st) ++ (pn, qn) :: ps.drop (place ss st))).Perm (pn :: qn :: blks ps) := by
    have : blks ps = blks (ps.take (place ss st)) ++ blks (ps.drop (place ss st)) := by
     conv => lhs; rw [← List.take_append_drop (place ss st) ps]
     simp only [blks, List.flatMap_append]
    rw [this]
    have h3 : blks (ps.take (place ss st) ++ (pn, qn) :: ps.drop (place ss st)) = blks (ps.take (place ss st)) ++ pn :: qn :: blks (ps.drop (place ss st)) := by simp [blks]
    rw [h3]
    exact List.perm_middle.trans ((List.perm_middle).cons pn)
   have hbl : ∀ b, b ∈ blks (ps.take (place ss st) ++ (pn, qn) :: ps.drop (place ss st)) ↔ b = pn ∨ b = qn ∨ b ∈ blks ps := by
    intro b
    rw [hperm.mem_iff]; simp
   refine ⟨⟨s', hb10, ?_⟩, fun i x s hx hs => ?_, .inl h.fp.1, fun b hb => ?_, ?_, ?_, hc, ?_⟩
   ·rw [addS_eq, hent]
    refine (RowR.loc _ _ _).keep ((RowR.loc _ _ _).mono hr9 fun b _ hb => ?_) o10.ext fun b _ hb he => hb.2.1 he
    rw [hbl]
    rcases hb with hb | hb
    ·exact ⟨.inl hb.1.1, hb.2.1, fun hh => by
      rcases hh with h | h | h
      ·have := hb.1.2; omega
      ·have := hb.1.2; omega
      ·exact hb.2.2 h⟩
    ·exact ⟨.inr (by omega), by omega, fun hh => by
      rcases hh with h | h | h
      ·omega
      ·omega
      ·have := hlow b h; omega⟩
   ·rw [addS_eq] at hs
    have hpl' : (ps.take (place ss st)).length = place ss st := by rw [List.length_take]; omega
    have hsl' : (ss.take (place ss st)).length = place ss st := by rw [List.length_take]; omega
    have old : ∀ j : Nat, ps[j]? = some x -> ss[j]? = some s -> SpH v10 x.1 x.2 c s := fun j h1 h2 => by
     have hm := mem_blks_of h1
     exact hS9 ((h.sp j x s h1 h2).keep0 e08) (fun hh => hh.2.2 hm.1) (fun hh => hh.2.2 hm.2) (fun e => hnd.1 (e ▸ hm.1)) (fun e => hnd.1 (e ▸ hm.2))
    rcases Nat.lt_trichotomy i (place ss st) with hlt' | heq | hgt
    ·rw [List.getElem?_append_left (by omega), List.getElem?_take, if_pos hlt'] at hx hs
     exact old i hx hs
    ·rw [List.getElem?_append_right (by omega)] at hx hs
     rw [hpl', heq, Nat.sub_self] at hx
     rw [hsl', heq, Nat.sub_self] at hs
     simp at hx hs; subst hx; subst hs
     exact hS9 hnew (fun hh => by have := hh.1.2; simp only at this; omega) (fun hh => by have := hh.1.2; simp only at this; omega) (by simp only; omega) (by simp only; omega)
    ·rw [List.getElem?_append_right (by omega)] at hx hs
     rw [hpl'] at hx
     rw [hsl'] at hs
     obtain ⟨k, hk⟩ : ∃ k, i - place ss st = k + 1 := ⟨i - place ss st - 1, by omega⟩
     rw [hk, List.getElem?_cons_succ, List.getElem?_drop] at hx hs
     exact old _ hx hs
   ·rcases (hbl b).1 hb with h1 | h1 | h1
    ·subst h1; exact .inr hpn
    ·subst h1; exact .inr hqn
    ·exact .inl (h.fb b h1).1
   ·simp only [List.nodup_cons]
    refine ⟨fun hm => ?_, ?_⟩
    ·rcases (hbl p).1 hm with h1 | h1 | h1
     ·omega
     ·omega
     ·exact hnd.1 h1
    ·rw [hperm.nodup_iff]
     simp only [List.nodup_cons, List.mem_cons, not_or]
     have hne := hSn.ne
     exact ⟨⟨hne, fun hm => by have := hlow _ hm; omega⟩, fun hm => by have := hlow _ hm; omega, hnd.2⟩
   ·rw [addS_eq]; simp [hpl]
   ·rw [addS_eq]
    rw [List.pairwise_append]
    have hsr := h.srt
    refine ⟨hsr.sublist (List.take_sublist _ _), List.pairwise_cons.2 ⟨fun s hs => ?_, hsr.sublist (List.drop_sublist _ _)⟩, fun a ha b hb => ?_⟩
    ·obtain ⟨j, hj⟩ := List.getElem?_of_mem hs
     rw [List.getElem?_drop] at hj
     have h1 := hp2 _ s hj
     have h2 : s.st ≠ st := fun e => by
      have := hno (place ss st + j) s (List.getElem?_eq_some_iff.1 hj).1 hj
      rw [e] at this; simp at this; omega
     show st < s.st
     omega
    ·obtain ⟨i, hi⟩ := List.getElem?_of_mem ha
     rw [List.getElem?_take] at hi
     split at hi
     ·rename_i hlt'
      have hat := (hp2 i a hi).2 hlt'
      rcases List.mem_cons.1 hb with rfl | hb
      ·exact hat
      ·obtain ⟨j, hj⟩ := List.getElem?_of_mem hb
       rw [List.getElem?_drop] at hj
       obtain ⟨hi1, hi2⟩ := List.getElem?_eq_some_iff.1 hi
       obtain ⟨hj1, hj2⟩ := List.getElem?_eq_some_iff.1 hj
       have := List.pairwise_iff_getElem.1 hsr i (place ss st + j) hi1 hj1 (by omega)
       rw [hi2, hj2] at this; exact this
     ·cases hi
end Go.Ar
namespace Go.Ar
open Go Go.Vc Go.Proofs


variable {σ : Hp} {F : Rg} {p : Nat} {c : Cls} {ps : List (Nat × Nat)} {ss : List SpA}
end Go.Ar
namespace Go.Proofs
open Go.Vc

set_option maxRecDepth 100000
def transfer_Cache_made.hint : Hn := .seq (.o 1) (.seq (.reg (.seq [.op, .op, .op, .grd true 5 [.op, .op, .op, .op, .op], .op])) (.leaf))
def transfer_Cache_made.vc (c : Option Addr) (σ : Hp) (R : Bool -> Hp -> Prop) : Prop :=
 JnB (fun r v =>
 R r v) fun J =>
 If (!c.isNone) (NilP c fun a7 =>
 LdI .i64 (a7.add 0) σ fun t9 =>
 J (decide (t9 > 0)) σ)
 (J false σ)
theorem transfer_Cache_made.of_vc {c : Option Addr} {σ : Hp} {R : Bool -> Hp -> Prop} (hv : transfer_Cache_made.vc c σ R) : transfer_Cache_made.call c σ R :=
 fnK_sound Tryz.func151 (x := transfer_Cache_made.hint) (args := [.pointer c]) (rs := [.one .b]) (R := R) (Eq.mpr (by kernel_rfl) hv)
def transfer_New.hint : Hn := .seq (.o 2) (.seq (.seq (.reg (.seq [.op, .op, .op, .grd false 2 [.op, .op], .op, .grd false 2 [.op, .op], .op, .grd false 2 [.op, .op]])) (.cond (.seq (.o 2) (.leaf)) (.leaf))) (.seq (.o 6) (.leaf)))
def transfer_New.vc (batch : Int) (room : Int) (σ : Hp) (R : Option Addr -> Int -> Hp -> Prop) : Prop :=
 JnB (fun r v =>
 JnB (fun r1 v1 =>
 JnB (fun r2 v2 =>
 If r2 (R none 1 v2)
 (Nw (.cells #[.int .i64 batch, .int .i64 room, .int .i64 0, .slice none 0 0] 242 (0, 0)) v2 fun n23 v3 =>
 R (some n23) 0 v3)) fun J2 =>
 If r1 (J2 true v1)
 (J2 (decide (room > 8)) v1)) fun J1 =>
 If r (J1 true v)
 (J1 (decide (room < 0)) v)) fun J =>
 If (decide (batch < 1)) (J true σ)
 (J (decide (batch > 32)) σ)
theorem transfer_New.of_vc {batch : Int} {room : Int} {σ : Hp} {R : Option Addr -> Int -> Hp -> Prop} (hv : transfer_New.vc batch room σ R) : transfer_New.call batch room σ R :=
 fnK_sound Tryz.func161 (x := transfer_New.hint) (args := [.int .i64 batch, .int .i64 room]) (rs := [.one .p, .one (.i .i64)]) (R := R) (Eq.mpr (by kernel_rfl) hv)
def transfer_Cache_Remove.hint : Hn := .seq (.o 2) (.seq (.block (.seq (.o 4) (.cond (.seq (.o 2) (.leaf)) (.seq (.o 7) (.cond (.seq (.o 2) (.leaf)) (.leaf)))))) (.seq (.o 7) (.seq (.o 8) (.seq (.o 10) (.seq (.o 10) (.seq (.o 3) (.leaf)))))))
def transfer_Cache_Remove.vc (c : Option Addr) (σ : Hp) (R : Sl -> Int -> Hp -> Prop) : Prop :=
 transfer_Cache_made.call c σ fun t8 v =>
 If (!t8) (R ⟨none, 0, 0⟩ 5 v)
 (NilP c fun a12 =>
 LdS (a12.add 3) v fun t14 =>
 If (((t14.len : Nat) : Int) == 0) (R ⟨none, 0, 0⟩ 4 v)
 (NilP c fun a18 =>
 LdS (a18.add 3) v fun t20 =>
 Ar .i64 (((t20.len : Nat) : Int) - 1) fun last =>
 NilP c fun a24 =>
 LdS (a24.add 3) v fun t26 =>
 Ix t26.a t26.len last 1 fun a28 =>
 LdS a28 v fun out =>
 NilP c fun a32 =>
 LdS (a32.add 3) v fun t34 =>
 SlcL t34 1 0 last (t34.cap : Nat) fun t36 =>
 NilP c fun a37 =>
 St1 (a37.add 3) (.slice t36.a t36.len t36.cap) v fun v1 =>
 NilP c fun a41 =>
 LdI .i64 (a41.add 2) v1 fun t43 =>
 NilP c fun a46 =>
 St1 (a46.add 2) (.int .i64 (if last < t43 then last else t43)) v1 fun v2 =>
 R out 0 v2))
theorem transfer_Cache_Remove.of_vc {c : Option Addr} {σ : Hp} {R : Sl -> Int -> Hp -> Prop} (hv : transfer_Cache_Remove.vc c σ R) : transfer_Cache_Remove.call c σ R :=
 fnK_sound Tryz.func164 (x := transfer_Cache_Remove.hint) (args := [.pointer c]) (rs := [.one .s, .one (.i .i64)]) (R := R) (Eq.mpr (by kernel_rfl) hv)
def transfer_Cache_Insert.hint : Hn := .seq (.o 2) (.seq (.block (.seq (.o 4) (.cond (.seq (.o 2) (.leaf)) (.seq (.o 8) (.cond (.seq (.o 2) (.leaf)) (.seq (.oq 11) (.cond (.seq (.o 2) (.leaf)) (.leaf)))))))) (.seq (.reg (.held true [8, 11] (.take 0 (.take 1 (.take 2 (.take 3 (.take 4 (.take 5 (.all [(6, .all [(7, .all [(8, .take 9 (.take 10 (.all [(11, .done)])))])])]))))))))) (.seq (.o 2) (.leaf))))
def transfer_Cache_Insert.vc (c : Option Addr) (objects : Sl) (σ : Hp) (R : Bool -> Int -> Hp -> Prop) : Prop :=
 transfer_Cache_made.call c σ fun t8 v =>
 If (!t8) (R false 5 v)
 (NilP c fun a14 =>
 LdI .i64 (a14.add 0) v fun t16 =>
 If (((objects.len : Nat) : Int) != t16) (R false 1 v)
 (NilP c fun a20 =>
 LdS (a20.add 3) v fun t22 =>
 NilP c fun a25 =>
 LdI .i64 (a25.add 1) v fun t27 =>
 If (decide (((t22.len : Nat) : Int) ≥ t27)) (R false 0 v)
 (Held v fun S =>
 NilP c fun a31 =>
 LdH S .s (a31.add 3) fun (t33 : Sl) =>
 slices_Clone_int_int.call objects v fun t35 v1 =>
 And (S v1) <|
 Nw (.cells #[.slice t35.a t35.len t35.cap] 22 (0, 0)) v1 fun n36 v2 =>
 And (S v2) <|
 App t33 1 24 22 [.slice none 0 0] ⟨(some n36), 1, 1⟩ v2 fun t37 v3 =>
 NilP c fun a38 =>
 St1 (a38.add 3) (.slice t37.a t37.len t37.cap) v3 fun v4 =>
 R true 0 v4)))
theorem transfer_Cache_Insert.of_vc {c : Option Addr} {objects : Sl} {σ : Hp} {R : Bool -> Int -> Hp -> Prop} (hv : transfer_Cache_Insert.vc c objects σ R) : transfer_Cache_Insert.call c objects σ R :=
 fnK_sound Tryz.func232 (x := transfer_Cache_Insert.hint) (args := [.pointer c, .slice objects.a objects.len objects.cap]) (rs := [.one .b, .one (.i .i64)]) (R := R) (Eq.mpr (by kernel_rfl) hv)
end Go.Proofs
namespace Go.Ar
open Go Go.Vc Go.Proofs


variable {σ : Hp} {F : Rg} {p batch room : Nat} {t : TrA}
def slV (s : Sl) : Value := .slice s.a s.len s.cap
def intsI (xs : List Int) : List Value := xs.map (Value.int .i64)
theorem one1_intsI {l : List Int} : ∀ v ∈ intsI l, one1 v = true := by
 intro v hv
 simp only [intsI, List.mem_map] at hv
 obtain ⟨x, _, rfl⟩ := hv; rfl
def Bat (sls : List Sl) (bs : List (List Int)) (σ : Hp) (D : Rg) : Prop := sls.length = bs.length /\ ∀ (i : Nat) s xs, sls[i]? = some s -> bs[i]? = some xs -> SlR s 1 (intsI xs) σ D /\ s.len <= s.cap
theorem Bat.loc (sls : List Sl) (bs : List (List Int)) : Lcl (Bat sls bs) := fun σ σ' F G h hz hs => ⟨h.1, fun i s xs h1 h2 => ⟨SlR.loc _ _ _ _ _ _ _ (h.2 i s xs h1 h2).1 hz hs, (h.2 i s xs h1 h2).2⟩⟩
def Dj (sls : List Sl) : Prop := sls.Pairwise fun s t => ∀ a a', s.a = some a -> t.a = some a' -> a.block ≠ a'.block
def InB (s : Sl) (b : Nat) : Prop := ∃ a, s.a = some a /\ a.block = b
theorem _root_.Go.Vc.SlR.inB {s : Sl} {sz : Nat} {xs : List Value} {D : Rg} (h : SlR s sz xs σ D) : SlR s sz xs σ fun b => D b /\ InB s b :=
 ⟨h.1, h.2.imp id fun ⟨b, o, cs, hq, ha, r⟩ => ⟨b, o, cs, ⟨hq, _, ha, rfl⟩, ha, r⟩⟩
theorem _root_.Go.Vc.SlR.blk {s : Sl} {sz : Nat} {xs : List Value} {D : Rg} (h : SlR s sz xs σ D) (hx : xs ≠ []) {b : Nat} (hb : InB s b) : D b /\ b < σ.size := by
 rcases h.2 with h0 | ⟨b', o, cs, hq, ha, hc, _⟩
 ·exact absurd h0 hx
 ·obtain ⟨a, h1, rfl⟩ := hb
  rw [ha] at h1; cases h1
  exact ⟨hq, hc.lt⟩
theorem Dj.snoc {sls : List Sl} {bs : List (List Int)} {D : Rg} {z : Nat} {s' : Sl} {xs : List Value} {v : Hp} (h : Dj sls) (hB : Bat sls bs σ D) (hne : ∀ xs ∈ bs, xs ≠ []) (hz : ∀ b, D b -> b < z) (hs : RowR s' 1 xs v fun b => z <= b) (hx : xs ≠ []) : Dj (sls ++ [s']) := by
 refine List.pairwise_append.2 ⟨h, List.pairwise_singleton _ _, fun s hs1 u hu a a' h1 h2 => ?_⟩
 rw [List.mem_singleton] at hu; subst hu
 obtain ⟨i, hi⟩ := List.getElem?_of_mem hs1
 have hil := (List.getElem?_eq_some_iff.1 hi).1
 have hbi : bs[i]? = some (bs[i]'(by rw [← hB.1]; exact hil)) := List.getElem?_eq_getElem _
 have hb := ((hB.2 i s _ hi hbi).1.blk (by simp only [intsI, ne_eq, List.map_eq_nil_iff]; exact hne _ (List.mem_of_getElem? hbi)) ⟨a, h1, rfl⟩).1
 have h3 := (hs.slR.blk hx ⟨a', h2, rfl⟩).1
 have := hz _ hb
 omega
structure TfH (σ : Hp) (F : Rg) (p batch room : Nat) (t : TrA) : Prop where
 mem : ∃ (sl : Sl) (sls : List Sl) (D : Rg), Blk σ p [.int .i64 (batch : Int), .int .i64 (room : Int), .int .i64 (t.low : Int), .slice sl.a sl.len sl.cap] /\ RowR sl 1 (sls.map slV) σ (fun b => F b /\ b ≠ p /\ ¬ D b) /\ Bat sls t.bs σ D /\ (∀ b, D b -> F b /\ b ≠ p) /\ Dj sls
 fp : F p
 b1 : 1 <= batch /\ batch <= 32
 r1 : room <= 8
 few : t.bs.length <= room
 low : t.low <= t.bs.length
 all : ∀ xs ∈ t.bs, xs.length = batch
theorem TfH.loc : Lcl fun σ F => TfH σ F p batch room t := fun σ σ' F G h hz hs => by
 obtain ⟨sl, sls, D, hb, hr, hB, hD, hJ⟩ := h.mem
 refine ⟨⟨sl, sls, fun b => D b /\ b < σ.size, ?_, ?_, ?_, fun b hb => ⟨(hs b hb.2 (hD b hb.1).1).1, (hD b hb.1).2⟩, hJ⟩, (hs p hb.lt h.fp).1, h.b1, h.r1, h.few, h.low, h.all⟩
 ·obtain ⟨e, he⟩ := hb
  exact ⟨e, (hs p (Blk.lt ⟨e, he⟩) h.fp).2.trans he⟩
 ·exact RowR.loc _ _ _ _ _ _ _ hr hz fun b hb hf => ⟨⟨(hs b hb hf.1).1, hf.2.1, fun hd => hf.2.2 hd.1⟩, (hs b hb hf.1).2⟩
 ·exact Bat.loc _ _ _ _ _ _ hB hz fun b hb hd => ⟨⟨hd, hb⟩, (hs b hb (hD b hd).1).2⟩
theorem fmade_ok (h : TfH σ F p batch room t) {R : Bool -> Hp -> Prop} (hR : R true σ) : transfer_Cache_made.call (some ⟨p, 0, none⟩) σ R := by
 refine transfer_Cache_made.of_vc ?_
 unfold transfer_Cache_made.vc
 obtain ⟨sl, sls, D, hb, _⟩ := h.mem
 have := h.b1
 refine JnB.intro (ifT rfl (nilP (hb.rI rfl ?_)))
 rw [decide_eq_true (by omega)]
 exact hR
theorem _root_.Go.Vc.SlR.ixS {s : Sl} {F : Rg} {sls : List Sl} (h : SlR s 1 (sls.map slV) σ F) {i : Nat} {x : Sl} (hx : sls[i]? = some x) {K : Sl -> Prop} (hK : K x) : Ix s.a s.len (i : Int) 1 fun a => LdS a σ K := by
 have hi := (List.getElem?_eq_some_iff.1 hx).1
 obtain ⟨b, o, ha, hc⟩ := h.cell (j := i) (v := slV x) (by simp [hx])
 have hl := h.1
 rw [List.length_map] at hl
 rw [ha]
 refine ix (by omega) (by omega) ?_
 rw [add_lit]
 exact ldS (by simpa [slV] using hc) hK
theorem FNew_ok (h1 : 1 <= batch) (h2 : batch <= 32) (h3 : room <= 8) {R : Option Addr -> Int -> Hp -> Prop} (hR : ∀ σ' p, Ext0 σ σ' -> σ.size <= p -> p < σ'.size -> TfH σ' (· = p) p batch room ⟨0, []⟩ -> R (some ⟨p, 0, none⟩) 0 σ') : transfer_New.call batch room σ R := by
 refine transfer_New.of_vc ?_
 unfold transfer_New.vc
 refine JnB.intro (ifDF (by omega) (JnB.intro (ifDF (by omega) (JnB.intro (ifDF (by omega) (ifDF (by omega) ?_))))))
 refine nw (cs := [.int .i64 batch, .int .i64 room, .int .i64 0, .slice none 0 0]) fun v hz e hb => ?_
 exact hR v _ e (Nat.le_refl _) (by omega) ⟨⟨⟨none, 0, 0⟩, [], fun _ => False, hb, RowR.nil _ _ _ _, ⟨rfl, fun i s xs h => by simp at h⟩, fun b h => h.elim, List.Pairwise.nil⟩, rfl, ⟨h1, h2⟩, h3, by simp, by simp, by simp⟩
theorem Insert_ok (h : TfH σ F p batch room t) {sl : Sl} {xs : List Int} {X : Rg} (hs : SlR sl 1 (intsI xs) σ X) (hl : xs.length <= 1000000) {R : Bool -> Int -> Hp -> Prop} (h1 : xs.length ≠ batch -> R false 1 σ) (h2 : xs.length = batch -> room <= t.bs.length -> R false 0 σ)
 (h3 : xs.length = batch -> t.bs.length < room -> ∀ σ', Ext F σ σ' -> TfH σ' (Grow F σ) p batch room { t with bs := t.bs ++ [xs] } -> R true 0 σ') : transfer_Cache_Insert.call (some ⟨p, 0, none⟩) sl σ R := by
 refine transfer_Cache_Insert.of_vc ?_
 unfold transfer_Cache_Insert.vc
 have h := TfH.loc.cut h
 obtain ⟨so, sls, D, hb, hr, hB, hD, hJ⟩ := h.mem
 have hlen : sl.len = xs.length := by have := hs.1; simp [intsI] at this; omega
 have hso : so.len = t.bs.length := by have := hr.1; rw [List.length_map, hB.1] at this; omega
 have hr8 := h.r1
 have hb1 := h.b1
 refine fmade_ok h (ifF rfl (nilP (hb.rI rfl ?_)))
 rw [bneN]
 refine iff_ (fun hne => h1 (by rw [← hlen]; simpa using hne)) fun heq => ?_
 have heq' : xs.length = batch := by rw [← hlen]; simpa using heq
 refine nilP (hb.rS rfl (nilP (hb.rI rfl (ifD (fun hge => h2 heq' (by simp only at hge; omega)) fun hlt => ?_))))
 simp only at hlt
 refine ⟨fun h' => Blk h' p [.int .i64 (batch : Int), .int .i64 (room : Int), .int .i64 (t.low : Int), .slice so.a so.len so.cap], hb, nilP ⟨so, fun h' hS => by rw [add_lit, hS.cell]; rfl, ?_⟩⟩
 refine cloneV_ok hs one1_intsI (by omega) fun s' v1 hl1 e1 hr1 => ⟨e1.blk hb id, ?_⟩
 refine nw (cs := [.slice s'.a s'.len s'.cap]) fun v2 hz2 e2 hb2 => ⟨(e1.trans e2).blk hb id, ?_⟩
 have hr2 := (RowR.loc _ _ _).keep0 ((RowR.loc _ _ _).keep0 hr e1) e2
 refine hr2.app (ys := [slV s']) rfl rfl ?_ (by simp [one1, slV]) ?_ ?_ Nat.zero_lt_one fun s2 v3 hl3 e3 hr3 => nilP ?_
 ·intro j u hu
  rw [add_lit, Nat.zero_add, hb2.cell]; exact hu
 ·simp only; have : (so.len + 1) * 24 <= 9 * 24 := Nat.mul_le_mul (by omega) (by omega); omega
 ·simp only; omega
 ·have hb3 := e3.blk ((e1.trans e2).blk hb id) fun hh => hh.2.1 rfl
  have hplt := hb.lt
  have hs1 := e1.1
  refine hb3.s1 (by simp) fun v4 o4 hb4 => h3 heq' (by omega) v4 ?_ ?_
  ·exact ((Ext0.to (e1.trans e2)).trans (e3.sub fun b hb => hb.1.1)).trans (o4.ext.sub fun b hb => hb ▸ h.fp.1)
  ·refine ⟨⟨s2, sls ++ [s'], fun b => D b /\ b < σ.size ∨ σ.size <= b /\ b < v1.size, hb4, ?_, ⟨by simp [hB.1], fun i s ys hi hy => ?_⟩, fun b hb => ?_, ?_⟩, .inl h.fp.1, h.b1, h.r1, by simp; omega, by have := h.low; simp; omega, fun ys hy => ?_⟩
   ·rw [List.map_append]
    refine (RowR.loc _ _ _).keep ((RowR.loc _ _ _).mono hr3 fun b _ hb => ?_) o4.ext fun b _ hb he => hb.2.1 he
    rcases hb with hb | hb
    ·exact ⟨.inl hb.1.1, hb.2.1, fun hd => by
      rcases hd with hd | hd
      ·exact hb.2.2 hd.1
      ·have := hb.1.2; omega⟩
    ·exact ⟨.inr (by omega), by omega, fun hd => by rcases hd with hd | hd <;> omega⟩
   ·have mv : ∀ {s : Sl} {ys : List Int} {G : Rg}, SlR s 1 (intsI ys) v2 G -> (∀ b, G b -> b ≠ p /\ ¬ (Cut F σ b /\ b ≠ p /\ ¬ D b)) -> SlR s 1 (intsI ys) v4 G := fun hS hn =>
     (SlR.loc _ _ _).keep ((SlR.loc _ _ _).keep hS e3 fun b _ hb => (hn b hb).2) o4.ext fun b _ hb he => (hn b hb).1 he
    rcases Nat.lt_or_ge i sls.length with hi' | hi'
    ·rw [List.getElem?_append_left hi'] at hi
     rw [List.getElem?_append_left (by rw [← hB.1]; exact hi')] at hy
     obtain ⟨k1, k2⟩ := hB.2 i s ys hi hy
     refine ⟨(SlR.loc _ _ _).mono (mv ((SlR.loc _ _ _).keep0 ((SlR.loc _ _ _).keep0 ((SlR.loc _ _ _).mono k1 (G := fun b => D b /\ b < σ.size) fun b hb hd => ⟨hd, hb⟩) e1) e2) fun b hd => ⟨(hD b hd.1).2, fun hh => hh.2.2 hd.1⟩) fun b _ hd => .inl hd, k2⟩
    ·rw [List.getElem?_append_right hi'] at hi
     rw [List.getElem?_append_right (by rw [← hB.1]; exact hi')] at hy
     have hi0 : i - sls.length = 0 := by
      have := (List.getElem?_eq_some_iff.1 hi).1
      simp at this; omega
     rw [hi0] at hi
     rw [show i - t.bs.length = 0 by rw [← hB.1]; exact hi0] at hy
     simp at hi hy; subst hi; subst hy
     have hcap : s'.len <= s'.cap := by
      rcases hr1.2 with ⟨q1, q2⟩ | ⟨_, _, _, _, _, q, _⟩
      ·omega
      ·exact q
     refine ⟨(SlR.loc _ _ _).mono (mv ((SlR.loc _ _ _).keep0 ((SlR.loc _ _ _).mono hr1.slR (G := fun b => σ.size <= b /\ b < v1.size) fun b hb hd => ⟨hd, hb⟩) e2) fun b hd => ⟨by omega, fun hh => by have := hh.1.2; omega⟩) fun b _ hd => .inr hd, hcap⟩
   ·rcases hb with hd | hd
    ·exact ⟨.inl (hD b hd.1).1.1, (hD b hd.1).2⟩
    ·exact ⟨.inr hd.1, by omega⟩
   ·have hne : ∀ ys ∈ t.bs, ys ≠ [] := fun ys hy e => by have := TfH.all ‹_› ys hy; rw [e] at this; simp at this; omega
    exact hJ.snoc hB hne (fun b hd => (hD b hd).1.2) hr1 (by simp only [intsI, ne_eq, List.map_eq_nil_iff]; intro e; rw [e] at heq'; simp at heq'; omega)
   ·rcases List.mem_append.1 hy with h | h
    ·exact TfH.all ‹_› ys h
    ·simp at h; subst h; exact heq'
theorem Remove_none (h : TfH σ F p batch room t) (h0 : t.bs = []) {R : Sl -> Int -> Hp -> Prop} (hR : R ⟨none, 0, 0⟩ 4 σ) : transfer_Cache_Remove.call (some ⟨p, 0, none⟩) σ R := by
 refine transfer_Cache_Remove.of_vc ?_
 unfold transfer_Cache_Remove.vc
 obtain ⟨so, sls, D, hb, hr, hB, hD, hJ⟩ := h.mem
 have hso : so.len = t.bs.length := by have := hr.1; rw [List.length_map, hB.1] at this; omega
 refine fmade_ok h (ifF rfl (nilP (hb.rS rfl (ifT ?_ hR))))
 simp [hso, h0]
theorem Remove_ok (h : TfH σ F p batch room t) (h0 : t.bs ≠ []) {R : Sl -> Int -> Hp -> Prop} (hR : ∀ out σ', Ext F σ σ' -> (∀ b, InB out b -> F b) -> SlR out 1 (intsI (t.bs.getLast?.getD [])) σ' (InB out) -> out.len <= out.cap -> TfH σ' (fun b => F b /\ ¬ InB out b) p batch room t.rem -> R out 0 σ') : transfer_Cache_Remove.call (some ⟨p, 0, none⟩) σ R := by
 refine transfer_Cache_Remove.of_vc ?_
 unfold transfer_Cache_Remove.vc
 obtain ⟨so, sls, D, hb, hr, hB, hD, hJ⟩ := h.mem
 have hso : so.len = t.bs.length := by have := hr.1; rw [List.length_map, hB.1] at this; omega
 have hpos := List.length_pos_iff.2 h0
 have hr8 := h.r1
 have hfw := h.few
 have hlow := h.low
 have hl0 : t.bs.length - 1 < sls.length := by rw [hB.1]; omega
 obtain ⟨o, ho⟩ : ∃ o, sls[t.bs.length - 1]? = some o := ⟨_, List.getElem?_eq_getElem hl0⟩
 have hlast : t.bs[t.bs.length - 1]? = some (t.bs.getLast?.getD []) := by
  rw [List.getLast?_eq_getElem?, List.getElem?_eq_getElem (by omega)]; rfl
 obtain ⟨k1, k2⟩ := hB.2 _ o _ ho hlast
 refine fmade_ok h (ifF rfl (nilP (hb.rS rfl (ifF ?_ ?_))))
 ·simp only [beq_eq_false_iff_ne]; omega
 refine nilP (hb.rS rfl (arN (m := t.bs.length - 1) (by simp only; omega) (by omega) (nilP (hb.rS rfl ?_))))
 refine hr.slR.ixS ho (nilP (hb.rS rfl ?_))
 have hcap : so.len <= so.cap := by
  rcases hr.2 with ⟨q1, q2⟩ | ⟨_, _, _, _, _, q, _⟩
  ·omega
  ·exact q
 refine slc (lo := 0) (by omega) (by first | omega | (simp only; omega)) (by first | omega | (simp only; omega)) (nilP (hb.s1 (by simp) fun v1 o1 hb1 => nilP (hb1.rI rfl (nilP ?_))))
 refine hb1.s1 (by simp) fun v2 o2 hb2 => ?_
 have e12 : Ext (· = p) σ v2 := o1.ext.trans o2.ext
 have hmin : (if ((t.bs.length - 1 : Nat) : Int) < (t.low : Int) then ((t.bs.length - 1 : Nat) : Int) else (t.low : Int)) = ((min t.low (t.bs.length - 1) : Nat) : Int) := by split <;> omega
 rw [hmin] at hb2
 have hne : ∀ xs ∈ t.bs, xs ≠ [] := fun xs hx e => by have h1 := h.all xs hx; have h2 := h.b1; rw [e] at h1; simp at h1; omega
 have hoD : ∀ b, InB o b -> D b := fun b hb => (k1.blk (by simp only [intsI, ne_eq, List.map_eq_nil_iff]; exact hne _ (List.mem_of_getElem? hlast)) hb).1
 refine hR o v2 (e12.sub fun b hb => hb ▸ h.fp) (fun b hb => (hD b (hoD b hb)).1) ((SlR.loc _ _ _).mono ((SlR.loc _ _ _).keep k1 e12 fun b _ hb he => (hD b hb).2 he).inB fun b _ hd => hd.2) k2 ⟨⟨_, sls.dropLast, fun b => D b /\ ¬ InB o b, hb2, ?_, ⟨by simp [hB.1, TrA.rem], fun i s xs hi hx => ?_⟩, fun b hd => ⟨⟨(hD b hd.1).1, hd.2⟩, (hD b hd.1).2⟩, List.Pairwise.sublist (List.dropLast_sublist _) hJ⟩, ⟨h.fp, fun hb => (hD p (hoD p hb)).2 rfl⟩, h.b1, h.r1, by simp [TrA.rem]; omega, by simp [TrA.rem]; omega, fun xs hx => h.all xs (List.dropLast_subset _ hx)⟩
 ·refine (RowR.loc _ _ _).keep ?_ e12 fun b _ hb he => hb.2.1 he
  refine ⟨by simp [hB.1], ?_⟩
  rcases hr.2 with ⟨q1, q2⟩ | ⟨b, cs, hq, ha, hbb, hle, hcl, ht⟩
  ·omega
  ·refine .inr ⟨b, cs, ⟨⟨hq.1, fun hb => hq.2.2 (hoD b hb)⟩, hq.2.1, fun hd => hq.2.2 hd.1⟩, ?_, hbb, by simp only; omega, by simp only; omega, ?_⟩
   ·simp only [ha]; split <;> simp [add_lit]
   ·simp only [List.length_map] at ht ⊢
    have hd : sls.dropLast.map slV = (sls.map slV).take (sls.length - 1) := by rw [List.dropLast_eq_take, List.map_take]
    rw [hd, ← ht, List.take_take, List.length_dropLast]
    congr 1; omega
 ·have hil : i < t.bs.length - 1 := by
   have := (List.getElem?_eq_some_iff.1 hx).1
   simpa [TrA.rem] using this
  rw [List.dropLast_eq_take, List.getElem?_take] at hi
  simp only [TrA.rem, List.dropLast_eq_take, List.getElem?_take] at hx
  rw [if_pos (by rw [hB.1]; exact hil)] at hi
  rw [if_pos hil] at hx
  obtain ⟨m1, m2⟩ := hB.2 i s xs hi hx
  refine ⟨(SlR.loc _ _ _).mono ((SlR.loc _ _ _).keep m1 e12 fun b _ hb he => (hD b hb).2 he).inB fun b _ hb => ⟨hb.1, fun hb2 => ?_⟩, m2⟩
  obtain ⟨a, ha, e1⟩ := hb.2
  obtain ⟨a', ha', e2⟩ := hb2
  obtain ⟨hi1, rfl⟩ := List.getElem?_eq_some_iff.1 hi
  obtain ⟨hl1, rfl⟩ := List.getElem?_eq_some_iff.1 ho
  exact List.pairwise_iff_getElem.1 hJ i _ hi1 hl1 hil a a' ha ha' (e1.trans e2.symm)
def OutR (out : Sl) (bs : List (List Int)) (σ : Hp) (G : Rg) : Prop := ∃ sls : List Sl, SlR out 1 (sls.map slV) σ G /\ Bat sls bs σ G
theorem OutR.loc (out : Sl) (bs : List (List Int)) : Lcl (OutR out bs) := fun σ σ' F G ⟨sls, h1, h2⟩ hz hs => ⟨sls, SlR.loc _ _ _ _ _ _ _ h1 hz hs, Bat.loc _ _ _ _ _ _ h2 hz hs⟩
end Go.Ar
namespace Go.Ar
open Go Go.Vc Go.Proofs


variable {σ : Hp} {F : Rg} {p batch room : Nat} {t : TrA}
end Go.Ar
namespace Go.Ar
open Go Go.Vc Go.Proofs
open Go.Bu (runOk)


variable {σ : Hp} {F : Rg} {p : Nat} {ow : Nat -> Nat}
end Go.Ar
namespace Go.Proofs
open Go.Vc

set_option maxRecDepth 100000
def space_Space_Read.hint : Hn := .seq (.o 2) (.seq (.seq (.o 4) (.seq (.o 2) (.cond (.seq (.o 3) (.leaf)) (.leaf)))) (.seq (.o 6) (.leaf)))
def space_Space_Read.vc (s : Option Addr) (addr : Int) (σ : Hp) (R : Int -> Int -> Hp -> Prop) : Prop :=
 space_Space_access.call s addr 1 σ fun ve v =>
 If (ve != 0) (R 0 ve v)
 (Nz 8 <| Ar .i64 (addr.tdiv 8) fun t15 =>
 space_Space_get.call s t15 v fun t16 v1 =>
 R t16 0 v1)
theorem space_Space_Read.of_vc {s : Option Addr} {addr : Int} {σ : Hp} {R : Int -> Int -> Hp -> Prop} (hv : space_Space_Read.vc s addr σ R) : space_Space_Read.call s addr σ R :=
 fnK_sound Tryz.func67 (x := space_Space_Read.hint) (args := [.pointer s, .int .i64 addr]) (rs := [.one (.i .i64), .one (.i .i64)]) (R := R) (Eq.mpr (by kernel_rfl) hv)
def space_Space_Write.hint : Hn := .seq (.o 1) (.seq (.seq (.o 4) (.seq (.o 2) (.cond (.seq (.o 2) (.leaf)) (.leaf)))) (.seq (.o 5) (.seq (.o 1) (.leaf))))
def space_Space_Write.vc (s : Option Addr) (addr : Int) (value : Int) (σ : Hp) (R : Int -> Hp -> Prop) : Prop :=
 space_Space_access.call s addr 1 σ fun ve v =>
 If (ve != 0) (R ve v)
 (Nz 8 <| Ar .i64 (addr.tdiv 8) fun t16 =>
 space_Space_put.call s t16 value v fun v1 =>
 R 0 v1)
theorem space_Space_Write.of_vc {s : Option Addr} {addr : Int} {value : Int} {σ : Hp} {R : Int -> Hp -> Prop} (hv : space_Space_Write.vc s addr value σ R) : space_Space_Write.call s addr value σ R :=
 fnK_sound Tryz.func72 (x := space_Space_Write.hint) (args := [.pointer s, .int .i64 addr, .int .i64 value]) (rs := [.one (.i .i64)]) (R := R) (Eq.mpr (by kernel_rfl) hv)
def space_Space_made.hint : Hn := .seq (.o 1) (.seq (.reg (.seq [.op, .op, .op, .grd true 6 [.op, .op, .op, .op, .op, .op], .op])) (.leaf))
def space_Space_made.vc (s : Option Addr) (σ : Hp) (R : Bool -> Hp -> Prop) : Prop :=
 JnB (fun r v =>
 R r v) fun J =>
 If (!s.isNone) (NilP s fun a7 =>
 LdS (a7.add 0) σ fun t9 =>
 J (decide (((t9.len : Nat) : Int) > 0)) σ)
 (J false σ)
theorem space_Space_made.of_vc {s : Option Addr} {σ : Hp} {R : Bool -> Hp -> Prop} (hv : space_Space_made.vc s σ R) : space_Space_made.call s σ R :=
 fnK_sound Tryz.func86 (x := space_Space_made.hint) (args := [.pointer s]) (rs := [.one .b]) (R := R) (Eq.mpr (by kernel_rfl) hv)
def space_Space_Pages.hint : Hn := .seq (.o 1) (.seq (.seq (.o 3) (.cond (.seq (.o 1) (.leaf)) (.leaf))) (.seq (.o 6) (.leaf)))
def space_Space_Pages.vc (s : Option Addr) (σ : Hp) (R : Int -> Hp -> Prop) : Prop :=
 space_Space_made.call s σ fun t4 v =>
 If (!t4) (R 0 v)
 (NilP s fun a7 =>
 LdS (a7.add 0) v fun t9 =>
 R ((t9.len : Nat) : Int) v)
theorem space_Space_Pages.of_vc {s : Option Addr} {σ : Hp} {R : Int -> Hp -> Prop} (hv : space_Space_Pages.vc s σ R) : space_Space_Pages.call s σ R :=
 fnK_sound Tryz.func89 (x := space_Space_Pages.hint) (args := [.pointer s]) (rs := [.one (.i .i64)]) (R := R) (Eq.mpr (by kernel_rfl) hv)
def space_Space_access.hint : Hn := .seq (.o 1) (.seq (.block (.seq (.o 4) (.cond (.seq (.o 1) (.leaf)) (.seq (.o 3) (.cond (.seq (.o 1) (.leaf)) (.seq (.reg (.seq [.op, .op, .op, .grd false 3 [.op, .op, .op], .op])) (.cond (.seq (.o 1) (.leaf)) (.leaf)))))))) (.seq (.o 10) (.seq (.seq (.reg (.heldJ true [] [(50, .one .b)] (.take 0 (.take 1 (.take 2 (.take 3 (.take 4 (.take 5 (.take 6 (.take 7 (.split 39 (.take 8 (.take 9 (.take 10 (.take 11 (.take 12 (.take 13 (.take 14 (.take 15 (.take 16 (.take 17 (.take 18 (.done)))))))))))) (.take 8 (.take 9 (.take 10 (.take 11 (.take 12 (.take 13 (.take 14 (.take 15 (.take 16 (.all [(17, .take 18 (.done))]))))))))))))))))))))) (.cond (.seq (.o 1) (.leaf)) (.leaf))) (.seq (.o 1) (.leaf)))))
def space_Space_access.vc (s : Option Addr) (addr : Int) (words : Int) (σ : Hp) (R : Int -> Hp -> Prop) : Prop :=
 space_Space_made.call s σ fun t11 v =>
 If (!t11) (R 5 v)
 (If (words == 0) (R 0 v)
 (JnB (fun r v1 =>
 If r (R 7 v1)
 (Nz 256 <| Ar .i64 (addr.tdiv 256) fun first =>
 Nz 8 <| Ar .i64 (addr.tdiv 8) fun t27 =>
 Ar .i64 (t27 + words) fun t29 =>
 Ar .i64 (t29 - 1) fun t30 =>
 Nz 32 <| Ar .i64 (t30.tdiv 32) fun last =>
 Jn [.b] (fun (t50 : Bool) v2 =>
 If t50 (R 7 v2)
 (R 0 v2)) fun J1 =>
 Held v1 fun S =>
 NilP s fun a34 =>
 LdH S .s (a34.add 0) fun (t36 : Sl) =>
 If (decide (last ≥ ((t36.len : Nat) : Int))) (J1 true v1)
 (NilP s fun a41 =>
 LdH S .s (a41.add 0) fun (t43 : Sl) =>
 Ar .i64 (last + 1) fun t46 =>
 SlcL t43 2 first t46 (t43.cap : Nat) fun t47 =>
 LdH S .b ((Addr.mk 0 0 none).add 0) fun (t48 : Bool) =>
 LdH S .b ((Addr.mk 0 0 none).add 1) fun (t481 : Bool) =>
 slices_Contains_space_page_space_page.call t47 t48 t481 v1 fun t49 v3 =>
 And (S v3) <|
 J1 t49 v3))) fun J =>
 If (decide (addr < 0)) (J true v)
 (Nz 8 <|
 J ((addr.tmod 8) != 0) v)))
theorem space_Space_access.of_vc {s : Option Addr} {addr : Int} {words : Int} {σ : Hp} {R : Int -> Hp -> Prop} (hv : space_Space_access.vc s addr words σ R) : space_Space_access.call s addr words σ R :=
 fnK_sound Tryz.func96 (x := space_Space_access.hint) (args := [.pointer s, .int .i64 addr, .int .i64 words]) (rs := [.one (.i .i64)]) (R := R) (Eq.mpr (by kernel_rfl) hv)
def space_Space_get.hint : Hn := .seq (.o 1) (.seq (.seq (.o 12) (.seq (.o 1) (.cond (.seq (.o 6) (.leaf)) (.leaf)))) (.seq (.o 1) (.leaf)))
def space_Space_get.vc (s : Option Addr) (word : Int) (σ : Hp) (R : Int -> Hp -> Prop) : Prop :=
 NilP s fun a9 =>
 LdM (a9.add 1) σ fun t11 =>
 Nz 32 <| Ar .i64 (word.tdiv 32) fun t13 =>
 Lk .i64 .s t11 t13 σ fun t14 =>
 If t14.isSome (Nz 32 <|
 Ix (t14.getD ⟨none, 0, 0⟩).a (t14.getD ⟨none, 0, 0⟩).len (word.tmod 32) 1 fun a21 =>
 LdI .i64 a21 σ fun t22 =>
 R t22 σ)
 (R 0 σ)
theorem space_Space_get.of_vc {s : Option Addr} {word : Int} {σ : Hp} {R : Int -> Hp -> Prop} (hv : space_Space_get.vc s word σ R) : space_Space_get.call s word σ R :=
 fnK_sound Tryz.func97 (x := space_Space_get.hint) (args := [.pointer s, .int .i64 word]) (rs := [.one (.i .i64)]) (R := R) (Eq.mpr (by kernel_rfl) hv)
def space_Space_put.hint : Hn := .seq (.o 3) (.sjn [] (.seq (.oq 9) (.cond (.seq (.reg (.tail 7 [.op, .op, .op, .op, .op, .op, .op] [.op])) (.seq (.reg (.held true [6] (.take 0 (.take 1 (.take 2 (.take 3 (.take 4 (.all [(5, .all [(6, .done)])])))))))) (.reg (.tail 13 [.op, .op, .op, .op, .op, .op, .op, .op, .op, .op, .op, .op, .op] [.op])))) (.leaf))) (.o 11))
def space_Space_put.vc (s : Option Addr) (word : Int) (value : Int) (σ : Hp) (R : Hp -> Prop) : Prop :=
 Nz 32 <| Ar .i64 (word.tdiv 32) fun p =>
 Jn [] (fun v =>
 NilP s fun a45 =>
 LdM (a45.add 1) v fun t47 =>
 Lk .i64 .s t47 p v fun t49 =>
 Nz 32 <|
 Ix (t49.getD ⟨none, 0, 0⟩).a (t49.getD ⟨none, 0, 0⟩).len (word.tmod 32) 1 fun a53 =>
 St1 a53 (.int .i64 value) v fun v1 =>
 R v1) fun J =>
 NilP s fun a10 =>
 LdS (a10.add 0) σ fun t12 =>
 Ix t12.a t12.len p 2 fun a14 =>
 LdB (a14.add 0) σ fun t15 =>
 LdB (a14.add 1) σ fun t151 =>
 LdB ((Addr.mk 1 0 none).add 0) σ fun t16 =>
 LdB ((Addr.mk 1 0 none).add 1) σ fun t161 =>
 If (!((t15 == t16) && ((t151 == t161) && true))) (NilP s fun a19 =>
 LdS (a19.add 0) σ fun t21 =>
 LdB ((Addr.mk 1 0 none).add 0) σ fun t23 =>
 LdB ((Addr.mk 1 0 none).add 1) σ fun t231 =>
 Ix t21.a t21.len p 2 fun a24 =>
 St1 (a24.add 0) (.bool t23) σ fun v2 =>
 St1 (a24.add 1) (.bool t231) v2 fun v3 =>
 Held v3 fun S =>
 NilP s fun a26 =>
 LdH S .m (a26.add 1) fun (t28 : Option Nat) =>
 Mk 32 32 8 3 [.int .i64 0] v3 fun t30 v4 =>
 And (S v4) <|
 MSet .i64 .s t28 p t30 v4 fun v5 =>
 NilP s fun a33 =>
 LdI .i64 (a33.add 2) v5 fun t35 =>
 NilP s fun a37 =>
 LdM (a37.add 1) v5 fun t39 =>
 MLen .i64 .s t39 v5 fun t40 =>
 NilP s fun a42 =>
 St1 (a42.add 2) (.int .i64 (if t40 > t35 then t40 else t35)) v5 fun v6 =>
 J v6)
 (J σ)
theorem space_Space_put.of_vc {s : Option Addr} {word : Int} {value : Int} {σ : Hp} {R : Hp -> Prop} (hv : space_Space_put.vc s word value σ R) : space_Space_put.call s word value σ R :=
 fnK_sound Tryz.func99 (x := space_Space_put.hint) (args := [.pointer s, .int .i64 word, .int .i64 value]) (rs := []) (R := R) (Eq.mpr (by kernel_rfl) hv)
def space_New.hint : Hn := .seq (.o 2) (.seq (.seq (.reg (.seq [.op, .op, .op, .grd false 2 [.op, .op]])) (.cond (.seq (.o 2) (.leaf)) (.leaf))) (.seq (.o 7) (.leaf)))
def space_New.vc (pages : Int) (σ : Hp) (R : Option Addr -> Int -> Hp -> Prop) : Prop :=
 JnB (fun r v =>
 If r (R none 1 v)
 (Mk pages pages 2 245 [.bool false, .bool false] v fun t11 v1 =>
 Nw (.map #[] 0) v1 fun n12 v2 =>
 Nw (.cells #[.slice t11.a t11.len t11.cap, .map (some n12.block), .int .i64 0] 139 (0, 0)) v2 fun n14 v3 =>
 R (some n14) 0 v3)) fun J =>
 If (decide (pages < 1)) (J true σ)
 (J (decide (pages > 1024)) σ)
theorem space_New.of_vc {pages : Int} {σ : Hp} {R : Option Addr -> Int -> Hp -> Prop} (hv : space_New.vc pages σ R) : space_New.call pages σ R :=
 fnK_sound Tryz.func106 (x := space_New.hint) (args := [.int .i64 pages]) (rs := [.one .p, .one (.i .i64)]) (R := R) (Eq.mpr (by kernel_rfl) hv)
def space_Space_run.hint : Hn := .seq (.o 2) (.seq (.block (.seq (.o 4) (.cond (.seq (.o 2) (.leaf)) (.seq (.reg (.seq [.op, .op, .op, .grd false 2 [.op, .op], .op, .grd false 7 [.op, .op, .op, .op, .op, .op, .op], .op, .grd false 9 [.op, .op, .op, .op, .op, .op, .op, .op, .op], .op])) (.cond (.seq (.o 2) (.leaf)) (.leaf)))))) (.seq (.o 11) (.leaf)))
def space_Space_run.vc (s : Option Addr) (start : Int) (pages : Int) (σ : Hp) (R : Sl -> Int -> Hp -> Prop) : Prop :=
 space_Space_made.call s σ fun t10 v =>
 If (!t10) (R ⟨none, 0, 0⟩ 5 v)
 (JnB (fun r v1 =>
 JnB (fun r1 v2 =>
 JnB (fun r2 v3 =>
 If r2 (R ⟨none, 0, 0⟩ 1 v3)
 (NilP s fun a40 =>
 LdS (a40.add 0) v3 fun t42 =>
 Ar .i64 (start + pages) fun t46 =>
 SlcL t42 2 start t46 (t42.cap : Nat) fun t47 =>
 R t47 0 v3)) fun J2 =>
 If r1 (J2 true v2)
 (NilP s fun a31 =>
 LdS (a31.add 0) v2 fun t33 =>
 Ar .i64 (((t33.len : Nat) : Int) - start) fun t36 =>
 J2 (decide (pages > t36)) v2)) fun J1 =>
 If r (J1 true v1)
 (NilP s fun a22 =>
 LdS (a22.add 0) v1 fun t24 =>
 J1 (decide (start > ((t24.len : Nat) : Int))) v1)) fun J =>
 If (decide (start < 0)) (J true v)
 (J (decide (pages < 1)) v))
theorem space_Space_run.of_vc {s : Option Addr} {start : Int} {pages : Int} {σ : Hp} {R : Sl -> Int -> Hp -> Prop} (hv : space_Space_run.vc s start pages σ R) : space_Space_run.call s start pages σ R :=
 fnK_sound Tryz.func239 (x := space_Space_run.hint) (args := [.pointer s, .int .i64 start, .int .i64 pages]) (rs := [.one .s, .one (.i .i64)]) (R := R) (Eq.mpr (by kernel_rfl) hv)
def space_Space_set.hint : Hn := .seq (.o 1) (.seq (.o 2) (.block (.loop [(8, .one (.i .i64))] (.seq (.seq (.o 5) (.cond (.leaf) (.leaf))) (.seq (.block (.seq (.reg (.tail 7 [.op, .op, .op, .op, .op, .op, .op] [.op])) (.o 6))) (.o 3))))))
def space_Space_set.vc (s : Option Addr) (start : Int) (pages : Int) (to : Bool) (to1 : Bool) (σ : Hp) (R : Hp -> Prop) : Prop :=
 Nw (.cells #[.bool to, .bool to1] 245 (0, 0)) σ fun n7 v =>
 LoopK [(.i .i64)] (fun I => I start v) fun J (p : Int) v1 =>
 Ar .i64 (start + pages) fun t13 =>
 If (decide (p < t13)) (NilP s fun a18 =>
 LdS (a18.add 0) v1 fun t20 =>
 LdB (n7.add 0) v1 fun t22 =>
 LdB (n7.add 1) v1 fun t221 =>
 Ix t20.a t20.len p 2 fun a23 =>
 St1 (a23.add 0) (.bool t22) v1 fun v2 =>
 St1 (a23.add 1) (.bool t221) v2 fun v3 =>
 NilP s fun a25 =>
 LdM (a25.add 1) v3 fun t27 =>
 MDel .i64 .s t27 p v3 fun v4 =>
 Ar .i64 (p + 1) fun p1 =>
 J p1 v4)
 (R v1)
theorem space_Space_set.of_vc {s : Option Addr} {start : Int} {pages : Int} {to : Bool} {to1 : Bool} {σ : Hp} {R : Hp -> Prop} (hv : space_Space_set.vc s start pages to to1 σ R) : space_Space_set.call s start pages to to1 σ R :=
 fnK_sound Tryz.func240 (x := space_Space_set.hint) (args := [.pointer s, .int .i64 start, .int .i64 pages, .agg #[.bool to, .bool to1]]) (rs := []) (R := R) (Eq.mpr (by kernel_rfl) hv)
def space_Space_Map.hint : Hn := .seq (.o 1) (.seq (.o 9) (.seq (.block (.seq (.o 3) (.cond (.seq (.o 2) (.leaf)) (.seq (.o 3) (.cond (.seq (.o 1) (.leaf)) (.leaf)))))) (.seq (.o 5) (.seq (.o 1) (.leaf)))))
def space_Space_Map.vc (s : Option Addr) (start : Int) (pages : Int) (σ : Hp) (R : Int -> Hp -> Prop) : Prop :=
 space_Space_run.call s start pages σ fun t13 t131 v =>
 If (t131 != 0) (R t131 v)
 (slices_ContainsFunc_space_page_space_page.call t13 ⟨281, #[], #[]⟩ v fun t22 v1 =>
 If t22 (R 5 v1)
 (LdB ((Addr.mk 2 0 none).add 0) v1 fun t26 =>
 LdB ((Addr.mk 2 0 none).add 1) v1 fun t261 =>
 space_Space_set.call s start pages t26 t261 v1 fun v2 =>
 R 0 v2))
theorem space_Space_Map.of_vc {s : Option Addr} {start : Int} {pages : Int} {σ : Hp} {R : Int -> Hp -> Prop} (hv : space_Space_Map.vc s start pages σ R) : space_Space_Map.call s start pages σ R :=
 fnK_sound Tryz.func259 (x := space_Space_Map.hint) (args := [.pointer s, .int .i64 start, .int .i64 pages]) (rs := [.one (.i .i64)]) (R := R) (Eq.mpr (by kernel_rfl) hv)
def space_Space_Map_L1.hint : Hn := .seq (.o 2) (.seq (.o 4) (.leaf))
def space_Space_Map_L1.vc (p : Bool) (p1 : Bool) (σ : Hp) (R : Bool -> Hp -> Prop) : Prop :=
 Nw (.cells #[.bool p, .bool p1] 245 (0, 0)) σ fun n1 v =>
 LdB (n1.add 0) v fun t3 =>
 LdB (n1.add 1) v fun t31 =>
 LdB ((Addr.mk 0 0 none).add 0) v fun t4 =>
 LdB ((Addr.mk 0 0 none).add 1) v fun t41 =>
 R (!((t3 == t4) && ((t31 == t41) && true))) v
theorem space_Space_Map_L1.of_vc {p : Bool} {p1 : Bool} {σ : Hp} {R : Bool -> Hp -> Prop} (hv : space_Space_Map_L1.vc p p1 σ R) : space_Space_Map_L1.call p p1 σ R :=
 fnK_sound Tryz.func281 (x := space_Space_Map_L1.hint) (args := [.agg #[.bool p, .bool p1]]) (rs := [.one .b]) (R := R) (Eq.mpr (by kernel_rfl) hv)
end Go.Proofs
namespace Go.Ar
open Go Go.Vc Go.Proofs
open Go.Bu (runOk)


variable {σ : Hp} {F : Rg} {p q r : Nat} {sp : Sp}
structure Gl (σ : Hp) : Prop where
 c0 : cell σ ⟨2, 0, none⟩ = some (.bool true)
 c1 : cell σ ⟨2, 1, none⟩ = some (.bool false)
 u0 : cell σ ⟨0, 0, none⟩ = some (.bool false)
 u1 : cell σ ⟨0, 1, none⟩ = some (.bool false)
structure Gd (σ : Hp) : Prop where
 d0 : cell σ ⟨1, 0, none⟩ = some (.bool true)
 d1 : cell σ ⟨1, 1, none⟩ = some (.bool true)
def Off (F : Rg) : Prop := ∀ b, F b -> b ≠ 2 /\ b ≠ 0
theorem cell_lt' {h : Hp} {b o : Nat} {v : Value} (hc : cell h ⟨b, o, none⟩ = some v) : b < h.size := (cell_lt hc).1
theorem Gl.keep {σ' : Hp} (g : Gl σ) (e : Ext F σ σ') (hF : Off F) : Gl σ' := by
 have n1 : ¬ F 2 := fun h => (hF _ h).1 rfl
 have n2 : ¬ F 0 := fun h => (hF _ h).2 rfl
 exact ⟨(cell_ext e (cell_lt' g.c0) n1).trans g.c0, (cell_ext e (cell_lt' g.c1) n1).trans g.c1, (cell_ext e (cell_lt' g.u0) n2).trans g.u0, (cell_ext e (cell_lt' g.u1) n2).trans g.u1⟩
theorem Gd.keep {σ' : Hp} (g : Gd σ) (e : Ext F σ σ') (hF : ¬ F 1) : Gd σ' := ⟨(cell_ext e (cell_lt' g.d0) hF).trans g.d0, (cell_ext e (cell_lt' g.d1) hF).trans g.d1⟩
theorem Gd.keep0 {σ' : Hp} (g : Gd σ) (e : Ext0 σ σ') : Gd σ' := g.keep e id
theorem Gl.keep0 {σ' : Hp} (g : Gl σ) (e : Ext0 σ σ') : Gl σ' := g.keep e fun _ h => h.elim
theorem Off.grow (hF : Off F) (g : Gl σ) : Off (Grow F σ) := fun b hb => by
 rcases hb with h | h
 ·exact hF b h
 ·have h1 := cell_lt' g.c0; have h2 := cell_lt' g.u0
  exact ⟨by omega, by omega⟩
theorem Off.sub {G : Rg} (hF : Off F) (h : ∀ b, G b -> F b) : Off G := fun b hb => hF b (h b hb)
def pgC : Nat -> Bool × Bool
 | 0 => (false, false)
 | 1 => (true, false)
 | _ => (true, true)
def pgV (st : List Nat) : List Value := st.flatMap fun x => [.bool (pgC x).1, .bool (pgC x).2]
theorem pgV_len (l : List Nat) : (pgV l).length = 2 * l.length := by
 induction l with
 | nil => rfl
 | cons x l ih => simp only [pgV, List.flatMap_cons, List.length_append, List.length_cons, List.length_nil] at *; omega
theorem pgV_get {l : List Nat} {i x : Nat} (h : l[i]? = some x) : (pgV l)[2 * i]? = some (.bool (pgC x).1) /\ (pgV l)[2 * i + 1]? = some (.bool (pgC x).2) := by
 induction l generalizing i with
 | nil => simp at h
 | cons y l ih =>
  have e : pgV (y :: l) = [.bool (pgC y).1, .bool (pgC y).2] ++ pgV l := by simp [pgV]
  rw [e]
  cases i with
  | zero => simp at h; subst h; simp
  | succ i =>
   have := ih (i := i) (by simpa using h)
   rw [show 2 * (i + 1) = 2 * i + 2 by omega]
   simpa using this
theorem pgV_set {l : List Nat} {i v : Nat} (h : i < l.length) (rest : List Value) : ((pgV l ++ rest).set (2 * i) (.bool (pgC v).1)).set (2 * i + 1) (.bool (pgC v).2) = pgV (l.set i v) ++ rest := by
 induction l generalizing i with
 | nil => simp at h
 | cons y l ih =>
  have e : ∀ z m, pgV (z :: m) = .bool (pgC z).1 :: .bool (pgC z).2 :: pgV m := fun z m => by simp [pgV]
  cases i with
  | zero => simp [e]
  | succ i =>
   have := ih (i := i) (by simpa using h)
   rw [List.set_cons_succ, e, e, show 2 * (i + 1) = 2 * i + 1 + 1 by omega]
   simp only [List.cons_append, List.set_cons_succ]
   rw [this]
theorem pgC_eq {x y : Nat} (hx : x <= 2) (hy : y <= 2) : (((pgC x).1 == (pgC y).1) && (((pgC x).2 == (pgC y).2) && true)) = (x == y) := by
 match x, y, hx, hy with
 | 0, 0, _, _ => rfl
 | 1, 1, _, _ => rfl
 | 2, 2, _, _ => rfl
 | 0, 1, _, _ => rfl
 | 0, 2, _, _ => rfl
 | 1, 0, _, _ => rfl
 | 1, 2, _, _ => rfl
 | 2, 0, _, _ => rfl
 | 2, 1, _, _ => rfl
theorem mget_cons {α : Type} (x : Int × α) (l : List (Int × α)) (k : Int) : mget (x :: l) k = if x.1 = k then some x.2 else mget l k := by
 unfold mget
 rw [List.find?_cons]
 by_cases h : x.1 = k
 ·simp [h]
 ·have : (x.1 == k) = false := by simpa using h
  rw [this, if_neg h]
theorem mget_map {α : Type} (l : List (Int × α)) (n k : Int) (v : α) : mget (l.map fun x => if x.1 == n then (n, v) else x) k = if k = n then (if l.any (fun x => x.1 == n) then some v else none) else mget l k := by
 induction l with
 | nil => simp [mget]
 | cons x l ih =>
  rw [List.map_cons, mget_cons, ih, mget_cons, List.any_cons]
  by_cases hx : x.1 = n
  ·by_cases hk : k = n
   ·subst hk; simp [hx]
   ·have : ¬ n = k := fun e => hk e.symm
    simp [hx, hk, this]
  ·have hx' : (x.1 == n) = false := by simpa using hx
   simp only [hx', Bool.false_eq_true, if_false, Bool.false_or]
   by_cases hk : k = n
   ·subst hk; simp [hx]
   ·simp [hk]
theorem mget_snoc {α : Type} (l : List (Int × α)) (n k : Int) (v : α) (h : l.any (fun x => x.1 == n) = false) : mget (l ++ [(n, v)]) k = if k = n then some v else mget l k := by
 induction l with
 | nil =>
  rw [List.nil_append, mget_cons]
  by_cases hk : k = n
  ·simp [hk]
  ·have : ¬ n = k := fun e => hk e.symm
   simp [hk, this, mget]
 | cons x l ih =>
  rw [List.any_cons, Bool.or_eq_false_iff] at h
  rw [List.cons_append, mget_cons, ih h.2, mget_cons]
  have hx : ¬ x.1 = n := by simpa using h.1
  by_cases hk : k = n
  ·subst hk; simp [hx]
  ·simp [hk]
theorem mget_mset {α : Type} (l : List (Int × α)) (n k : Int) (v : α) : mget (mset l n v) k = if k = n then some v else mget l k := by
 unfold mset
 cases h : l.any (fun x => x.1 == n)
 ·rw [if_neg (by simp), mget_snoc l n k v h]
 ·rw [if_pos rfl, mget_map, h]; simp
theorem mget_mdel {α : Type} (l : List (Int × α)) (n k : Int) : mget (mdel l n) k = if k = n then none else mget l k := by
 unfold mdel
 induction l with
 | nil => simp [mget]
 | cons x l ih =>
  rw [List.filter_cons, mget_cons]
  by_cases hx : x.1 = n
  ·have : (!(x.1 == n)) = false := by simp [hx]
   rw [this]
   simp only [Bool.false_eq_true, if_false, ih]
   by_cases hk : k = n
   ·simp [hk]
   ·have : ¬ x.1 = k := fun e => hk (e.symm.trans hx)
    simp [hk, this]
  ·have : (!(x.1 == n)) = true := by simpa using hx
   rw [this, if_pos rfl, mget_cons, ih]
   by_cases hk : k = n
   ·subst hk; simp [hx]
   ·simp [hk]
theorem mget_isSome {α : Type} {l : List (Int × α)} {k : Int} : (mget l k).isSome = true ↔ k ∈ l.map (·.1) := by
 unfold mget
 rw [Option.isSome_map, List.find?_isSome]
 simp
def WdH (σ : Hp) (s : Sl) (b : Nat) (f : Nat -> Int) : Prop := s.a = some ⟨b, 0, none⟩ /\ s.len = 32 /\ 32 <= s.cap /\ ∃ cs, Blk σ b cs /\ 32 <= cs.length /\ ∀ j, j < 32 -> cs[j]? = some (.int .i64 (f j))
structure SpH2 (σ : Hp) (F : Rg) (p q r : Nat) (l : List (Int × Sl)) (B : Nat -> Nat) (sp : Sp) : Prop where
 hd : ∃ cap, sp.st.length <= cap /\ Blk σ p [.slice (some ⟨q, 0, none⟩) sp.st.length cap, .map (some r), .int .i64 (sp.pk : Int)]
 row : ∃ rest, Blk σ q (pgV sp.st ++ rest)
 map : MapL σ r .i64 .s l
 keys : ∀ x : Int, (mget l x).isSome = true ↔ ∃ k : Nat, x = k /\ sp.st[k]? = some 2
 wd : ∀ (k : Nat) s, mget l (k : Int) = some s -> WdH σ s (B k) fun j => sp.wd (32 * k + j)
 inj : ∀ k k' : Nat, sp.st[k]? = some 2 -> sp.st[k']? = some 2 -> B k = B k' -> k = k'
 out : ∀ k : Nat, sp.st[k]? = some 2 -> F (B k) /\ B k ≠ p /\ B k ≠ q /\ B k ≠ r
 fs : F p /\ F q /\ F r /\ p ≠ q /\ p ≠ r /\ q ≠ r
 zero : ∀ w : Nat, sp.st[w / 32]? ≠ some 2 -> sp.wd w = 0
 n1 : 1 <= sp.st.length
 n2 : sp.st.length <= 1024
 le2 : ∀ x ∈ sp.st, x <= 2
 pk : sp.pk <= 1024
def SpH3 (σ : Hp) (F : Rg) (p : Nat) (sp : Sp) : Prop := ∃ q r l B, SpH2 σ F p q r l B sp
theorem SpH2.entry {l : List (Int × Sl)} {B : Nat -> Nat} (h : SpH2 σ F p q r l B sp) {k : Nat} (hk : sp.st[k]? = some 2) : ∃ s, mget l (k : Int) = some s /\ WdH σ s (B k) fun j => sp.wd (32 * k + j) := by
 have := (h.keys (k : Int)).2 ⟨k, rfl, hk⟩
 obtain ⟨s, hs⟩ := Option.isSome_iff_exists.1 this
 exact ⟨s, hs, h.wd k s hs⟩
theorem SpH2.dirty {l : List (Int × Sl)} {B : Nat -> Nat} (h : SpH2 σ F p q r l B sp) {k : Nat} {s : Sl} (hs : mget l (k : Int) = some s) : sp.st[k]? = some 2 := by
 obtain ⟨k', e, hk⟩ := (h.keys (k : Int)).1 (by rw [hs]; rfl)
 have : k = k' := by omega
 subst this; exact hk
theorem SpH3.loc : Lcl fun σ F => SpH3 σ F p sp := fun σ σ' F G ⟨q, r, l, B, h⟩ hz hs => by
 have kb : ∀ {b : Nat} {cs : List Value}, Blk σ b cs -> F b -> Blk σ' b cs /\ G b := by
  rintro b cs ⟨e, he⟩ hf
  have := hs b (Blk.lt ⟨e, he⟩) hf
  exact ⟨⟨e, this.2.trans he⟩, this.1⟩
 obtain ⟨c, hc, hd⟩ := h.hd
 obtain ⟨rest, hrow⟩ := h.row
 obtain ⟨es, clk, hr, hm⟩ := h.map
 have hrr := hs r (Array.getElem?_eq_some_iff.1 hr).1 h.fs.2.2.1
 refine ⟨q, r, l, B, ⟨c, hc, (kb hd h.fs.1).1⟩, ⟨rest, (kb hrow h.fs.2.1).1⟩, ⟨es, clk, hrr.2.trans hr, hm⟩, h.keys, fun k s hk => ?_, h.inj, fun k hk => ?_, ⟨(kb hd h.fs.1).2, (kb hrow h.fs.2.1).2, hrr.1, h.fs.2.2.2⟩, h.zero, h.n1, h.n2, h.le2, h.pk⟩
 ·obtain ⟨w1, w2, w3, cs, w4, w5⟩ := h.wd k s hk
  exact ⟨w1, w2, w3, cs, (kb w4 (h.out k (h.dirty hk)).1).1, w5⟩
 ·obtain ⟨s, hsk, w1, w2, w3, cs, w4, w5⟩ := h.entry hk
  exact ⟨(kb w4 (h.out k hk).1).2, (h.out k hk).2⟩
theorem SpH3.keep0 {σ' : Hp} (h : SpH3 σ F p sp) (e : Ext0 σ σ') : SpH3 σ' F p sp := Lcl.keep0 SpH3.loc h e
variable {l : List (Int × Sl)} {B : Nat -> Nat}
theorem SpH2.rS (h : SpH2 σ F p q r l B sp) {K : Sl -> Prop} (hK : ∀ cap, sp.st.length <= cap -> K ⟨some ⟨q, 0, none⟩, sp.st.length, cap⟩) : LdS (Addr.add ⟨p, 0, none⟩ 0) σ K := by
 obtain ⟨c, hc, hd⟩ := h.hd
 exact hd.rS rfl (hK c hc)
theorem SpH2.rM (h : SpH2 σ F p q r l B sp) {K : Option Nat -> Prop} (hK : K (some r)) : LdM (Addr.add ⟨p, 0, none⟩ 1) σ K := by
 obtain ⟨c, hc, hd⟩ := h.hd
 exact hd.rM rfl hK
theorem SpH2.rPg (h : SpH2 σ F p q r l B sp) {i x : Nat} (hx : sp.st[i]? = some x) {K : Bool -> Bool -> Prop} (hK : K (pgC x).1 (pgC x).2) : LdB (Addr.add ⟨q, 2 * i, none⟩ 0) σ fun a => LdB (Addr.add ⟨q, 2 * i, none⟩ 1) σ fun b => K a b := by
 obtain ⟨rest, hrow⟩ := h.row
 have hi := (List.getElem?_eq_some_iff.1 hx).1
 have hg := pgV_get hx
 refine hrow.rB (x := (pgC x).1) ?_ (hrow.rB (x := (pgC x).2) ?_ hK)
 ·rw [Nat.add_zero, List.getElem?_append_left (by rw [pgV_len]; omega)]; exact hg.1
 ·rw [List.getElem?_append_left (by rw [pgV_len]; omega)]; exact hg.2
theorem smade_ok' (h : SpH3 σ F p sp) {R : Bool -> Hp -> Prop} (hR : R true σ) : space_Space_made.call (some ⟨p, 0, none⟩) σ R := by
 refine space_Space_made.of_vc ?_
 unfold space_Space_made.vc
 obtain ⟨q, r, l, B, h⟩ := h
 have := h.n1
 refine JnB.intro (ifT rfl (nilP (h.rS fun cap _ => ?_)))
 rw [decide_eq_true (by simp only; omega)]
 exact hR
theorem Pages_ok (h : SpH3 σ F p sp) {R : Int -> Hp -> Prop} (hR : R (sp.st.length : Int) σ) : space_Space_Pages.call (some ⟨p, 0, none⟩) σ R := by
 refine space_Space_Pages.of_vc ?_
 unfold space_Space_Pages.vc
 have h' := h
 obtain ⟨q, r, l, B, h⟩ := h
 exact smade_ok' h' (ifF rfl (nilP (h.rS fun cap _ => hR)))
theorem SpH2.len_l (h : SpH2 σ F p q r l B sp) : l.length = sp.st.count 2 := by
 have hn := h.map.nodup
 have hp : (l.map (·.1)).Perm (((List.range sp.st.length).filter fun k => sp.st[k]? == some 2).map fun k => ((k : Nat) : Int)) := by
  rw [List.perm_ext_iff_of_nodup hn]
  ·intro x
   rw [← mget_isSome, h.keys]
   simp only [List.mem_map, List.mem_filter, List.mem_range, beq_iff_eq]
   constructor
   ·rintro ⟨k, rfl, hk⟩
    exact ⟨k, ⟨(List.getElem?_eq_some_iff.1 hk).1, hk⟩, rfl⟩
   ·rintro ⟨k, ⟨_, hk⟩, rfl⟩
    exact ⟨k, rfl, hk⟩
  ·have hnd : ((List.range sp.st.length).filter fun k => sp.st[k]? == some 2).Pairwise (· ≠ ·) := List.Pairwise.sublist List.filter_sublist List.nodup_range
   exact List.Pairwise.map _ (fun a b (hne : a ≠ b) hab => hne (by exact_mod_cast hab)) hnd
 have hl := hp.length_eq
 simp only [List.length_map] at hl
 rw [hl, ← List.countP_eq_length_filter]
 have key : ∀ st : List Nat, (List.range st.length).countP (fun k => st[k]? == some 2) = st.count 2 := by
  intro st
  induction st with
  | nil => rfl
  | cons x st ih =>
   rw [List.length_cons, List.range_succ_eq_map, List.countP_cons, List.countP_map, List.count_cons, ← ih]
   congr 1
 exact key sp.st
end Go.Ar
namespace Go.Ar
open Go Go.Vc Go.Proofs
open Go.Bu (runOk)


variable {σ : Hp} {F : Rg} {p q r : Nat} {sp : Sp} {l : List (Int × Sl)} {B : Nat -> Nat}
theorem pgV_take (l : List Nat) (n : Nat) : pgV (l.take n) = (pgV l).take (2 * n) := by
 induction l generalizing n with
 | nil => simp [pgV]
 | cons y l ih =>
  have e : ∀ z m, pgV (z :: m) = .bool (pgC z).1 :: .bool (pgC z).2 :: pgV m := fun z m => by simp [pgV]
  cases n with
  | zero => simp [pgV]
  | succ n =>
   rw [List.take_succ_cons, e, e, ih, show 2 * (n + 1) = 2 * n + 1 + 1 by omega]
   simp
theorem pgV_drop (l : List Nat) (n : Nat) : pgV (l.drop n) = (pgV l).drop (2 * n) := by
 induction l generalizing n with
 | nil => simp [pgV]
 | cons y l ih =>
  have e : ∀ z m, pgV (z :: m) = .bool (pgC z).1 :: .bool (pgC z).2 :: pgV m := fun z m => by simp [pgV]
  cases n with
  | zero => simp [pgV]
  | succ n =>
   rw [List.drop_succ_cons, e, ih, show 2 * (n + 1) = 2 * n + 1 + 1 by omega]
   simp
theorem pgV_rep (n v : Nat) : pgV (List.replicate n v) = (List.replicate n [Value.bool (pgC v).1, .bool (pgC v).2]).flatten := by
 induction n with
 | zero => rfl
 | succ n ih => rw [List.replicate_succ, List.replicate_succ, List.flatten_cons, ← ih]; simp [pgV]
theorem _root_.Go.Vc.SlR.rPg {s : Sl} {l : List Nat} (h : SlR s 2 (pgV l) σ F) {i x : Nat} (hx : l[i]? = some x) {K : Bool -> Bool -> Prop} (hK : K (pgC x).1 (pgC x).2) :
 Ix s.a s.len (i : Int) 2 fun a => LdB (a.add 0) σ fun u => LdB (a.add 1) σ fun w => K u w := by
 have hi := (List.getElem?_eq_some_iff.1 hx).1
 have hg := pgV_get hx
 obtain ⟨b, o, ha, hc⟩ := h.cell hg.1
 obtain ⟨b1, o1, ha1, hc1⟩ := h.cell hg.2
 rw [ha] at ha1; cases ha1
 have hl := h.1
 rw [pgV_len] at hl
 rw [ha]
 refine ix (by omega) (by omega) ?_
 rw [add_lit]
 refine ldB ?_ (ldB ?_ hK) <;> rw [add_lit]
 ·rw [show o + (i : Int).toNat * 2 + 0 = o + 2 * i by omega]; exact hc
 ·rw [show o + (i : Int).toNat * 2 + 1 = o + (2 * i + 1) by omega]; exact hc1
theorem _root_.Go.Vc.SlR.lenP {s : Sl} {l : List Nat} (h : SlR s 2 (pgV l) σ F) : s.len = l.length := by
 have := h.1; rw [pgV_len] at this; omega
theorem pIndex_ok {s : Sl} {xs : List Nat} (h : SlR s 2 (pgV xs) σ F) (hl : xs.length <= 1000000) (h2 : ∀ x ∈ xs, x <= 2) {v : Nat} (hv : v <= 2) {R : Int -> Hp -> Prop}
 (hR : ∀ (t : Int) σ', Ext0 σ σ' -> decide (t ≥ 0) = xs.contains v -> R t σ') : slices_Index_space_page_space_page.call s (pgC v).1 (pgC v).2 σ R := by
 refine slices_Index_space_page_space_page.of_vc ?_
 unfold slices_Index_space_page_space_page.vc
 have hlen := h.lenP
 refine nw (cs := [.bool (pgC v).1, .bool (pgC v).2]) fun w hz e hb => ?_
 have h := (SlR.loc _ _ _).keep0 h e
 refine loop1 (a := .i .i64) (fun (t : Int) h' => ∃ i : Nat, t = (i : Int) /\ i <= xs.length /\ h' = w /\ ∀ j, j < i -> xs[j]? ≠ some v) (fun t _ => xs.length - t.toNat) ⟨0, rfl, by omega, rfl, fun j hj => by omega⟩ ?_
 rintro t h' ⟨i, rfl, hi, rfl, hno⟩
 refine ifD (fun hlt => ?_) fun hge => ?_
 ·have hi' : i < xs.length := by omega
  have hx : xs[i]? = some xs[i] := List.getElem?_eq_getElem hi'
  refine hb.rB rfl (hb.rB rfl (h.rPg hx ?_))
  rw [pgC_eq hv (h2 _ (List.getElem_mem hi'))]
  refine iff_ (fun he => ?_) fun he => ?_
  ·have : v = xs[i] := by simpa using he
   refine hR _ _ e ?_
   have hc : xs.contains v = true := by rw [this]; simp
   rw [hc, decide_eq_true (by omega)]
  ·have he' : ¬ v = xs[i] := by simpa using he
   refine arN (m := i + 1) (by omega) (by omega) ⟨⟨i + 1, rfl, by omega, rfl, fun j hj => ?_⟩, by omega⟩
   by_cases e : j = i
   ·subst e; rw [hx]; intro e2; cases e2; exact he' rfl
   ·exact hno j (by omega)
 ·refine hR _ _ e ?_
  have : xs.contains v = false := by
   simp only [List.contains_eq_mem, decide_eq_false_iff_not]
   intro hm
   obtain ⟨j, hj⟩ := List.getElem?_of_mem hm
   have := (List.getElem?_eq_some_iff.1 hj).1
   exact hno j (by omega) hj
  rw [this]; rfl
theorem pContains_ok {s : Sl} {xs : List Nat} (h : SlR s 2 (pgV xs) σ F) (hl : xs.length <= 1000000) (h2 : ∀ x ∈ xs, x <= 2) {v : Nat} (hv : v <= 2) {R : Bool -> Hp -> Prop}
 (hR : ∀ σ', Ext0 σ σ' -> R (xs.contains v) σ') : slices_Contains_space_page_space_page.call s (pgC v).1 (pgC v).2 σ R := by
 refine slices_Contains_space_page_space_page.of_vc ?_
 unfold slices_Contains_space_page_space_page.vc
 refine nw (cs := [.bool (pgC v).1, .bool (pgC v).2]) fun w hz e hb => hb.rB rfl (hb.rB rfl ?_)
 refine pIndex_ok ((SlR.loc _ _ _).keep0 h e) hl h2 hv fun t σ' e' ht => ?_
 rw [ht]; exact hR σ' (Ext.trans e e')
theorem mapped1_ok (g : Gl σ) {x : Nat} (hx : x <= 2) {R : Bool -> Hp -> Prop} (hR : ∀ σ', Ext0 σ σ' -> R (x != 0) σ') : space_Space_Map_L1.call (pgC x).1 (pgC x).2 σ R := by
 refine space_Space_Map_L1.of_vc ?_
 unfold space_Space_Map_L1.vc
 refine nw (cs := [.bool (pgC x).1, .bool (pgC x).2]) fun v hz e hb => hb.rB rfl (hb.rB rfl ?_)
 have g := g.keep0 e
 refine ldB (by rw [← g.u0]; rfl) (ldB (by rw [← g.u1]; rfl) ?_)
 have e0 : (((pgC x).1 == false) && (((pgC x).2 == false) && true)) = (x == 0) := pgC_eq hx (y := 0) (by omega)
 rw [e0]
 exact hR v e
theorem pAny_ok {s : Sl} {xs : List Nat} (h : SlR s 2 (pgV xs) σ F) (g : Gl σ) (hl : xs.length <= 1000000) (h2 : ∀ x ∈ xs, x <= 2) {R : Bool -> Hp -> Prop}
 (hR : ∀ σ', Ext0 σ σ' -> R (xs.any (· != 0)) σ') : slices_ContainsFunc_space_page_space_page.call s ⟨281, #[], #[]⟩ σ R := by
 refine slices_ContainsFunc_space_page_space_page.of_vc ?_
 unfold slices_ContainsFunc_space_page_space_page.vc
 refine slices_IndexFunc_space_page_space_page.of_vc ?_
 unfold slices_IndexFunc_space_page_space_page.vc
 have hlen := h.lenP
 refine loop1 (a := .i .i64) (fun (t : Int) h' => ∃ i : Nat, t = (i : Int) /\ i <= xs.length /\ Ext0 σ h' /\ ∀ (j x : Nat), j < i -> xs[j]? = some x -> x = 0) (fun t _ => xs.length - t.toNat) ⟨0, rfl, by omega, Ext.refl _ _, fun j x hj => by omega⟩ ?_
 rintro t w ⟨i, rfl, hi, e, hno⟩
 refine ifD (fun hlt => ?_) fun hge => ?_
 ·have hi' : i < xs.length := by omega
  have hx : xs[i]? = some xs[i] := List.getElem?_eq_getElem hi'
  refine ((SlR.loc _ _ _).keep0 h e).rPg hx ?_
  refine callF (all := #[.agg #[.bool (pgC xs[i]).1, .bool (pgC xs[i]).2]]) (by kernel_rfl) (by simp) ?_
  refine mapped1_ok (g.keep0 e) (h2 _ (List.getElem_mem hi')) fun w' e' => ?_
  refine iff_ (fun he => ?_) fun he => ?_
  ·have : xs.any (· != 0) = true := List.any_eq_true.2 ⟨_, List.getElem_mem hi', he⟩
   have := hR w' (Ext.trans e e')
   rw [‹xs.any (· != 0) = true›] at this
   show R (decide ((i : Int) ≥ 0)) _
   rw [decide_eq_true (by omega)]; exact this
  ·have he' : xs[i] = 0 := by simpa using he
   refine arN (m := i + 1) (by omega) (by omega) ⟨⟨i + 1, rfl, by omega, Ext.trans e e', fun j x hj hjx => ?_⟩, by omega⟩
   by_cases e : j = i
   ·subst e; rw [hx] at hjx; cases hjx; exact he'
   ·exact hno j x (by omega) hjx
 ·have : xs.any (· != 0) = false := by
   rw [List.any_eq_false]
   intro x hm
   obtain ⟨j, hj⟩ := List.getElem?_of_mem hm
   have := (List.getElem?_eq_some_iff.1 hj).1
   simpa using hno j x (by omega) hj
  have := hR w e
  rw [‹xs.any (· != 0) = false›] at this
  exact this
theorem SpH2.part (h : SpH2 σ F p q r l B sp) {x y c : Nat} (hl : x + y <= sp.st.length) : SlR ⟨some ⟨q, 2 * x, none⟩, y, c⟩ 2 (pgV ((sp.st.drop x).take y)) σ F := by
 obtain ⟨rest, hrow⟩ := h.row
 have hlen : (pgV ((sp.st.drop x).take y)).length = y * 2 := by rw [pgV_len, List.length_take, List.length_drop]; omega
 refine ⟨hlen, .inr ⟨q, 2 * x, _, h.fs.2.1, rfl, hrow.q, fun j hj => ?_⟩⟩
 rw [hlen] at hj
 rw [List.getElem?_append_left (by rw [pgV_len]; omega), pgV_take, pgV_drop, List.getElem?_take, if_pos (by omega), List.getElem?_drop]
theorem run_ok (h : SpH3 σ F p sp) (a m : Int) {R : Sl -> Int -> Hp -> Prop} (h0 : runOk sp.st.length a m = false -> R ⟨none, 0, 0⟩ 1 σ)
 (h1 : ∀ (x y : Nat) s, a = x -> m = y -> 1 <= y -> x + y <= sp.st.length -> SlR s 2 (pgV ((sp.st.drop x).take y)) σ F -> R s 0 σ) : space_Space_run.call (some ⟨p, 0, none⟩) a m σ R := by
 refine space_Space_run.of_vc ?_
 unfold space_Space_run.vc
 have h' := h
 obtain ⟨q, r, l, B, h⟩ := h
 have n2 := h.n2
 have bad : ¬ (0 <= a /\ 1 <= m /\ m <= sp.st.length - a) -> R ⟨none, 0, 0⟩ 1 σ := fun hn => h0 (by simp only [runOk, ← Bool.decide_and]; exact decide_eq_false hn)
 refine smade_ok' h' (ifF rfl (JnB.intro (ifD (fun c1 => JnB.intro (ifT rfl (JnB.intro (ifT rfl (ifT rfl (bad (by omega))))))) fun c1 => ?_)))
 refine JnB.intro (ifD (fun c2 => JnB.intro (ifT rfl (ifT rfl (bad (by omega))))) fun c2 => nilP (h.rS fun cap hc => ?_))
 simp only
 refine JnB.intro (ifD (fun c3 => ifT rfl (bad (by omega))) fun c3 => ?_)
 refine nilP (h.rS fun cap hc => ar (by simp only; omega) (by simp only; omega) ?_)
 simp only
 refine ifD (fun c4 => bad (by omega)) fun c4 => ?_
 obtain ⟨x, rfl⟩ := Int.eq_ofNat_of_zero_le (show 0 <= a by omega)
 obtain ⟨y, rfl⟩ := Int.eq_ofNat_of_zero_le (show 0 <= m by omega)
 refine nilP (h.rS fun cap hc => arN (m := x + y) (by omega) (by omega) ?_)
 refine slc (by omega) (by simp only; omega) (Nat.le_refl _) ?_
 simp only
 rw [if_neg (by omega)]
 refine h1 x y _ rfl rfl (by omega) (by omega) ?_
 have := h.part (x := x) (y := y) (c := cap - x) (by omega)
 have e : (Option.map (fun (u : Addr) => u.add (x * 2)) (some (⟨q, 0, none⟩ : Addr))) = some ⟨q, 2 * x, none⟩ := by
  simp only [Option.map_some, add_lit]; congr 2; omega
 rw [e, Nat.add_sub_cancel_left]
 exact this
def Sp.set1 (s : Sp) (k v : Nat) : Sp := { s with st := s.st.set k v, wd := fun w => if k * 32 <= w /\ w < (k + 1) * 32 then 0 else s.wd w }
theorem set_le2 {st : List Nat} (h : ∀ x ∈ st, x <= 2) {k v : Nat} (hv : v <= 2) : ∀ x ∈ st.set k v, x <= 2 := by
 intro x hx
 rcases List.mem_or_eq_of_mem_set hx with h1 | h1
 ·exact h x h1
 ·omega
theorem SpH2.set1 (h : SpH2 σ F p q r l B sp) {k v : Nat} (hk : k < sp.st.length) (hv : v <= 1) {σ' : Hp} (e : Ext (fun b => b = q ∨ b = r) σ σ') {rest : List Value}
 (hb : Blk σ' q (pgV (sp.st.set k v) ++ rest)) (hm : MapL σ' r .i64 .s (mdel l (k : Int))) : SpH2 σ' F p q r (mdel l (k : Int)) B (sp.set1 k v) := by
 have g2 : ∀ j : Nat, (sp.st.set k v)[j]? = some 2 ↔ j ≠ k /\ sp.st[j]? = some 2 := fun j => by
  rw [List.getElem?_set]
  by_cases hjk : k = j
  ·subst hjk
   rw [if_pos rfl, if_pos hk]
   constructor
   ·intro h; have : v = 2 := by simpa using h
    omega
   ·intro h; exact absurd rfl h.1
  ·rw [if_neg hjk]; exact ⟨fun h => ⟨fun e => hjk e.symm, h⟩, fun h => h.2⟩
 obtain ⟨c, hc, hd⟩ := h.hd
 have np : ¬ (p = q ∨ p = r) := by have := h.fs; omega
 refine ⟨⟨c, by simpa [Sp.set1] using hc, by simpa [Sp.set1] using e.blk hd np⟩, ⟨rest, hb⟩, hm, fun x => ?_, fun j s hs => ?_, fun j j' h1 h2 => ?_, fun j hj => ?_, h.fs, fun w hw => ?_, by simpa [Sp.set1] using h.n1, by simpa [Sp.set1] using h.n2, set_le2 h.le2 (by omega), h.pk⟩
 ·rw [mget_mdel]
  by_cases hx : x = (k : Int)
  ·rw [if_pos hx]
   constructor
   ·intro h; cases h
   ·rintro ⟨j, rfl, hj⟩
    have := (g2 j).1 hj
    omega
  ·rw [if_neg hx, h.keys]
   constructor
   ·rintro ⟨j, rfl, hj⟩; exact ⟨j, rfl, (g2 j).2 ⟨by omega, hj⟩⟩
   ·rintro ⟨j, rfl, hj⟩; exact ⟨j, rfl, ((g2 j).1 hj).2⟩
 ·rw [mget_mdel] at hs
  by_cases hx : (j : Int) = (k : Int)
  ·rw [if_pos hx] at hs; cases hs
  ·rw [if_neg hx] at hs
   obtain ⟨w1, w2, w3, cs, w4, w5, w6⟩ := h.wd j s hs
   have ho := h.out j (h.dirty hs)
   refine ⟨w1, w2, w3, cs, e.blk w4 (by omega), w5, fun i hi => ?_⟩
   rw [w6 i hi]
   simp only [Sp.set1]
   rw [if_neg (by omega)]
 ·exact h.inj j j' ((g2 j).1 h1).2 ((g2 j').1 h2).2
 ·exact h.out j ((g2 j).1 hj).2
 ·simp only [Sp.set1] at hw ⊢
  by_cases hin : k * 32 <= w /\ w < (k + 1) * 32
  ·rw [if_pos hin]
  ·rw [if_neg hin]
   refine h.zero w fun h2 => hw ((g2 _).2 ⟨by omega, h2⟩)
theorem Sp.set_zero (s : Sp) (a v : Nat) : s.set a 0 v = s := by
 have h1 : setR s.st a (a + 0) v = s.st := by
  apply List.ext_getElem?
  intro i
  rw [setR_get]
  cases s.st[i]? with
  | none => rfl
  | some x => simp only [Option.map_some]; rw [if_neg (by omega)]
 have h2 : (fun w => if a * 32 <= w /\ w < (a + 0) * 32 then 0 else s.wd w) = s.wd := by
  funext w; rw [if_neg (by omega)]
 simp only [Sp.set, h1, h2]
theorem Sp.set_succ (s : Sp) (a m v : Nat) (h : a + m < s.st.length) : (s.set a m v).set1 (a + m) v = s.set a (m + 1) v := by
 have h1 : (setR s.st a (a + m) v).set (a + m) v = setR s.st a (a + (m + 1)) v := by
  apply List.ext_getElem?
  intro i
  rw [List.getElem?_set, setR_get, setR_get, setR_len]
  by_cases hi : a + m = i
  ·subst hi
   rw [if_pos rfl, if_pos h, List.getElem?_eq_getElem h, Option.map_some, if_pos (by omega)]
  ·rw [if_neg hi]
   cases s.st[i]? with
   | none => rfl
   | some x =>
    simp only [Option.map_some]
    by_cases hin : a <= i /\ i < a + m
    ·rw [if_pos hin, if_pos (by omega)]
    ·rw [if_neg hin, if_neg (by omega)]
 have h2 : (fun w => if (a + m) * 32 <= w /\ w < (a + m + 1) * 32 then 0 else (if a * 32 <= w /\ w < (a + m) * 32 then 0 else s.wd w)) = fun w => if a * 32 <= w /\ w < (a + (m + 1)) * 32 then 0 else s.wd w := by
  funext w
  by_cases h1 : (a + m) * 32 <= w /\ w < (a + m + 1) * 32
  ·rw [if_pos h1, if_pos (by omega)]
  ·rw [if_neg h1]
   by_cases h2 : a * 32 <= w /\ w < (a + m) * 32
   ·rw [if_pos h2, if_pos (by omega)]
   ·rw [if_neg h2, if_neg (by omega)]
 simp only [Sp.set, Sp.set1, h1, h2]
theorem sset_ok (h : SpH3 σ F p sp) {x y v : Nat} (hl : x + y <= sp.st.length) (hv : v <= 1) {R : Hp -> Prop} (hR : ∀ σ', Ext F σ σ' -> SpH3 σ' F p (sp.set x y v) -> R σ') :
 space_Space_set.call (some ⟨p, 0, none⟩) x y (pgC v).1 (pgC v).2 σ R := by
 refine space_Space_set.of_vc ?_
 unfold space_Space_set.vc
 have hn2 : sp.st.length <= 1024 := by obtain ⟨q, r, l, B, h⟩ := h; exact h.n2
 have hcut : SpH3 σ (Cut F σ) p sp := Lcl.cut SpH3.loc h
 refine nw (cs := [.bool (pgC v).1, .bool (pgC v).2]) fun u hz e hb => ?_
 have hc := hcut.keep0 e
 refine loop1 (a := .i .i64) (fun (t : Int) w => ∃ i : Nat, t = ((x + i : Nat) : Int) /\ i <= y /\ Ext (Cut F σ) u w /\ Blk w σ.size [.bool (pgC v).1, .bool (pgC v).2] /\ SpH3 w (Cut F σ) p (sp.set x i v)) (fun t _ => x + y - t.toNat)
  ⟨0, rfl, by omega, Ext.refl _ _, hb, by rw [Sp.set_zero]; exact hc⟩ ?_
 rintro t w ⟨i, rfl, hi, ew, hbw, q, r, l, B, hw⟩
 refine arN (m := x + y) (by omega) (by omega) (ifD (fun hlt => ?_) fun hge => ?_)
 ·have hlen : (sp.set x i v).st.length = sp.st.length := setR_len _ _ _ _
  refine nilP (hw.rS fun cap hcap => hbw.rB rfl (hbw.rB rfl (ix (by omega) (by simp only; omega) ?_)))
  rw [add_lit, show 0 + ((x + i : Nat) : Int).toNat * 2 = 2 * (x + i) by omega]
  obtain ⟨rest, hrow⟩ := hw.row
  have hk : x + i < (sp.set x i v).st.length := by omega
  refine hrow.s1 (by rw [List.length_append, pgV_len]; omega) fun w1 o1 b1 => b1.s1 (by rw [List.length_set, List.length_append, pgV_len]; omega) fun w2 o2 b2 => ?_
  rw [Nat.add_zero, pgV_set hk] at b2
  have e2 : Ext (· = q) w w2 := o1.ext.trans o2.ext
  obtain ⟨c, hc', hd⟩ := hw.hd
  have hd2 := e2.blk hd hw.fs.2.2.2.1
  refine nilP (hd2.rM rfl ⟨l, e2.mapL hw.map (fun e => hw.fs.2.2.2.2.2 e.symm), fun w3 ho3 _ hm3 => ?_⟩)
  have o3 := ho3 r rfl
  have e3 : Ext (fun b => b = q ∨ b = r) w w3 := (e2.sub fun b hb => .inl hb).trans (o3.ext.sub fun b hb => .inr hb)
  have h3 := hw.set1 hk hv e3 (only_blk o3 b2 hw.fs.2.2.2.2.2) hm3
  rw [Sp.set_succ _ _ _ _ (by omega)] at h3
  have e4 : Ext (Cut F σ) w w3 := e3.sub fun b hb => by
   rcases hb with rfl | rfl
   ·exact hw.fs.2.1
   ·exact hw.fs.2.2.1
  refine arN (m := x + (i + 1)) (by omega) (by omega) ⟨⟨i + 1, rfl, by omega, ew.trans e4, e4.blk hbw fun hf => by have := hf.2; omega, _, _, _, _, h3⟩, by omega⟩
 ·have : i = y := by omega
  subst this
  refine hR w (Ext.cut (e.to.trans ew)) (Lcl.mono SpH3.loc ⟨q, r, l, B, hw⟩ fun b _ hb => hb.1)
theorem Map_ok (h : SpH3 σ F p sp) (g : Gl σ) (hF : Off F) (a m : Int) {R : Int -> Hp -> Prop} (hR : ∀ σ', Ext F σ σ' -> SpH3 σ' F p (mapS sp a m) -> R (mapE sp a m) σ') :
 space_Space_Map.call (some ⟨p, 0, none⟩) a m σ R := by
 refine space_Space_Map.of_vc ?_
 unfold space_Space_Map.vc
 have hle : (∀ x ∈ sp.st, x <= 2) /\ sp.st.length <= 1024 := by obtain ⟨q, r, l, B, h⟩ := h; exact ⟨h.le2, h.n2⟩
 refine run_ok h a m (fun hk => ?_) fun x y s hx hy h1 h2 hs => ?_
 ·have e1 : mapE sp a m = 1 := by unfold mapE; rw [hk]; rfl
  have e2 : mapS sp a m = sp := by unfold mapS; rw [e1]; rfl
  have := hR σ (Ext.refl _ _)
  rw [e1, e2] at this
  exact ifT rfl (this h)
 ·subst hx; subst hy
  have hk : runOk sp.st.length (x : Int) (y : Int) = true := by simp only [runOk, Bool.and_eq_true, decide_eq_true_eq]; omega
  refine ifF rfl (pAny_ok hs g (by rw [List.length_take, List.length_drop]; omega) (fun z hz => hle.1 z (List.mem_of_mem_drop (List.mem_of_mem_take hz))) fun σ1 e1 => ?_)
  have em : mapE sp x y = if ((sp.st.drop x).take y).any (· != 0) then 5 else 0 := by unfold mapE; rw [hk]; rfl
  refine iff_ (fun hany => ?_) fun hany => ?_
  ·rw [hany] at em
   have e2 : mapS sp x y = sp := by unfold mapS; rw [em]; rfl
   have := hR σ1 (Ext0.to e1)
   rw [em, e2] at this
   exact this (h.keep0 e1)
  ·rw [hany] at em
   have e2 : mapS sp x y = sp.set x y 1 := by unfold mapS; rw [em]; rfl
   have g1 := g.keep0 e1
   refine ldB (by rw [← g1.c0]; rfl) (ldB (by rw [← g1.c1]; rfl) ?_)
   refine sset_ok (v := 1) (h.keep0 e1) h2 (by omega) fun σ2 e3 h3 => ?_
   have := hR σ2 (Ext.trans (Ext0.to e1) e3)
   rw [em, e2] at this
   exact this h3
end Go.Ar
namespace Go.Ar
open Go Go.Vc Go.Proofs
open Go.Bu (runOk)


variable {σ : Hp} {F : Rg} {p q r : Nat} {sp : Sp} {l : List (Int × Sl)} {B : Nat -> Nat}
theorem access_ok (h : SpH3 σ F p sp) (g : Gl σ) (x : Int) (hx : x <= 1000000000000) {R : Int -> Hp -> Prop} (hR : ∀ σ', Ext0 σ σ' -> R (accE sp x) σ') :
 space_Space_access.call (some ⟨p, 0, none⟩) x 1 σ R := by
 refine space_Space_access.of_vc ?_
 unfold space_Space_access.vc
 have h' := h
 obtain ⟨q, r, l, B, h⟩ := h
 have n2 := h.n2
 have bad : (x < 0 ∨ x % 8 ≠ 0) -> R 7 σ := fun hb => by
  have := hR σ (Ext.refl _ _); unfold accE at this; rw [if_pos hb] at this; exact this
 refine smade_ok' h' (ifF rfl (ifF rfl (JnB.intro (ifD (fun c1 => ifT rfl (bad (.inl c1))) fun c1 => nz (by decide) ?_))))
 obtain ⟨y, rfl⟩ := Int.eq_ofNat_of_zero_le (show 0 <= x by omega)
 refine iff_ (fun c2 => ?_) fun c2 => ?_
 ·refine bad (.inr ?_)
  rw [tmod_nn (by omega)] at c2
  simpa using c2
 have h8 : y % 8 = 0 := by
  rw [tmod_nn (by omega)] at c2
  have : ((y : Int) % 8) = 0 := by simpa using c2
  omega
 have ok : ¬ ((y : Int) < 0 ∨ (y : Int) % 8 ≠ 0) := by omega
 refine nz (by decide) (arN (m := y / 256) (by rw [tdiv_nn (by omega)]; simp) (by omega) (nz (by decide) (arN (m := y / 8) (by rw [tdiv_nn (by omega)]; simp) (by omega) ?_)))
 refine arN (m := y / 8 + 1) (by omega) (by omega) (arN (m := y / 8) (by omega) (by omega) (nz (by decide) (arN (m := y / 256) (by rw [tdiv_nn (by omega)]; simp; omega) (by omega) ?_)))
 have fin : ∀ (b : Bool) σ', Ext0 σ σ' -> (b = true ↔ sp.st.getD (y / 256) 0 = 0) -> If b (R 7 σ') (R 0 σ') := fun b σ' e hb => by
  have := hR σ' e
  unfold accE at this; rw [if_neg ok] at this
  refine iff_ (fun h => ?_) fun h => ?_
  ·rw [if_pos (by simpa using hb.1 h)] at this; exact this
  ·rw [if_neg (fun hn => by rw [hb.2 (by simpa using hn)] at h; cases h)] at this; exact this
 obtain ⟨c, hc, hd⟩ := h.hd
 refine Jn.intro ⟨fun m => Blk m p [.slice (some ⟨q, 0, none⟩) sp.st.length c, .map (some r), .int .i64 (sp.pk : Int)] /\ Gl m, ⟨hd, g⟩, ?_⟩
 refine nilP ⟨⟨some ⟨q, 0, none⟩, sp.st.length, c⟩, fun m hm => by rw [add_lit, hm.1.cell]; rfl, ?_⟩
 refine ifD (fun c3 => ?_) fun c3 => ?_
 ·simp only at c3
  refine fin _ σ (Ext.refl _ _) ⟨fun _ => ?_, fun _ => rfl⟩
  rw [List.getD_eq_getElem?_getD, List.getElem?_eq_none (by omega)]; rfl
 simp only at c3
 refine nilP ⟨⟨some ⟨q, 0, none⟩, sp.st.length, c⟩, fun m hm => by rw [add_lit, hm.1.cell]; rfl, ?_⟩
 refine arN (m := y / 256 + 1) (by omega) (by omega) (slc (by omega) (by simp only; omega) (Nat.le_refl _) ?_)
 simp only
 rw [if_neg (by omega)]
 refine ⟨false, fun m hm => hm.2.u0, ⟨false, fun m hm => hm.2.u1, ?_⟩⟩
 have e : (Option.map (fun (u : Addr) => u.add (y / 256 * 2)) (some (⟨q, 0, none⟩ : Addr))) = some ⟨q, 2 * (y / 256), none⟩ := by
  simp only [Option.map_some, add_lit]; congr 2; omega
 rw [e, Nat.add_sub_cancel_left]
 have hp := h.part (x := y / 256) (y := 1) (c := c - y / 256) (by omega)
 refine pContains_ok (v := 0) hp (by rw [List.length_take, List.length_drop]; omega) (fun z hz => h.le2 z (List.mem_of_mem_drop (List.mem_of_mem_take hz))) (by omega) fun σ' e' => ?_
 refine ⟨⟨e'.blk hd id, g.keep0 e'⟩, fin _ σ' e' ?_⟩
 have hi : y / 256 < sp.st.length := by omega
 rw [List.getD_eq_getElem?_getD, List.getElem?_eq_getElem hi, List.drop_eq_getElem_cons hi, List.take_succ_cons, List.take_zero]
 simp [eq_comm]
theorem sget_ok (h : SpH3 σ F p sp) {w : Nat} (hw : w <= 1000000000000) {R : Int -> Hp -> Prop} (hR : R (sp.wd w) σ) : space_Space_get.call (some ⟨p, 0, none⟩) (w : Int) σ R := by
 refine space_Space_get.of_vc ?_
 unfold space_Space_get.vc
 obtain ⟨q, r, l, B, h⟩ := h
 refine nilP (h.rM (nz (by decide) (arN (m := w / 32) (by rw [tdiv_nn (by omega)]; simp) (by omega) ⟨l, h.map, ?_⟩)))
 cases hg : mget l ((w / 32 : Nat) : Int) with
 | none =>
  refine ifF rfl ?_
  have : sp.st[w / 32]? ≠ some 2 := fun hk => by
   have := (h.keys _).2 ⟨_, rfl, hk⟩
   rw [hg] at this; cases this
  rw [h.zero w this] at hR; exact hR
 | some s =>
  obtain ⟨w1, w2, w3, cs, w4, w5, w6⟩ := h.wd _ s hg
  refine ifT rfl (nz (by decide) ?_)
  simp only [Option.getD_some]
  have tm : ((w : Int).tmod 32) = ((w % 32 : Nat) : Int) := by rw [tmod_nn (by omega)]; simp
  rw [w1, tm]
  refine ix (by omega) (by omega) ?_
  rw [add_lit]
  refine w4.rI0 ?_ hR
  rw [show 0 + ((w % 32 : Nat) : Int).toNat * 1 = w % 32 by omega, w6 _ (by omega)]
  simp only
  rw [show 32 * (w / 32) + w % 32 = w by omega]
theorem Read_ok (h : SpH3 σ F p sp) (g : Gl σ) (x : Int) (hx : x <= 1000000000000) {R : Int -> Int -> Hp -> Prop} (hR : ∀ σ', Ext0 σ σ' -> R (if accE sp x = 0 then sp.wd (x.toNat / 8) else 0) (accE sp x) σ') :
 space_Space_Read.call (some ⟨p, 0, none⟩) x σ R := by
 refine space_Space_Read.of_vc ?_
 unfold space_Space_Read.vc
 refine access_ok h g x hx fun σ' e => ?_
 have := hR σ' e
 refine iff_ (fun hc => ?_) fun hc => ?_
 ·have hne : ¬ accE sp x = 0 := by simpa using hc
  rw [if_neg hne] at this; exact this
 ·have h0 : accE sp x = 0 := by simpa using hc
  rw [if_pos h0, h0] at this
  have hx0 : 0 <= x := by
   rcases (by omega : x < 0 ∨ 0 <= x) with hlt | hge
   ·unfold accE at h0; rw [if_pos (.inl hlt)] at h0; cases h0
   ·exact hge
  obtain ⟨y, rfl⟩ := Int.eq_ofNat_of_zero_le hx0
  exact nz (by decide) (arN (m := y / 8) (by rw [tdiv_nn (by omega)]; simp) (by omega) (sget_ok (h.keep0 e) (by omega) this))
theorem SpH2.dirt (h : SpH2 σ F p q r l B sp) {k : Nat} (hk : k < sp.st.length) (hn : sp.st[k]? ≠ some 2) {σ' : Hp} {b : Nat} {s : Sl} {T : Rg} (e : Ext T σ σ') (hT : ∀ i, i < σ.size -> T i -> i = q ∨ i = r) (hz : σ.size <= b) {rest : List Value}
 (hb : Blk σ' q (pgV (sp.st.set k 2) ++ rest)) (hm : MapL σ' r .i64 .s (mset l (k : Int) s)) (ha : s.a = some ⟨b, 0, none⟩) (hl : s.len = 32) (hc : s.cap = 32) (hw : Blk σ' b (List.replicate 32 (.int .i64 0))) :
 SpH2 σ' (Grow F σ) p q r (mset l (k : Int) s) (fun j => if j = k then b else B j) { sp with st := sp.st.set k 2 } := by
 have g2 : ∀ j : Nat, (sp.st.set k 2)[j]? = some 2 ↔ j = k ∨ sp.st[j]? = some 2 := fun j => by
  rw [List.getElem?_set]
  by_cases hjk : k = j
  ·subst hjk
   rw [if_pos rfl, if_pos hk]; simp
  ·rw [if_neg hjk]
   exact ⟨fun h => .inr h, fun h => h.resolve_left fun e => hjk e.symm⟩
 obtain ⟨c, hc', hd⟩ := h.hd
 obtain ⟨_, hrow⟩ := h.row
 have hp := hd.lt; have hq := hrow.lt; have hr := h.map.lt
 have hs := e.1
 have hfs := h.fs
 have old : ∀ {j : Nat}, sp.st[j]? = some 2 -> B j < σ.size := fun {j} hj => by
  obtain ⟨t, _, _, _, _, cs, w4, _⟩ := h.entry hj
  exact w4.lt
 have keepB : ∀ {i : Nat} {cs : List Value}, Blk σ i cs -> i ≠ q -> i ≠ r -> Blk σ' i cs := fun {i cs} hi h1 h2 => e.blk hi fun ht => by
  rcases hT i hi.lt ht with h | h
  ·exact h1 h
  ·exact h2 h
 refine ⟨⟨c, by simpa using hc', by simpa using keepB hd hfs.2.2.2.1 hfs.2.2.2.2.1⟩, ⟨rest, hb⟩, hm, fun x => ?_, fun j t hj => ?_, fun j j' h1 h2 hbb => ?_, fun j hj => ?_, ⟨.inl hfs.1, .inl hfs.2.1, .inl hfs.2.2.1, hfs.2.2.2⟩, fun w hw' => ?_, by simpa using h.n1, by simpa using h.n2, set_le2 h.le2 (by omega), h.pk⟩
 ·rw [mget_mset]
  by_cases hx : x = (k : Int)
  ·rw [if_pos hx]; subst hx
   simp only [Option.isSome_some, true_iff]
   exact ⟨k, rfl, (g2 k).2 (.inl rfl)⟩
  ·rw [if_neg hx, h.keys]
   constructor
   ·rintro ⟨j, rfl, hj⟩; exact ⟨j, rfl, (g2 j).2 (.inr hj)⟩
   ·rintro ⟨j, rfl, hj⟩; exact ⟨j, rfl, ((g2 j).1 hj).resolve_left (by omega)⟩
 ·rw [mget_mset] at hj
  by_cases hx : (j : Int) = (k : Int)
  ·have : j = k := by omega
   subst this
   rw [if_pos rfl] at hj; cases hj
   rw [if_pos rfl]
   refine ⟨ha, hl, by omega, _, hw, by simp, fun i hi => ?_⟩
   rw [List.getElem?_replicate, if_pos hi]
   simp only
   rw [h.zero _ (by rw [show (32 * j + i) / 32 = j by omega]; exact hn)]
  ·rw [if_neg hx] at hj
   obtain ⟨w1, w2, w3, cs, w4, w5, w6⟩ := h.wd j t hj
   have ho := h.out j (h.dirty hj)
   rw [if_neg (by omega)]
   exact ⟨w1, w2, w3, cs, keepB w4 ho.2.2.1 ho.2.2.2, w5, w6⟩
 ·by_cases e1 : j = k
  ·by_cases e2 : j' = k
   ·omega
   ·rw [if_pos e1, if_neg e2] at hbb
    have := old (((g2 j').1 h2).resolve_left e2)
    omega
  ·rw [if_neg e1] at hbb
   by_cases e2 : j' = k
   ·rw [if_pos e2] at hbb
    have := old (((g2 j).1 h1).resolve_left e1)
    omega
   ·rw [if_neg e2] at hbb
    exact h.inj j j' (((g2 j).1 h1).resolve_left e1) (((g2 j').1 h2).resolve_left e2) hbb
 ·by_cases e1 : j = k
  ·rw [if_pos e1]; exact ⟨.inr hz, by omega, by omega, by omega⟩
  ·rw [if_neg e1]
   have := h.out j (((g2 j).1 hj).resolve_left e1)
   exact ⟨.inl this.1, this.2⟩
 ·refine h.zero w fun h2 => hw' ((g2 _).2 (.inr h2))
theorem SpH2.peak (h : SpH2 σ F p q r l B sp) {σ' : Hp} {n c : Nat} (hn : n <= 1024) (ho : OnlyB σ σ' p) (hc : sp.st.length <= c) (hb : Blk σ' p [.slice (some ⟨q, 0, none⟩) sp.st.length c, .map (some r), .int .i64 (n : Int)]) : SpH2 σ' F p q r l B { sp with pk := n } := by
 have hfs := h.fs
 obtain ⟨rest, hrow⟩ := h.row
 refine ⟨⟨c, hc, hb⟩, ⟨rest, only_blk ho hrow (by omega)⟩, only_mapL ho h.map (by omega), h.keys, fun j t hj => ?_, h.inj, h.out, hfs, h.zero, h.n1, h.n2, h.le2, hn⟩
 obtain ⟨w1, w2, w3, cs, w4, w5, w6⟩ := h.wd j t hj
 exact ⟨w1, w2, w3, cs, only_blk ho w4 (h.out j (h.dirty hj)).2.1, w5, w6⟩
theorem SpH2.word (h : SpH2 σ F p q r l B sp) {w : Nat} {v : Int} (hk : sp.st[w / 32]? = some 2) {σ' : Hp} {cs : List Value} (h32 : 32 <= cs.length) (ho : OnlyB σ σ' (B (w / 32))) (hcs : ∀ j, j < 32 -> cs[j]? = some (.int .i64 (sp.wd (32 * (w / 32) + j))))
 (hb : Blk σ' (B (w / 32)) (cs.set (w % 32) (.int .i64 v))) : SpH2 σ' F p q r l B { sp with wd := fun u => if u = w then v else sp.wd u } := by
 have hout := h.out _ hk
 obtain ⟨c, hc, hd⟩ := h.hd
 obtain ⟨rest, hrow⟩ := h.row
 refine ⟨⟨c, hc, only_blk ho hd (by omega)⟩, ⟨rest, only_blk ho hrow (by omega)⟩, only_mapL ho h.map (by omega), h.keys, fun j t hj => ?_, h.inj, h.out, h.fs, fun u hu => ?_, h.n1, h.n2, h.le2, h.pk⟩
 ·obtain ⟨w1, w2, w3, cs', w4, w5, w6⟩ := h.wd j t hj
  by_cases hjk : j = w / 32
  ·subst hjk
   refine ⟨w1, w2, w3, _, hb, by simpa using h32, fun i hi => ?_⟩
   rw [List.getElem?_set]
   by_cases hiw : w % 32 = i
   ·rw [if_pos hiw, if_pos (by omega)]; simp only; rw [if_pos (by omega)]
   ·rw [if_neg hiw]; simp only; rw [if_neg (by omega)]; exact hcs i hi
  ·have hne : B j ≠ B (w / 32) := fun e => hjk (h.inj _ _ (h.dirty hj) hk e)
   refine ⟨w1, w2, w3, cs', only_blk ho w4 hne, w5, fun i hi => ?_⟩
   rw [w6 i hi]; simp only; rw [if_neg (by omega)]
 ·have : u ≠ w := fun e => by subst e; exact hu hk
  simp only; rw [if_neg this]; exact h.zero u hu
theorem sput_ok (h : SpH3 σ F p sp) (g : Gd σ) {w : Nat} (hw : w / 32 < sp.st.length) (v : Int) {R : Hp -> Prop} (hR : ∀ σ', Ext F σ σ' -> SpH3 σ' (Grow F σ) p (putW sp w v) -> R σ') :
 space_Space_put.call (some ⟨p, 0, none⟩) (w : Int) v σ R := by
 refine space_Space_put.of_vc ?_
 unfold space_Space_put.vc
 obtain ⟨q, r, l, B, h⟩ := h
 have hn2 := h.n2
 have hx : sp.st[w / 32]? = some sp.st[w / 32] := List.getElem?_eq_getElem hw
 have tm : ((w : Int).tmod 32) = ((w % 32 : Nat) : Int) := by rw [tmod_nn (by omega)]; simp
 have word : ∀ (u : Hp) (s' : Sp) (l' : List (Int × Sl)) (B' : Nat -> Nat), Ext F σ u -> SpH2 u (Grow F σ) p q r l' B' s' -> s'.st[w / 32]? = some 2 -> ({ s' with wd := fun z => if z = w then v else s'.wd z } : Sp) = putW sp w v →
  NilP (some ⟨p, 0, none⟩) fun a45 => LdM (a45.add 1) u fun t47 => Lk .i64 .s t47 ((w / 32 : Nat) : Int) u fun t49 => Nz 32 <| Ix (t49.getD ⟨none, 0, 0⟩).a (t49.getD ⟨none, 0, 0⟩).len ((w : Int).tmod 32) 1 fun a53 => St1 a53 (.int .i64 v) u fun v1 => R v1 := by
  intro u s' l' B' eu hu hk he
  refine nilP (hu.rM ⟨l', hu.map, nz (by decide) ?_⟩)
  obtain ⟨s, hs, w1, w2, w3, cs, w4, w5, w6⟩ := hu.entry hk
  rw [hs, tm]
  simp only [Option.getD_some]
  rw [w1]
  refine ix (by omega) (by omega) ?_
  rw [add_lit, show 0 + ((w % 32 : Nat) : Int).toNat * 1 = w % 32 by omega]
  refine w4.s0 (by omega) fun u2 o2 b2 => ?_
  have h2 := hu.word (v := v) hk w5 o2 w6 b2
  rw [he] at h2
  exact hR u2 (eu.newT o2.ext fun b hb => by subst hb; exact (hu.out _ hk).1) ⟨_, _, _, _, h2⟩
 refine nz (by decide) (arN (m := w / 32) (by rw [tdiv_nn (by omega)]; simp) (by omega) (Jn.intro (nilP (h.rS fun cap hcap => ix (by omega) (by simp only; omega) ?_))))
 rw [add_lit, show 0 + ((w / 32 : Nat) : Int).toNat * 2 = 2 * (w / 32) by omega]
 refine h.rPg hx (ldB (n := true) g.d0 (ldB (n := true) g.d1 ?_))
 have e0 : (((pgC sp.st[w / 32]).1 == true) && (((pgC sp.st[w / 32]).2 == true) && true)) = (sp.st[w / 32] == 2) := pgC_eq (h.le2 _ (List.getElem_mem hw)) (y := 2) (by omega)
 rw [e0]
 refine iff_ (fun hd => ?_) fun hd => ?_
 ·have hne : sp.st[w / 32] ≠ 2 := by simpa using hd
  refine nilP (h.rS fun cap hcap => ldB (n := true) g.d0 (ldB (n := true) g.d1 (ix (by omega) (by simp only; omega) ?_)))
  rw [add_lit, show 0 + ((w / 32 : Nat) : Int).toNat * 2 = 2 * (w / 32) by omega]
  obtain ⟨rest, hrow⟩ := h.row
  refine hrow.s1 (by rw [List.length_append, pgV_len]; omega) fun u1 o1 b1 => b1.s1 (by rw [List.length_set, List.length_append, pgV_len]; omega) fun u2 o2 b2 => ?_
  rw [Nat.add_zero] at b2
  have b2' : Blk u2 q (pgV (sp.st.set (w / 32) 2) ++ rest) := by rw [← pgV_set hw]; exact b2
  have e2 : Ext (· = q) σ u2 := o1.ext.trans o2.ext
  obtain ⟨c, hc, hhd⟩ := h.hd
  have hd2 := e2.blk hhd h.fs.2.2.2.1
  refine ⟨fun m => Blk m p [.slice (some ⟨q, 0, none⟩) sp.st.length c, .map (some r), .int .i64 (sp.pk : Int)], hd2, nilP ⟨some r, fun m hm => by rw [add_lit, hm.cell]; rfl, ?_⟩⟩
  refine mk (n := 32) (by omega) (by omega) fun u3 hz3 e3 b3 => ⟨Ext.blk e3 hd2 id, ?_⟩
  have b3' : Blk u3 u2.size (List.replicate 32 (.int .i64 0)) := b3
  have q3 := Ext.blk e3 b2' id
  have hm2 := e2.mapL h.map (fun e => h.fs.2.2.2.2.2 e.symm)
  refine ⟨r, l, rfl, Ext.mapL e3 hm2 id, fun u4 o4 hm4 => ?_⟩
  have sz2 : u2.size = σ.size := by rw [o2.1, o1.1]
  have hrlt := h.map.lt
  have hplt := hhd.lt
  have e4 : Ext (fun b => b = q ∨ b = r) σ u4 := ((e2.sub fun b hb => .inl hb).trans (Ext0.to e3)).trans (o4.ext.sub fun b hb => .inr hb)
  have h4 := h.dirt hw (by rw [hx]; simpa using hne) (s := ⟨some ⟨u2.size, 0, none⟩, 32, 32⟩) (b := u2.size) e4 (fun i _ hi => hi) (by omega) (only_blk o4 q3 h.fs.2.2.2.2.2) hm4 rfl rfl rfl (only_blk o4 b3' (by omega))
  obtain ⟨c4, hc4, hd4⟩ := h4.hd
  refine nilP (hd4.rI rfl (nilP (hd4.rM rfl ⟨_, h4.map, nilP ?_⟩)))
  rw [h4.len_l]
  have hcl : (sp.st.set (w / 32) 2).count 2 <= 1024 := Nat.le_trans List.count_le_length (by simpa using hn2)
  have hpk := h.pk
  have hv : (if ((List.count 2 (sp.st.set (w / 32) 2) : Nat) : Int) > (sp.pk : Int) then ((List.count 2 (sp.st.set (w / 32) 2) : Nat) : Int) else (sp.pk : Int)) = ((max sp.pk ((sp.st.set (w / 32) 2).count 2) : Nat) : Int) := by
   by_cases hgt : ((List.count 2 (sp.st.set (w / 32) 2) : Nat) : Int) > (sp.pk : Int)
   ·rw [if_pos hgt]; omega
   ·rw [if_neg hgt]; omega
  simp only
  rw [hv]
  refine hd4.s1 (by simp) fun u5 o5 b5 => ?_
  have h5 := h4.peak (by omega) o5 hc4 b5
  have e5 : Ext F σ u5 := (e4.sub fun b hb => by
   rcases hb with rfl | rfl
   ·exact h.fs.2.1
   ·exact h.fs.2.2.1).trans (o5.ext.sub fun b hb => by subst hb; exact h.fs.1)
  refine word u5 _ _ _ e5 h5 (by simp only; rw [List.getElem?_set, if_pos rfl, if_pos hw]) ?_
  unfold putW
  rw [if_neg (by rw [List.getD_eq_getElem?_getD, hx]; exact hne)]
 ·have heq : sp.st[w / 32] = 2 := by simpa using hd
  rw [heq] at hx
  have hgr : SpH2 σ (Grow F σ) p q r l B sp := { h with out := fun k hk => ⟨.inl (h.out k hk).1, (h.out k hk).2⟩, fs := ⟨.inl h.fs.1, .inl h.fs.2.1, .inl h.fs.2.2.1, h.fs.2.2.2⟩ }
  refine word σ sp l B (Ext.refl _ _) hgr hx ?_
  unfold putW
  rw [if_pos (by rw [List.getD_eq_getElem?_getD, hx]; rfl)]
  have : sp.st.set (w / 32) 2 = sp.st := by
   apply List.ext_getElem?
   intro i
   rw [List.getElem?_set]
   by_cases hi : w / 32 = i
   ·subst hi; rw [if_pos rfl, if_pos hw, hx]
   ·rw [if_neg hi]
  rw [this]
theorem Write_ok (h : SpH3 σ F p sp) (g : Gl σ) (gd : Gd σ) (x : Int) (hx : x <= 1000000000000) (v : Int) {R : Int -> Hp -> Prop} (hR : ∀ σ', Ext F σ σ' -> SpH3 σ' (Grow F σ) p (writeS sp x v) -> R (accE sp x) σ') :
 space_Space_Write.call (some ⟨p, 0, none⟩) x v σ R := by
 refine space_Space_Write.of_vc ?_
 unfold space_Space_Write.vc
 have hcut : SpH3 σ (Cut F σ) p sp := Lcl.cut SpH3.loc h
 refine access_ok h g x hx fun σ1 e => ?_
 have h1 := hcut.keep0 e
 have g1 := g.keep0 e
 refine iff_ (fun hc => ?_) fun hc => ?_
 ·have hne : ¬ accE sp x = 0 := by simpa using hc
  refine hR σ1 (Ext0.to e) ?_
  unfold writeS; rw [if_neg hne]
  exact Lcl.mono SpH3.loc h1 fun b _ hb => .inl hb.1
 ·have h0 : accE sp x = 0 := by simpa using hc
  have hx0 : 0 <= x /\ sp.st.getD (x.toNat / 256) 0 ≠ 0 := by
   unfold accE at h0
   by_cases hb : x < 0 ∨ x % 8 ≠ 0
   ·rw [if_pos hb] at h0; cases h0
   ·rw [if_neg hb] at h0
    by_cases hz : sp.st.getD (x.toNat / 256) 0 = 0
    ·rw [if_pos hz] at h0; cases h0
    ·exact ⟨by omega, hz⟩
  obtain ⟨y, rfl⟩ := Int.eq_ofNat_of_zero_le hx0.1
  have hlt : y / 8 / 32 < sp.st.length := by
   rcases Nat.lt_or_ge (y / 256) sp.st.length with h | h
   ·omega
   ·exact absurd (by rw [List.getD_eq_getElem?_getD, List.getElem?_eq_none (by simpa using h)]; rfl) hx0.2
  refine nz (by decide) (arN (m := y / 8) (by rw [tdiv_nn (by omega)]; simp) (by omega) (sput_ok h1 (gd.keep0 e) hlt v fun σ2 e2 h2 => ?_))
  have := hR σ2 (Ext.cut ((Ext0.to e).trans e2)) ?_
  ·rw [h0] at this; exact this
  ·unfold writeS; rw [if_pos h0]
   exact Lcl.mono SpH3.loc h2 fun b _ hb => by
    rcases hb with hb | hb
    ·exact .inl hb.1
    ·exact .inr (Nat.le_trans e.1 hb)
def newSp (n : Nat) : Sp := ⟨List.replicate n 0, fun _ => 0, 0⟩
theorem newSp_H {σ : Hp} {F : Rg} {p q r n c : Nat} (h1 : 1 <= n) (h2 : n <= 1024) (hc : n <= c) (hd : Blk σ p [.slice (some ⟨q, 0, none⟩) n c, .map (some r), .int .i64 0]) (hq : Blk σ q (pgV (List.replicate n 0))) (hr : MapL σ r .i64 .s [])
 (hF : F p /\ F q /\ F r) (hne : p ≠ q /\ p ≠ r /\ q ≠ r) : SpH2 σ F p q r [] (fun _ => 0) (newSp n) := by
 have no : ∀ k : Nat, (List.replicate n 0)[k]? ≠ some 2 := fun k hk => by
  rw [List.getElem?_replicate] at hk
  split at hk <;> cases hk
 refine ⟨⟨c, by simpa [newSp] using hc, by simpa [newSp] using hd⟩, ⟨[], by simpa [newSp] using hq⟩, hr, fun x => ?_, fun k s hs => (by cases hs), fun k k' h1 => absurd h1 (no k), fun k hk => absurd hk (no k), ⟨hF.1, hF.2.1, hF.2.2, hne⟩, fun w _ => rfl, by simpa [newSp] using h1, by simpa [newSp] using h2, fun x hx => ?_, by simp [newSp]⟩
 ·constructor
  ·intro h; cases h
  ·rintro ⟨k, _, hk⟩; exact absurd hk (no k)
 ·have := List.eq_of_mem_replicate hx
  omega
theorem SpcNew_ok {n : Nat} (h1 : 1 <= n) (h2 : n <= 1024) {R : Option Addr -> Int -> Hp -> Prop} (hR : ∀ σ' p', Ext0 σ σ' -> σ.size <= p' -> SpH3 σ' (fun b => σ.size <= b) p' (newSp n) -> R (some ⟨p', 0, none⟩) 0 σ') : space_New.call (n : Int) σ R := by
 refine space_New.of_vc ?_
 unfold space_New.vc
 refine JnB.intro (ifDF (by omega) ?_)
 rw [decide_eq_false (by omega)]
 refine ifF rfl (mk (by omega) (by omega) fun u1 z1 e1 b1 => nwMap fun u2 z2 e2 m2 => nw (cs := [.slice (some ⟨σ.size, 0, none⟩) n n, .map (some u1.size), .int .i64 0]) fun u3 z3 e3 b3 => ?_)
 have hq := Ext.blk e3 (Ext.blk e2 b1 id) id
 have hr := Ext.mapL e3 (m2 .i64 .s) id
 refine hR u3 _ (Ext.trans (Ext.trans e1 e2) e3) (by omega) ⟨σ.size, u1.size, [], _, newSp_H h1 h2 (Nat.le_refl _) b3 ?_ hr ⟨by omega, by omega, by omega⟩ (by omega)⟩
 rw [pgV_rep]; exact hq
end Go.Ar
namespace Go.Vc
open Go


def itN (h : Hp) (it r : Nat) : Nat :=
 match h[it]?, h[r]? with
 | some (.mapIter _ _ seen _), some (.map es _) => (es.toList.filter fun e => !seen.contains e.born).length
 | _, _ => 0
variable {σ : Hp} {k : IntKind} {c : CK} {l todo : List (Int × c.T)} {cur : Option (Int × c.T)} {r it : Nat}
theorem It.num {h : Hp} (hi : It h it k c (some r) l todo cur) : itN h it r = todo.length := by
 obtain ⟨es, clk, seen, h1, h2, h3, h4, h5, h6, h7, h8⟩ := hi
 unfold itN
 rw [h1, h2]
 have := congrArg List.length h7
 simpa using this
theorem It.keep {h h' : Hp} (hi : It h it k c (some r) l todo cur) (h1 : h'[it]? = h[it]?) (h2 : h'[r]? = h[r]?) : It h' it k c (some r) l todo cur := by
 obtain ⟨es, clk, seen, a1, a2, rest⟩ := hi
 exact ⟨es, clk, seen, h1.trans a1, h2.trans a2, rest⟩
theorem rng0 {A : Hp -> Prop} {body : Int -> c.T -> Hp -> (Hp -> Prop) -> Prop} (hm : MapL σ r k c l) (I : List (Int × c.T) -> Hp -> Prop)
 (h0 : ∀ v, v.size = σ.size + 1 -> Ext0 σ v -> I l v)
 (hend : ∀ v, I [] v -> A v)
 (hstep : ∀ todo n x v v' (J : Hp -> Prop), I todo v -> (n, x) ∈ todo -> OnlyB v v' σ.size -> σ.size < v.size -> (∀ w, w[σ.size]? = v'[σ.size]? -> w[r]? = v'[r]? -> I (todo.filter fun y => !(y.1 == n)) w -> J w) -> body n x v' J) :
 Rng k c (some r) σ fun it v3 => LoopK [] (fun I => I v3) fun J1 v4 => Nxt k c it v4 (A v4) fun _ _ v5 => Ent k c it v5 fun key1 val1 => body key1 val1 v5 J1 := by
 refine ⟨l, hm, fun v hz hb hi => ?_⟩
 have e0 : Ext0 σ v := ⟨by omega, fun b hb' _ => hb b hb'⟩
 refine loop0 (fun w => ∃ todo cur, It w σ.size k c (some r) l todo cur /\ I todo w /\ σ.size < w.size) (fun w => itN w σ.size r) ⟨l, none, hi, h0 v hz e0, by omega⟩ ?_
 rintro w ⟨todo, cur, hiw, hI, hlt⟩
 refine ⟨rfl, some r, l, todo, cur, hiw, fun ht => ?_, fun n x hx w' ho hi' => ?_⟩
 ·subst ht; exact hend w hI
 ·refine ⟨rfl, some r, l, _, n, x, hi', hstep todo n x w w' _ hI hx ho hlt fun u hu1 hu2 hIu => ?_⟩
  have hiu := hi'.keep hu1 hu2
  refine ⟨⟨_, _, hiu, hIu, ?_⟩, ?_⟩
  ·obtain ⟨es, clk, seen, a1, _⟩ := hiu
   exact (Array.getElem?_eq_some_iff.1 a1).1
  ·rw [hiu.num, hiw.num]
   exact List.length_filter_lt_length_iff_exists.2 ⟨(n, x), hx, by simp⟩
theorem rng1 {a : CK} {x0 : a.T} {A : a.T -> Hp -> Prop} {body : Int -> c.T -> a.T -> Hp -> (a.T -> Hp -> Prop) -> Prop} (hm : MapL σ r k c l) (I : List (Int × c.T) -> a.T -> Hp -> Prop)
 (h0 : ∀ v, v.size = σ.size + 1 -> Ext0 σ v -> I l x0 v)
 (hend : ∀ z v, I [] z v -> A z v)
 (hstep : ∀ todo n x z v v' (J : a.T -> Hp -> Prop), I todo z v -> (n, x) ∈ todo -> OnlyB v v' σ.size -> σ.size < v.size -> (∀ z' w, w[σ.size]? = v'[σ.size]? -> w[r]? = v'[r]? -> I (todo.filter fun y => !(y.1 == n)) z' w -> J z' w) -> body n x z v' J) :
 Rng k c (some r) σ fun it v3 => LoopK [a] (fun I => I x0 v3) fun J1 z v4 => Nxt k c it v4 (A z v4) fun _ _ v5 => Ent k c it v5 fun key1 val1 => body key1 val1 z v5 J1 := by
 refine ⟨l, hm, fun v hz hb hi => ?_⟩
 have e0 : Ext0 σ v := ⟨by omega, fun b hb' _ => hb b hb'⟩
 refine loop1 (a := a) (fun z w => ∃ todo cur, It w σ.size k c (some r) l todo cur /\ I todo z w /\ σ.size < w.size) (fun _ w => itN w σ.size r) ⟨l, none, hi, h0 v hz e0, by omega⟩ ?_
 rintro z w ⟨todo, cur, hiw, hI, hlt⟩
 refine ⟨rfl, some r, l, todo, cur, hiw, fun ht => ?_, fun n x hx w' ho hi' => ?_⟩
 ·subst ht; exact hend z w hI
 ·refine ⟨rfl, some r, l, _, n, x, hi', hstep todo n x z w w' _ hI hx ho hlt fun z' u hu1 hu2 hIu => ?_⟩
  have hiu := hi'.keep hu1 hu2
  refine ⟨⟨_, _, hiu, hIu, ?_⟩, ?_⟩
  ·obtain ⟨es, clk, seen, a1, _⟩ := hiu
   exact (Array.getElem?_eq_some_iff.1 a1).1
  ·rw [hiu.num, hiw.num]
   exact List.length_filter_lt_length_iff_exists.2 ⟨(n, x), hx, by simp⟩
end Go.Vc
namespace Go.Ar
open Go Go.Vc Go.Proofs
open Go.Bu (runOk)


variable {σ : Hp} {F : Rg} {p q r : Nat} {sp : Sp} {l : List (Int × Sl)} {B : Nat -> Nat}
theorem mget_of_mem {α : Type} {l : List (Int × α)} (hn : (l.map (·.1)).Nodup) {n : Int} {x : α} (h : (n, x) ∈ l) : mget l n = some x := by
 induction l with
 | nil => simp at h
 | cons y l ih =>
  rw [mget_cons]
  simp only [List.map_cons, List.nodup_cons] at hn
  rcases List.mem_cons.1 h with h1 | h1
  ·subst h1; rw [if_pos rfl]
  ·have : ¬ y.1 = n := fun e => hn.1 (List.mem_map.2 ⟨_, h1, e.symm⟩)
   rw [if_neg this]; exact ih hn.2 h1
structure ClI (σ v : Hp) (a b h : Nat) (hd : List Value) (sp : Sp) (l todo : List (Int × Sl)) (l' : List (Int × Sl)) (B' : Nat -> Nat) (it : Nat) : Prop where
 ext : Ext0 σ v
 hd : Blk v h hd
 row : Blk v a (pgV sp.st)
 map : MapL v b .i64 .s l'
 sub : ∀ x ∈ todo, x ∈ l
 keys : ∀ x : Int, (mget l' x).isSome = true ↔ (mget l x).isSome = true /\ ¬ x ∈ todo.map (·.1)
 wd : ∀ (k : Nat) s, mget l' (k : Int) = some s -> WdH v s (B' k) fun j => sp.wd (32 * k + j)
 inj : ∀ k k' : Nat, (mget l' (k : Int)).isSome = true -> (mget l' (k' : Int)).isSome = true -> B' k = B' k' -> k = k'
 out : ∀ k : Nat, (mget l' (k : Int)).isSome = true -> σ.size <= B' k /\ B' k < v.size /\ B' k ≠ a /\ B' k ≠ b /\ B' k ≠ h /\ B' k ≠ it
end Go.Ar
namespace Go.Bu
open Go Go.Vc Go.Proofs


variable {σ : Hp} {p n sb : Nat} {S : Nat -> Bool} {ms : List Nat}
def mapV (ms : List Nat) : List Value := ms.map fun m => Value.map (some m)
structure Part (B : Nat) (h : Hp) (p n : Nat) (j : Nat) (s : Sl) (ms : List Nat) : Prop where
 len : ms.length = j
 sl : s.len = j
 hd : Blk h p [.int .i64 n, .slice s.a s.len s.cap]
 own : Own (fun b => B <= b /\ b ≠ p /\ b ∉ ms) h s 1 (mapV ms)
 new : ∀ m ∈ ms, B <= m /\ m ≠ p /\ m < h.size
 nd : ms.Nodup
theorem Part.done {B : Nat} {h : Hp} {j : Nat} {s : Sl} (hp : Part B h p n j s ms) (hB : B <= p) (hj : 0 < j) (n1 : 1 <= n) (n2 : n <= 1024) (lo : 2 ^ j <= 2 * n) (hi : n < 2 ^ j) (bnd : Bounded S n)
 (maps : ∀ k m, ms[k]? = some m -> ∃ B : List (Int × Bool), MapL h m .i64 .b B /\ Keys S k B) : ∃ sb, BH h p n S sb ms /\ ∀ b, fp p sb ms b -> B <= b := by
 rcases hp.own.2 with ⟨_, hl, _⟩ | ⟨sb, cs, ⟨hq, hqp, hqm⟩, ha, hb, hle, hcl, ht⟩
 ·have := hp.sl; omega
 ·refine ⟨sb, ⟨?_, ?_, maps, ?_, n1, n2, ?_, ?_, bnd⟩, ?_⟩
  ·refine ⟨s.cap, ?_⟩
   have := hp.hd
   rw [ha, hp.sl, ← hp.len] at this
   exact this
  ·refine ⟨cs.drop (mapV ms).length, ?_⟩
   have : mapV ms ++ cs.drop (mapV ms).length = cs := by
    conv => lhs; lhs; rw [← ht]
    exact List.take_append_drop _ _
   show Blk h sb (mapV ms ++ _)
   rw [this]; exact hb
  ·simp only [List.nodup_cons, List.mem_cons, not_or]
   exact ⟨⟨fun e => hqp e.symm, fun hm => (hp.new p hm).2.1 rfl⟩, hqm, hp.nd⟩
  ·rw [hp.len]; exact lo
  ·rw [hp.len]; exact hi
  ·intro b hb
   simp only [fp, List.mem_cons] at hb
   rcases hb with rfl | rfl | h
   ·exact hB
   ·exact hq
   ·exact (hp.new b h).1
theorem Part.hdS {B : Nat} {h : Hp} {j : Nat} {s : Sl} (hp : Part B h p n j s ms) : cell h ⟨p, 1, none⟩ = some (.slice s.a s.len s.cap) := by rw [hp.hd.cell]; rfl
theorem Part.keep0 {B : Nat} {h h' : Hp} {j : Nat} {s : Sl} (hp : Part B h p n j s ms) (e : Ext0 h h') : Part B h' p n j s ms :=
 ⟨hp.len, hp.sl, e.blk hp.hd id, hp.own.keep0 e, fun m hm => ⟨(hp.new m hm).1, (hp.new m hm).2.1, Nat.lt_of_lt_of_le (hp.new m hm).2.2 e.1⟩, hp.nd⟩
theorem Part.step {B : Nat} {h : Hp} {j m e t bytes : Nat} {s : Sl} {zs : List Value} {K : Sl -> Hp -> Prop} (hp : Part B h p n j s ms) (hj : j <= 1000) (hbt : bytes <= 1000) (hz : zs.length = 1) (hm : B <= m) (hmp : m ≠ p) (hml : m < h.size) (hmn : m ∉ ms) (hms : ¬ OwnBlk s m)
 (hpB : p < h.size) (hBh : B <= h.size)
 (hgo : ∀ s' h', Ext (OwnBlk s) h h' -> s'.len = j + 1 -> Blk h' p [.int .i64 n, .slice s.a s.len s.cap] →
  (∀ h2, OnlyB h' h2 p -> Blk h2 p [.int .i64 n, .slice s'.a s'.len s'.cap] -> Part B h2 p n (j + 1) s' (ms ++ [m])) -> K s' h') :
 App s 1 bytes e zs ⟨some ⟨h.size, 0, none⟩, 1, 1⟩ (h.push (.cells #[.map (some m)] t (0, 0))) K := by
 have hsl := hp.sl
 have own' : Own (fun b => B <= b /\ b ≠ p /\ b ∉ ms ++ [m]) (h.push (.cells #[.map (some m)] t (0, 0))) s 1 (mapV ms) := by
  have h1 := hp.own
  have h2 : Own (fun b => B <= b /\ b ≠ p /\ b ∉ ms ++ [m]) h s 1 (mapV ms) := by
   refine ⟨h1.1, h1.2.imp id ?_⟩
   rintro ⟨b, cs, ⟨q1, q2, q3⟩, ha, r⟩
   refine ⟨b, cs, ⟨q1, q2, ?_⟩, ha, r⟩
   simp only [List.mem_append, List.mem_singleton, not_or]
   exact ⟨q3, fun e => hms ⟨0, by rw [ha, e]⟩⟩
  exact h2.keep0 (ext_push _ _)
 have hsz : (h.push (.cells #[.map (some m)] t (0, 0))).size = h.size + 1 := by simp
 refine own'.app (ys := [.map (some m)]) ?_ hz rfl rd_one (by simp [one1]) ?_ ?_ Nat.zero_lt_one fun s' h' hl' he ho hne => ?_
 ·intro b hb
  rw [hsz] at hb
  refine ⟨by omega, by omega, ?_⟩
  simp only [List.mem_append, List.mem_singleton, not_or]
  exact ⟨fun hmem => by have := (hp.new b hmem).2.2; omega, by omega⟩
 ·simp only
  have : (s.len + 1) * bytes <= 1001 * 1000 := Nat.mul_le_mul (by omega) hbt
  omega
 ·simp only; omega
 ·simp only at hl'
  have he' : Ext (OwnBlk s) h h' := (ext_push h _).to.trans he
  have hnp : ¬ OwnBlk s p := fun hb => (hp.own.blk_lt hb).1.2.1 rfl
  refine hgo s' h' he' (by omega) (he'.blk hp.hd hnp) fun h2 h2o hb2 => ⟨by simp [hp.len], by omega, hb2, ?_, ?_, ?_⟩
  ·have : mapV (ms ++ [m]) = mapV ms ++ [.map (some m)] := by simp [mapV]
   rw [this]
   exact ho.keep (Ext.of_only (F := (· = p)) h2o rfl) (fun b hq _ hf => hq.2.1 hf)
  ·intro x hx
   have hs2 : h2.size = h'.size := h2o.1
   have := he'.1
   rcases List.mem_append.1 hx with h1 | h1
   ·have := hp.new x h1
    exact ⟨this.1, this.2.1, by omega⟩
   ·simp at h1; subst h1
    exact ⟨hm, hmp, by omega⟩
  ·rw [List.nodup_append]
   refine ⟨hp.nd, by simp, ?_⟩
   intro a ha b hb
   simp at hb; subst hb
   rintro rfl; exact hmn ha
def emptyS : Nat -> Bool := fun _ => false
theorem keys_empty (k : Nat) : Keys emptyS k [] := by
 refine ⟨by simp, fun q hq => ?_⟩
 have := can_free hq (first_in k q)
 simp [emptyS] at this
theorem New_ok (pages : Int) {R : Option Addr -> Int -> Hp -> Prop} (hbad : ¬ (1 <= pages /\ pages <= 1024) -> R none 1 σ)
 (hR : ∀ (n : Nat), pages = (n : Int) -> 1 <= n -> n <= 1024 -> ∀ σ' sb ms, Ext0 σ σ' -> BH σ' σ.size n emptyS sb ms -> (∀ b, fp σ.size sb ms b -> σ.size <= b) -> R (some ⟨σ.size, 0, none⟩) 0 σ') : buddy_New.call pages σ R := by
 refine buddy_New.of_vc ?_
 unfold buddy_New.vc
 refine JnB.intro (ifD (fun h1 => ifT rfl (hbad (by omega))) fun h1 => ?_)
 refine ifD (fun h2 => hbad (by omega)) fun h2 => ?_
 obtain ⟨n, rfl⟩ := Int.eq_ofNat_of_zero_le (show 0 <= pages by omega)
 have n1 : 1 <= n := by omega
 have n2 : n <= 1024 := by omega
 unfold Nw
 have e0 := ext_push σ (.cells #[.int .i64 (n : Int), .slice none 0 0] 52 (0, 0))
 refine loop1 (a := .i .i64) (fun t h => ∃ (j : Nat) (s : Sl) (ms : List Nat), t = ((2 ^ j : Nat) : Int) /\ 2 ^ j <= 2 * n /\ Ext0 σ h /\ σ.size < h.size /\ Part σ.size h σ.size n j s ms /\ ∀ m ∈ ms, MapL h m .i64 .b []) (fun t _ => 2 * n + 1 - t.toNat)
  ⟨0, ⟨none, 0, 0⟩, [], rfl, by simp; omega, Ext.push _ _ _, by simp, ⟨rfl, rfl, Blk.push _ _ _, Own.nil _ _ _, by simp, by simp⟩, by simp⟩ ?_
 rintro t h ⟨j, s, ms, rfl, hj2, hE, hsz, hP, hms⟩
 have hj : j <= 11 := by
  apply Classical.byContradiction
  intro hc
  have : 2 ^ 12 <= 2 ^ j := Nat.pow_le_pow_right (by decide) (by omega)
  omega
 have hpj := Nat.two_pow_pos j
 refine ifD (fun hle => ?_) (fun hgt => ?_)
 ·refine nilP ?_
  rw [add_lit, Nat.zero_add]
  refine ldS hP.hdS ?_
  have e1 := ext_push h (.map #[] 0)
  have hs1 : (h.push (.map #[] 0)).size = h.size + 1 := by simp
  have hP1 := hP.keep0 e1
  refine hP1.step (m := h.size) (by omega) (by omega) rfl (by omega) (by omega) (by omega) (fun hm => by have := (hP.new _ hm).2.2; omega) (fun hb => by have := (hP.own.blk_lt hb).2; omega) (by omega) (by omega) fun s' h' he hl hb hstep => ?_
  refine nilP (hb.st1 (by simp) fun h2 ho hb2 => ?_)
  have hP2 := hstep h2 ho hb2
  have hE2 : Ext0 σ h2 := by
   refine Ext.fresh (Ext.fresh (hE.trans e1) he fun i hi => (hP.own.blk_lt hi).1.1) (Ext.of_only (F := (· = σ.size)) ho rfl) fun i hi => ?_
   rw [hi]; exact Nat.le_refl _
  refine arN (m := 2 ^ (j + 1)) (by rw [Nat.pow_succ]; omega) (by rw [Nat.pow_succ]; omega) ⟨⟨j + 1, s', ms ++ [h.size], rfl, by rw [Nat.pow_succ]; omega, hE2, ?_, hP2, ?_⟩, by rw [Nat.pow_succ]; omega⟩
  ·have := ho.1; have := he.1; omega
  ·intro m hm
   have keepM : ∀ {m : Nat}, MapL (h.push (.map #[] 0)) m .i64 .b [] -> ¬ OwnBlk s m -> m ≠ σ.size -> MapL h2 m .i64 .b [] := fun hM hn hne => only_mapL ho (he.mapL hM hn) hne
   rcases List.mem_append.1 hm with h1 | h1
   ·exact keepM (e1.mapL (hms m h1) id) (fun hb => (hP.own.blk_lt hb).1.2.2 h1) (hP.new m h1).2.1
   ·simp at h1; subst h1
    exact keepM (MapL.push _ _ _) (fun hb => by have := (hP.own.blk_lt hb).2; omega) (by omega)
 ·have hjpos : 0 < j := by
   rcases Nat.eq_zero_or_pos j with e | e
   ·subst e; simp at hgt; omega
   ·exact e
  obtain ⟨sb, hB, hF⟩ := hP.done (S := emptyS) (Nat.le_refl _) hjpos n1 n2 hj2 (by omega) (fun x hx => by simp [emptyS] at hx) fun k m hm => ⟨[], hms m (List.mem_of_getElem? hm), keys_empty k⟩
  exact hR n rfl n1 n2 h sb ms hE hB hF
end Go.Bu
namespace Go.Proofs
open Go.Vc

set_option maxRecDepth 100000
def arena_Arena_made.hint : Hn := .seq (.o 1) (.seq (.reg (.seq [.op, .op, .op, .grd true 5 [.op, .op, .op, .op, .op], .op])) (.leaf))
def arena_Arena_made.vc (a : Option Addr) (σ : Hp) (R : Bool -> Hp -> Prop) : Prop :=
 JnB (fun r v =>
 R r v) fun J =>
 If (!a.isNone) (NilP a fun a7 =>
 LdP (a7.add 1) σ fun t9 =>
 J (!t9.isNone) σ)
 (J false σ)
theorem arena_Arena_made.of_vc {a : Option Addr} {σ : Hp} {R : Bool -> Hp -> Prop} (hv : arena_Arena_made.vc a σ R) : arena_Arena_made.call a σ R :=
 fnK_sound Tryz.func88 (x := arena_Arena_made.hint) (args := [.pointer a]) (rs := [.one .b]) (R := R) (Eq.mpr (by kernel_rfl) hv)
def arena_Arena_Find.hint : Hn := .seq (.o 3) (.seq (.seq (.o 3) (.cond (.seq (.o 3) (.leaf)) (.leaf))) (.seq (.seq (.o 2) (.cond (.seq (.o 3) (.leaf)) (.leaf))) (.seq (.o 8) (.seq (.seq (.o 2) (.cond (.seq (.o 3) (.leaf)) (.leaf))) (.sjn [] (.seq (.o 2) (.cond (.seq (.o 5) (.block (.loop [] (.seq (.reg (.seq [.it .i64 (.i .i64), .op])) (.seq (.cond (.leaf) (.leaf)) (.block (.seq (.reg (.seq [.it .i64 (.i .i64), .op, .op, .op, .op])) (.seq (.o 3) (.seq (.reg (.seq [.op, .op, .op, .op, .grd true 5 [.op, .op, .op, .op, .op]])) (.cond (.seq (.o 5) (.leaf)) (.leaf))))))))))) (.leaf))) (.seq (.o 15) (.seq (.seq (.o 2) (.cond (.seq (.o 4) (.leaf)) (.leaf))) (.seq (.o 6) (.leaf)))))))))
def arena_Arena_Find.vc (a : Option Addr) (addr : Int) (σ : Hp) (R : Int -> Int -> Int -> Hp -> Prop) : Prop :=
 arena_Arena_made.call a σ fun t14 v =>
 If (!t14) (R 0 0 5 v)
 (If (decide (addr < 0)) (R 0 0 8 v)
 (NilP a fun a19 =>
 LdP (a19.add 4) v fun t21 =>
 Nz 256 <| Ar .i64 (addr.tdiv 256) fun t23 =>
 pagemap_Map_Get.call t21 t23 v fun no v1 =>
 If (no == 0) (R 0 0 8 v1)
 (Jn [] (fun v2 =>
 NilP a fun a55 =>
 LdS (a55.add 5) v2 fun t57 =>
 Ar .i64 (no - 1) fun t59 =>
 Ix t57.a t57.len t59 1 fun a60 =>
 LdP a60 v2 fun t61 =>
 central_List_Find.call t61 addr v2 fun t63 t631 v3 =>
 If (t631 != 0) (R 0 0 t631 v3)
 (Ar .i64 (no - 1) fun t70 =>
 R t70 t63 0 v3)) fun J =>
 If (no == 41) (NilP a fun a30 =>
 LdM (a30.add 7) v1 fun t32 =>
 Rng .i64 (.i .i64) t32 v1 fun it v4 =>
 LoopK [] (fun I => I v4) fun J1 v5 =>
 Nxt .i64 (.i .i64) it v5 (J v5)
 (fun key val v6 =>
 Ent .i64 (.i .i64) it v6 fun key1 val1 =>
 Nz 256 <| Ar .i64 (addr.tdiv 256) fun p =>
 JnB (fun r v7 =>
 If r (Ar .i64 (key1 * 256) fun t52 =>
 R (-1) t52 0 v7)
 (J1 v7)) fun J2 =>
 If (decide (key1 <= p)) (Ar .i64 (key1 + val1) fun t48 =>
 J2 (decide (p < t48)) v6)
 (J2 false v6)))
 (J v1))))
theorem arena_Arena_Find.of_vc {a : Option Addr} {addr : Int} {σ : Hp} {R : Int -> Int -> Int -> Hp -> Prop} (hv : arena_Arena_Find.vc a addr σ R) : arena_Arena_Find.call a addr σ R :=
 fnK_sound Tryz.func101 (x := arena_Arena_Find.hint) (args := [.pointer a, .int .i64 addr]) (rs := [.one (.i .i64), .one (.i .i64), .one (.i .i64)]) (R := R) (Eq.mpr (by kernel_rfl) hv)
def arena_New.hint : Hn := .seq (.o 2) (.seq (.seq (.o 3) (.cond (.seq (.o 2) (.leaf)) (.leaf))) (.seq (.o 3) (.seq (.seq (.reg (.seq [.op, .op, .op, .grd false 3 [.op, .op, .op], .op, .grd false 2 [.op, .op], .op, .grd false 2 [.op, .op]])) (.cond (.seq (.o 2) (.leaf)) (.leaf))) (.seq (.o 8) (.seq (.o 9) (.seq (.o 9) (.seq (.seq (.o 3) (.block (.loop [(61, .one (.i .i64))] (.seq (.o 1) (.seq (.cond (.leaf) (.leaf)) (.seq (.block (.seq (.o 4) (.seq (.o 7) (.seq (.o 9) (.reg (.heldJ true [18, 21] [] (.take 0 (.take 1 (.take 2 (.take 3 (.take 4 (.take 5 (.take 6 (.take 9 (.take 10 (.take 11 (.take 12 (.take 13 (.all [(7, .all [(8, .all [(14, .all [(15, .take 16 (.take 17 (.all [(18, .take 19 (.take 20 (.all [(21, .done)])))])))])]), (14, .all [(8, .all [(15, .take 16 (.take 17 (.all [(18, .take 19 (.take 20 (.all [(21, .done)])))])))])])]), (14, .all [(7, .all [(8, .all [(15, .take 16 (.take 17 (.all [(18, .take 19 (.take 20 (.all [(21, .done)])))])))])])])]))))))))))))))))))) (.o 2))))))) (.seq (.o 3) (.leaf)))))))))
def arena_New.vc (table : Sl) (s : Option Addr) (room : Int) (σ : Hp) (R : Option Addr -> Int -> Hp -> Prop) : Prop :=
 sizes_Valid.call table σ fun t17 v =>
 If (!t17) (R none 2 v)
 (space_Space_Pages.call s v fun n v1 =>
 JnB (fun r v2 =>
 JnB (fun r1 v3 =>
 JnB (fun r2 v4 =>
 If r2 (R none 1 v4)
 (slices_Clone_api_Class_api_Class.call table v4 fun t37 v5 =>
 pagemap_New.call v5 fun t39 v6 =>
 Nw (.map #[] 0) v6 fun n40 v7 =>
 Nw (.cells #[.slice t37.a t37.len t37.cap, .pointer s, .pointer none, .pointer none, .pointer t39, .slice none 0 0, .slice none 0 0, .map (some n40.block)] 148 (0, 0)) v7 fun n42 v8 =>
 buddy_New.call n v8 fun t46 t461 v9 =>
 NilP (some n42) fun a49 =>
 St1 (a49.add 2) (.pointer t46) v9 fun v10 =>
 huge_New.call n v10 fun t54 t541 v11 =>
 NilP (some n42) fun a57 =>
 St1 (a57.add 3) (.pointer t54) v11 fun v12 =>
 LoopK [(.i .i64)] (fun I => I 0 v12) fun J3 (t61 : Int) v13 =>
 If (decide (t61 < ((table.len : Nat) : Int))) (Ix table.a table.len t61 3 fun a63 =>
 LdI .i64 (a63.add 0) v13 fun t64 =>
 LdI .i64 (a63.add 1) v13 fun t641 =>
 LdI .i64 (a63.add 2) v13 fun t642 =>
 Nw (.cells #[.int .i64 0, .int .i64 0, .int .i64 0] 79 (0, 0)) v13 fun n11 v14 =>
 St1 (n11.add 0) (.int .i64 t64) v14 fun v15 =>
 St1 (n11.add 1) (.int .i64 t641) v15 fun v16 =>
 St1 (n11.add 2) (.int .i64 t642) v16 fun v17 =>
 LdI .i64 (n11.add 0) v17 fun t66 =>
 LdI .i64 (n11.add 1) v17 fun t661 =>
 LdI .i64 (n11.add 2) v17 fun t662 =>
 central_New.call t66 t661 t662 v17 fun t67 t671 v18 =>
 LdI .i64 (n11.add 2) v18 fun t72 =>
 transfer_New.call t72 room v18 fun t74 t741 v19 =>
 Jn [] (fun v20 =>
 Ar .i64 (t61 + 1) fun t97 =>
 J3 t97 v20) fun J4 =>
 Held v19 fun S =>
 NilP (some n42) fun a80 =>
 LdH S .s (a80.add 5) fun (t82 : Sl) =>
 NilP (some n42) fun a87 =>
 LdH S .s (a87.add 6) fun (t89 : Sl) =>
 (Nw (.cells #[.pointer t67] 152 (0, 0)) v19 fun n84 v21 =>
 And (S v21) <|
 (App t82 1 8 152 [.pointer none] ⟨(some n84), 1, 1⟩ v21 fun t85 v22 =>
 And (S v22) <|
 Nw (.cells #[.pointer t74] 154 (0, 0)) v22 fun n91 v23 =>
 And (S v23) <|
 App t89 1 8 154 [.pointer none] ⟨(some n91), 1, 1⟩ v23 fun t92 v24 =>
 And (S v24) <|
 NilP (some n42) fun a93 =>
 St1 (a93.add 5) (.slice t85.a t85.len t85.cap) v24 fun v25 =>
 NilP (some n42) fun a95 =>
 St1 (a95.add 6) (.slice t92.a t92.len t92.cap) v25 fun v26 =>
 J4 v26) ∧
 (Nw (.cells #[.pointer t74] 154 (0, 0)) v21 fun n911 v27 =>
 And (S v27) <|
 App t82 1 8 152 [.pointer none] ⟨(some n84), 1, 1⟩ v27 fun t851 v28 =>
 And (S v28) <|
 App t89 1 8 154 [.pointer none] ⟨(some n911), 1, 1⟩ v28 fun t921 v29 =>
 And (S v29) <|
 NilP (some n42) fun a931 =>
 St1 (a931.add 5) (.slice t851.a t851.len t851.cap) v29 fun v30 =>
 NilP (some n42) fun a951 =>
 St1 (a951.add 6) (.slice t921.a t921.len t921.cap) v30 fun v31 =>
 J4 v31)) ∧
 (Nw (.cells #[.pointer t74] 154 (0, 0)) v19 fun n912 v32 =>
 And (S v32) <|
 Nw (.cells #[.pointer t67] 152 (0, 0)) v32 fun n841 v33 =>
 And (S v33) <|
 App t82 1 8 152 [.pointer none] ⟨(some n841), 1, 1⟩ v33 fun t852 v34 =>
 And (S v34) <|
 App t89 1 8 154 [.pointer none] ⟨(some n912), 1, 1⟩ v34 fun t922 v35 =>
 And (S v35) <|
 NilP (some n42) fun a932 =>
 St1 (a932.add 5) (.slice t852.a t852.len t852.cap) v35 fun v36 =>
 NilP (some n42) fun a952 =>
 St1 (a952.add 6) (.slice t922.a t922.len t922.cap) v36 fun v37 =>
 J4 v37))
 (R (some n42) 0 v13))) fun J2 =>
 If r1 (J2 true v3)
 (J2 (decide (room > 8)) v3)) fun J1 =>
 If r (J1 true v2)
 (J1 (decide (room < 0)) v2)) fun J =>
 If (decide (n < 32)) (J true v1)
 (Nz 16 <|
 J ((n.tmod 16) != 0) v1))
theorem arena_New.of_vc {table : Sl} {s : Option Addr} {room : Int} {σ : Hp} {R : Option Addr -> Int -> Hp -> Prop} (hv : arena_New.vc table s room σ R) : arena_New.call table s room σ R :=
 fnK_sound Tryz.func107 (x := arena_New.hint) (args := [.slice table.a table.len table.cap, .pointer s, .int .i64 room]) (rs := [.one .p, .one (.i .i64)]) (R := R) (Eq.mpr (by kernel_rfl) hv)
def arena_Arena_FromTransfer.hint : Hn := .seq (.o 2) (.seq (.seq (.o 4) (.seq (.o 2) (.cond (.seq (.o 3) (.leaf)) (.leaf)))) (.seq (.o 12) (.leaf)))
def arena_Arena_FromTransfer.vc (a : Option Addr) (vclass : Int) (σ : Hp) (R : Sl -> Int -> Hp -> Prop) : Prop :=
 arena_Arena_check.call a vclass σ fun ve v =>
 If (ve != 0) (R ⟨none, 0, 0⟩ ve v)
 (NilP a fun a14 =>
 LdS (a14.add 6) v fun t16 =>
 Ix t16.a t16.len vclass 1 fun a18 =>
 LdP a18 v fun t19 =>
 transfer_Cache_Remove.call t19 v fun t20 t201 v1 =>
 R t20 t201 v1)
theorem arena_Arena_FromTransfer.of_vc {a : Option Addr} {vclass : Int} {σ : Hp} {R : Sl -> Int -> Hp -> Prop} (hv : arena_Arena_FromTransfer.vc a vclass σ R) : arena_Arena_FromTransfer.call a vclass σ R :=
 fnK_sound Tryz.func113 (x := arena_Arena_FromTransfer.hint) (args := [.pointer a, .int .i64 vclass]) (rs := [.one .s, .one (.i .i64)]) (R := R) (Eq.mpr (by kernel_rfl) hv)
def arena_Arena_FromCentral.hint : Hn := .seq (.o 2) (.seq (.seq (.o 4) (.seq (.o 2) (.cond (.seq (.o 3) (.leaf)) (.leaf)))) (.seq (.o 13) (.leaf)))
def arena_Arena_FromCentral.vc (a : Option Addr) (vclass : Int) (many : Int) (σ : Hp) (R : Sl -> Int -> Hp -> Prop) : Prop :=
 arena_Arena_check.call a vclass σ fun ve v =>
 If (ve != 0) (R ⟨none, 0, 0⟩ ve v)
 (NilP a fun a16 =>
 LdS (a16.add 5) v fun t18 =>
 Ix t18.a t18.len vclass 1 fun a20 =>
 LdP a20 v fun t21 =>
 central_List_Take.call t21 many v fun t23 t231 v1 =>
 R t23 t231 v1)
theorem arena_Arena_FromCentral.of_vc {a : Option Addr} {vclass : Int} {many : Int} {σ : Hp} {R : Sl -> Int -> Hp -> Prop} (hv : arena_Arena_FromCentral.vc a vclass many σ R) : arena_Arena_FromCentral.call a vclass many σ R :=
 fnK_sound Tryz.func115 (x := arena_Arena_FromCentral.hint) (args := [.pointer a, .int .i64 vclass, .int .i64 many]) (rs := [.one .s, .one (.i .i64)]) (R := R) (Eq.mpr (by kernel_rfl) hv)
def arena_Arena_Grow.hint : Hn := .seq (.o 1) (.seq (.seq (.o 4) (.seq (.o 2) (.cond (.seq (.o 2) (.leaf)) (.leaf)))) (.seq (.o 17) (.seq (.seq (.o 2) (.cond (.seq (.o 2) (.leaf)) (.leaf))) (.seq (.o 10) (.leaf)))))
def arena_Arena_Grow.vc (a : Option Addr) (vclass : Int) (σ : Hp) (R : Int -> Hp -> Prop) : Prop :=
 arena_Arena_check.call a vclass σ fun ve v =>
 If (ve != 0) (R ve v)
 (NilP a fun a17 =>
 LdS (a17.add 0) v fun t19 =>
 Ix t19.a t19.len vclass 3 fun a21 =>
 LdI .i64 (a21.add 1) v fun t23 =>
 Ar .i64 (vclass + 1) fun t25 =>
 arena_Arena_get.call a t23 1 t25 v fun t26 t261 v1 =>
 If (t261 != 0) (R t261 v1)
 (NilP a fun a33 =>
 LdS (a33.add 5) v1 fun t35 =>
 Ix t35.a t35.len vclass 1 fun a37 =>
 LdP a37 v1 fun t38 =>
 central_List_Add.call t38 t26 v1 fun t40 v2 =>
 R t40 v2))
theorem arena_Arena_Grow.of_vc {a : Option Addr} {vclass : Int} {σ : Hp} {R : Int -> Hp -> Prop} (hv : arena_Arena_Grow.vc a vclass σ R) : arena_Arena_Grow.call a vclass σ R :=
 fnK_sound Tryz.func116 (x := arena_Arena_Grow.hint) (args := [.pointer a, .int .i64 vclass]) (rs := [.one (.i .i64)]) (R := R) (Eq.mpr (by kernel_rfl) hv)
def arena_Arena_TakePages.hint : Hn := .seq (.o 2) (.seq (.block (.seq (.o 4) (.cond (.seq (.o 2) (.leaf)) (.seq (.reg (.seq [.op, .op, .op, .grd false 2 [.op, .op], .op, .grd false 2 [.op, .op], .op, .grd false 2 [.op, .op], .op, .grd false 5 [.op, .op, .op, .op, .op], .op])) (.cond (.seq (.o 2) (.leaf)) (.leaf)))))) (.seq (.o 9) (.seq (.seq (.o 2) (.cond (.seq (.o 3) (.leaf)) (.leaf))) (.seq (.o 7) (.seq (.o 3) (.leaf))))))
def arena_Arena_TakePages.vc (a : Option Addr) (pages : Int) (align : Int) (σ : Hp) (R : Int -> Int -> Hp -> Prop) : Prop :=
 arena_Arena_made.call a σ fun t12 v =>
 If (!t12) (R 0 5 v)
 (JnB (fun r v1 =>
 JnB (fun r1 v2 =>
 JnB (fun r2 v3 =>
 JnB (fun r3 v4 =>
 If r3 (R 0 1 v4)
 (arena_Arena_get.call a pages align 41 v4 fun t40 t401 v5 =>
 If (t401 != 0) (R 0 t401 v5)
 (NilP a fun a47 =>
 LdM (a47.add 7) v5 fun t49 =>
 MSet .i64 (.i .i64) t49 t40 pages v5 fun v6 =>
 R t40 0 v6))) fun J3 =>
 If r2 (J3 true v3)
 (Ar .i64 (align - 1) fun t32 =>
 J3 ((bits .and .i64 align t32) != 0) v3)) fun J2 =>
 If r1 (J2 true v2)
 (J2 (decide (align > 16)) v2)) fun J1 =>
 If r (J1 true v1)
 (J1 (decide (align < 1)) v1)) fun J =>
 If (decide (pages < 1)) (J true v)
 (J (decide (pages > 64)) v))
theorem arena_Arena_TakePages.of_vc {a : Option Addr} {pages : Int} {align : Int} {σ : Hp} {R : Int -> Int -> Hp -> Prop} (hv : arena_Arena_TakePages.vc a pages align σ R) : arena_Arena_TakePages.call a pages align σ R :=
 fnK_sound Tryz.func118 (x := arena_Arena_TakePages.hint) (args := [.pointer a, .int .i64 pages, .int .i64 align]) (rs := [.one (.i .i64), .one (.i .i64)]) (R := R) (Eq.mpr (by kernel_rfl) hv)
def arena_Arena_GivePages.hint : Hn := .seq (.o 1) (.seq (.seq (.o 3) (.cond (.seq (.o 1) (.leaf)) (.leaf))) (.seq (.o 11) (.seq (.seq (.o 2) (.cond (.seq (.o 1) (.leaf)) (.leaf))) (.seq (.o 6) (.seq (.o 6) (.seq (.o 1) (.leaf)))))))
def arena_Arena_GivePages.vc (a : Option Addr) (start : Int) (σ : Hp) (R : Int -> Hp -> Prop) : Prop :=
 arena_Arena_made.call a σ fun t8 v =>
 If (!t8) (R 5 v)
 (NilP a fun a12 =>
 LdM (a12.add 7) v fun t14 =>
 Lk .i64 (.i .i64) t14 start v fun t16 =>
 If (!t16.isSome) (R 8 v)
 (NilP a fun a22 =>
 LdM (a22.add 7) v fun t24 =>
 MDel .i64 (.i .i64) t24 start v fun v1 =>
 Nw (.cells #[.int .i64 start, .int .i64 (t16.getD 0)] 212 (0, 0)) v1 fun n30 v2 =>
 arena_Arena_back.call a ⟨(some n30), 1, 1⟩ v2 fun v3 =>
 R 0 v3))
theorem arena_Arena_GivePages.of_vc {a : Option Addr} {start : Int} {σ : Hp} {R : Int -> Hp -> Prop} (hv : arena_Arena_GivePages.vc a start σ R) : arena_Arena_GivePages.call a start σ R :=
 fnK_sound Tryz.func126 (x := arena_Arena_GivePages.hint) (args := [.pointer a, .int .i64 start]) (rs := [.one (.i .i64)]) (R := R) (Eq.mpr (by kernel_rfl) hv)
def arena_Arena_back.hint : Hn := .seq (.o 3) (.block (.loop [(8, .one (.i .i64))] (.seq (.o 1) (.seq (.cond (.leaf) (.leaf)) (.seq (.block (.seq (.o 4) (.seq (.reg (.tail 8 [.op, .op, .op, .op, .op, .op, .op, .op] [.op])) (.seq (.reg (.tail 8 [.op, .op, .op, .op, .op, .op, .op, .op] [.op])) (.reg (.tail 8 [.op, .op, .op, .op, .op, .op, .op, .op] [.op])))))) (.o 2))))))
def arena_Arena_back.vc (a : Option Addr) (runs : Sl) (σ : Hp) (R : Hp -> Prop) : Prop :=
 LoopK [(.i .i64)] (fun I => I 0 σ) fun J (t8 : Int) v =>
 If (decide (t8 < ((runs.len : Nat) : Int))) (Ix runs.a runs.len t8 2 fun a10 =>
 LdI .i64 (a10.add 0) v fun t11 =>
 LdI .i64 (a10.add 1) v fun t111 =>
 Nw (.cells #[.int .i64 0, .int .i64 0] 212 (0, 0)) v fun n5 v1 =>
 St1 (n5.add 0) (.int .i64 t11) v1 fun v2 =>
 St1 (n5.add 1) (.int .i64 t111) v2 fun v3 =>
 NilP a fun a13 =>
 LdP (a13.add 4) v3 fun t15 =>
 LdI .i64 (n5.add 0) v3 fun t17 =>
 LdI .i64 (n5.add 1) v3 fun t19 =>
 pagemap_Map_Clear.call t15 t17 t19 v3 fun t20 v4 =>
 NilP a fun a22 =>
 LdP (a22.add 3) v4 fun t24 =>
 LdI .i64 (n5.add 0) v4 fun t26 =>
 LdI .i64 (n5.add 1) v4 fun t28 =>
 huge_Tracker_Unuse.call t24 t26 t28 v4 fun t29 v5 =>
 NilP a fun a31 =>
 LdP (a31.add 2) v5 fun t33 =>
 LdI .i64 (n5.add 0) v5 fun t35 =>
 LdI .i64 (n5.add 1) v5 fun t37 =>
 buddy_Heap_Give.call t33 t35 t37 v5 fun t38 v6 =>
 Ar .i64 (t8 + 1) fun t39 =>
 J t39 v6)
 (R v)
theorem arena_Arena_back.of_vc {a : Option Addr} {runs : Sl} {σ : Hp} {R : Hp -> Prop} (hv : arena_Arena_back.vc a runs σ R) : arena_Arena_back.call a runs σ R :=
 fnK_sound Tryz.func128 (x := arena_Arena_back.hint) (args := [.pointer a, .slice runs.a runs.len runs.cap]) (rs := []) (R := R) (Eq.mpr (by kernel_rfl) hv)
def arena_Arena_ToCentral.hint : Hn := .seq (.o 1) (.seq (.seq (.o 4) (.seq (.o 2) (.cond (.seq (.o 2) (.leaf)) (.leaf)))) (.seq (.o 14) (.seq (.seq (.o 2) (.cond (.seq (.o 2) (.leaf)) (.leaf))) (.seq (.o 3) (.seq (.o 1) (.leaf))))))
def arena_Arena_ToCentral.vc (a : Option Addr) (vclass : Int) (objects : Sl) (σ : Hp) (R : Int -> Hp -> Prop) : Prop :=
 arena_Arena_check.call a vclass σ fun ve v =>
 If (ve != 0) (R ve v)
 (NilP a fun a18 =>
 LdS (a18.add 5) v fun t20 =>
 Ix t20.a t20.len vclass 1 fun a22 =>
 LdP a22 v fun t23 =>
 central_List_Put.call t23 objects v fun t25 t251 v1 =>
 If (t251 != 0) (R t251 v1)
 (arena_Arena_back.call a t25 v1 fun v2 =>
 R 0 v2))
theorem arena_Arena_ToCentral.of_vc {a : Option Addr} {vclass : Int} {objects : Sl} {σ : Hp} {R : Int -> Hp -> Prop} (hv : arena_Arena_ToCentral.vc a vclass objects σ R) : arena_Arena_ToCentral.call a vclass objects σ R :=
 fnK_sound Tryz.func138 (x := arena_Arena_ToCentral.hint) (args := [.pointer a, .int .i64 vclass, .slice objects.a objects.len objects.cap]) (rs := [.one (.i .i64)]) (R := R) (Eq.mpr (by kernel_rfl) hv)
def arena_Arena_Owns.hint : Hn := .seq (.o 1) (.seq (.reg (.seq [.op, .op, .op, .grd true 7 [.op, .op, .op, .op, .op, .op, .op], .op])) (.leaf))
def arena_Arena_Owns.vc (a : Option Addr) (page : Int) (σ : Hp) (R : Bool -> Hp -> Prop) : Prop :=
 arena_Arena_made.call a σ fun t6 v =>
 JnB (fun r v1 =>
 R r v1) fun J =>
 If t6 (NilP a fun a9 =>
 LdP (a9.add 3) v fun t11 =>
 huge_Tracker_State.call t11 page v fun t13 v2 =>
 J (decide (t13 > 0)) v2)
 (J false v)
theorem arena_Arena_Owns.of_vc {a : Option Addr} {page : Int} {σ : Hp} {R : Bool -> Hp -> Prop} (hv : arena_Arena_Owns.vc a page σ R) : arena_Arena_Owns.call a page σ R :=
 fnK_sound Tryz.func155 (x := arena_Arena_Owns.hint) (args := [.pointer a, .int .i64 page]) (rs := [.one .b]) (R := R) (Eq.mpr (by kernel_rfl) hv)
def arena_Arena_check.hint : Hn := .seq (.o 1) (.seq (.block (.seq (.o 4) (.cond (.seq (.o 1) (.leaf)) (.seq (.reg (.seq [.op, .op, .op, .grd false 7 [.op, .op, .op, .op, .op, .op, .op], .op])) (.cond (.seq (.o 1) (.leaf)) (.leaf)))))) (.seq (.o 1) (.leaf)))
def arena_Arena_check.vc (a : Option Addr) (vclass : Int) (σ : Hp) (R : Int -> Hp -> Prop) : Prop :=
 arena_Arena_made.call a σ fun t7 v =>
 If (!t7) (R 5 v)
 (JnB (fun r v1 =>
 If r (R 1 v1)
 (R 0 v1)) fun J =>
 If (decide (vclass < 0)) (J true v)
 (NilP a fun a15 =>
 LdS (a15.add 0) v fun t17 =>
 J (decide (vclass ≥ ((t17.len : Nat) : Int))) v))
theorem arena_Arena_check.of_vc {a : Option Addr} {vclass : Int} {σ : Hp} {R : Int -> Hp -> Prop} (hv : arena_Arena_check.vc a vclass σ R) : arena_Arena_check.call a vclass σ R :=
 fnK_sound Tryz.func163 (x := arena_Arena_check.hint) (args := [.pointer a, .int .i64 vclass]) (rs := [.one (.i .i64)]) (R := R) (Eq.mpr (by kernel_rfl) hv)
def arena_Arena_get.hint : Hn := .seq (.o 2) (.seq (.o 12) (.sjn [(10, .one (.i .i64)), (11, .one (.i .i64))] (.seq (.o 2) (.cond (.seq (.o 1) (.seq (.block (.loop [(12, .one (.i .i64))] (.seq (.seq (.o 5) (.cond (.leaf) (.leaf))) (.block (.o 3))))) (.seq (.seq (.o 4) (.cond (.seq (.o 2) (.leaf)) (.leaf))) (.o 12)))) (.leaf))) (.seq (.seq (.o 2) (.cond (.seq (.o 3) (.leaf)) (.leaf))) (.seq (.o 7) (.seq (.o 8) (.seq (.o 3) (.leaf)))))))
def arena_Arena_get.vc (a : Option Addr) (pages : Int) (align : Int) (no : Int) (σ : Hp) (R : Int -> Int -> Hp -> Prop) : Prop :=
 NilP a fun a15 =>
 LdP (a15.add 2) σ fun t17 =>
 buddy_Heap_Take.call t17 pages align σ fun t20 t201 v =>
 Jn [(.i .i64), (.i .i64)] (fun (start : Int) (ve : Int) v1 =>
 If (ve != 0) (R 0 ve v1)
 (NilP a fun a50 =>
 LdP (a50.add 3) v1 fun t52 =>
 huge_Tracker_Use.call t52 start pages v1 fun t55 v2 =>
 NilP a fun a57 =>
 LdP (a57.add 4) v2 fun t59 =>
 pagemap_Map_Set.call t59 start pages no v2 fun t63 v3 =>
 R start 0 v3)) fun J =>
 If (t201 == 6) (LoopK [(.i .i64)] (fun I => I 16 v) fun J1 (size : Int) v4 =>
 If (decide (size < (if align > pages then align else pages))) (Ar .i64 (size * 2) fun size1 =>
 J1 size1 v4)
 (arena_Arena_grow.call a size v4 fun t34 v5 =>
 If (!t34) (R 0 6 v5)
 (NilP a fun a38 =>
 LdP (a38.add 2) v5 fun t40 =>
 buddy_Heap_Take.call t40 pages align v5 fun t43 t431 v6 =>
 J t43 t431 v6)))
 (J t20 t201 v)
theorem arena_Arena_get.of_vc {a : Option Addr} {pages : Int} {align : Int} {no : Int} {σ : Hp} {R : Int -> Int -> Hp -> Prop} (hv : arena_Arena_get.vc a pages align no σ R) : arena_Arena_get.call a pages align no σ R :=
 fnK_sound Tryz.func166 (x := arena_Arena_get.hint) (args := [.pointer a, .int .i64 pages, .int .i64 align, .int .i64 no]) (rs := [.one (.i .i64), .one (.i .i64)]) (R := R) (Eq.mpr (by kernel_rfl) hv)
def arena_Arena_ToTransfer.hint : Hn := .seq (.o 2) (.seq (.seq (.o 4) (.seq (.o 2) (.cond (.seq (.o 3) (.leaf)) (.leaf)))) (.seq (.seq (.o 11) (.cond (.seq (.o 2) (.leaf)) (.leaf))) (.seq (.seq (.o 3) (.block (.loop [(32, .one (.i .i64))] (.seq (.o 1) (.seq (.cond (.leaf) (.leaf)) (.seq (.block (.seq (.o 3) (.seq (.o 14) (.seq (.reg (.seq [.op, .op, .op, .grd false 2 [.op, .op]])) (.cond (.seq (.o 2) (.leaf)) (.leaf)))))) (.o 2))))))) (.seq (.o 13) (.leaf)))))
def arena_Arena_ToTransfer.vc (a : Option Addr) (vclass : Int) (objects : Sl) (σ : Hp) (R : Bool -> Int -> Hp -> Prop) : Prop :=
 arena_Arena_check.call a vclass σ fun ve v =>
 If (ve != 0) (R false ve v)
 (NilP a fun a22 =>
 LdS (a22.add 0) v fun t24 =>
 Ix t24.a t24.len vclass 3 fun a26 =>
 LdI .i64 (a26.add 2) v fun t28 =>
 If (((objects.len : Nat) : Int) != t28) (R false 1 v)
 (LoopK [(.i .i64)] (fun I => I 0 v) fun J (t32 : Int) v1 =>
 If (decide (t32 < ((objects.len : Nat) : Int))) (Ix objects.a objects.len t32 1 fun a34 =>
 LdI .i64 a34 v1 fun addr =>
 NilP a fun a38 =>
 LdS (a38.add 5) v1 fun t40 =>
 Ix t40.a t40.len vclass 1 fun a42 =>
 LdP a42 v1 fun t43 =>
 central_List_IsTaken.call t43 addr v1 fun t45 t451 v2 =>
 JnB (fun r v3 =>
 If r (R false 8 v3)
 (Ar .i64 (t32 + 1) fun t54 =>
 J t54 v3)) fun J1 =>
 If (t451 != 0) (J1 true v2)
 (J1 (!t45) v2))
 (NilP a fun a56 =>
 LdS (a56.add 6) v1 fun t58 =>
 Ix t58.a t58.len vclass 1 fun a60 =>
 LdP a60 v1 fun t61 =>
 transfer_Cache_Insert.call t61 objects v1 fun t63 t631 v4 =>
 R t63 t631 v4)))
theorem arena_Arena_ToTransfer.of_vc {a : Option Addr} {vclass : Int} {objects : Sl} {σ : Hp} {R : Bool -> Int -> Hp -> Prop} (hv : arena_Arena_ToTransfer.vc a vclass objects σ R) : arena_Arena_ToTransfer.call a vclass objects σ R :=
 fnK_sound Tryz.func174 (x := arena_Arena_ToTransfer.hint) (args := [.pointer a, .int .i64 vclass, .slice objects.a objects.len objects.cap]) (rs := [.one .b, .one (.i .i64)]) (R := R) (Eq.mpr (by kernel_rfl) hv)
def arena_Arena_grow.hint : Hn := .seq (.o 1) (.seq (.seq (.o 2) (.block (.loop [(5, .one (.i .i64))] (.seq (.seq (.o 9) (.cond (.leaf) (.leaf))) (.seq (.block (.seq (.seq (.o 8) (.cond (.leaf) (.leaf))) (.seq (.seq (.o 3) (.block (.loop [(6, .one (.i .i64))] (.seq (.seq (.o 6) (.cond (.leaf) (.leaf))) (.seq (.block (.o 6)) (.o 3)))))) (.seq (.o 7) (.seq (.o 1) (.leaf)))))) (.o 4)))))) (.seq (.o 1) (.leaf)))
def arena_Arena_grow.vc (a : Option Addr) (pages : Int) (σ : Hp) (R : Bool -> Hp -> Prop) : Prop :=
 LoopK [(.i .i64)] (fun I => I pages σ) fun J (start : Int) v =>
 Ar .i64 (start + pages) fun t10 =>
 NilP a fun a12 =>
 LdP (a12.add 1) v fun t14 =>
 space_Space_Pages.call t14 v fun t15 v1 =>
 If (decide (t10 <= t15)) (NilP a fun a21 =>
 LdP (a21.add 1) v1 fun t23 =>
 space_Space_Map.call t23 start pages v1 fun t26 v2 =>
 If (t26 != 0) (Ar .i64 (start + pages) fun start1 =>
 J start1 v2)
 (Nz 16 <| Ar .i64 (start.tdiv 16) fun vh =>
 LoopK [(.i .i64)] (fun I1 => I1 vh v2) fun J1 (vh1 : Int) v3 =>
 Ar .i64 (start + pages) fun t33 =>
 Nz 16 <| Ar .i64 (t33.tdiv 16) fun t34 =>
 If (decide (vh1 < t34)) (NilP a fun a39 =>
 LdP (a39.add 3) v3 fun t41 =>
 huge_Tracker_Add.call t41 vh1 v3 fun t43 v4 =>
 Ar .i64 (vh1 + 1) fun vh2 =>
 J1 vh2 v4)
 (NilP a fun a45 =>
 LdP (a45.add 2) v3 fun t47 =>
 buddy_Heap_Give.call t47 start pages v3 fun t50 v5 =>
 R true v5)))
 (R false v1)
theorem arena_Arena_grow.of_vc {a : Option Addr} {pages : Int} {σ : Hp} {R : Bool -> Hp -> Prop} (hv : arena_Arena_grow.vc a pages σ R) : arena_Arena_grow.call a pages σ R :=
 fnK_sound Tryz.func221 (x := arena_Arena_grow.hint) (args := [.pointer a, .int .i64 pages]) (rs := [.one .b]) (R := R) (Eq.mpr (by kernel_rfl) hv)
end Go.Proofs
namespace Go.Ar
open Go Go.Vc Go.Proofs
open Go.Bu (runOk giveS takeAt)


inductive Lb where
 | hd | tab | free | trk | own | crow | trow | runs
 | cen (k : Nat)
 | tra (k : Nat)
 deriving DecidableEq
structure Lay where
 p : Nat
 hs : Nat
 fr : Nat
 tr : Nat
 op : Nat
 rn : Nat
 tab : Sl
 crow : Sl
 trow : Sl
 cps : List Nat
 tps : List Nat
def hdV (Y : Lay) : List Value := [.slice Y.tab.a Y.tab.len Y.tab.cap, .pointer (some ⟨Y.hs, 0, none⟩), .pointer (some ⟨Y.fr, 0, none⟩), .pointer (some ⟨Y.tr, 0, none⟩), .pointer (some ⟨Y.op, 0, none⟩), .slice Y.crow.a Y.crow.len Y.crow.cap, .slice Y.trow.a Y.trow.len Y.trow.cap, .map (some Y.rn)]
def tabV (tb : List Cls) : List Value := tb.flatMap fun c => [.int .i64 (c.size : Int), .int .i64 (c.pages : Int), .int .i64 (c.batch : Int)]
def ptrV (l : List Nat) : List Value := l.map fun b => .pointer (some ⟨b, 0, none⟩)
def runI (l : List (Nat × Nat)) : List (Int × Int) := l.map fun r => ((r.1 : Int), (r.2 : Int))
def FreeR (p n : Nat) (S : Nat -> Bool) : Hp -> Rg -> Prop := fun σ F => ∃ sb ms, Go.Bu.BH σ p n S sb ms /\ ∀ b, Go.Bu.fp p sb ms b -> F b
def TrkR (p : Nat) (st : List Nat) : Hp -> Rg -> Prop := fun σ F => ∃ q, TrH σ p q st /\ F p /\ F q
def CenR (p : Option Nat) (c : Option Cls) (ss : Option (List SpA)) : Hp -> Rg -> Prop := fun σ F => match p, c, ss with
 | some p, some c, some ss => ∃ ps, CeH σ F p c ps ss
 | _, _, _ => True
def TraR (p : Option Nat) (c : Option Cls) (room : Nat) (t : Option TrA) : Hp -> Rg -> Prop := fun σ F => match p, c, t with
 | some p, some c, some t => TfH σ F p c.batch room t
 | _, _, _ => True
def AC (A : AR) (Y : Lay) (T : Nat -> Hp -> Rg -> Prop) : Lb -> Hp -> Rg -> Prop
 | .hd => BlkR Y.p (hdV Y)
 | .tab => SlR Y.tab 3 (tabV A.tb)
 | .free => FreeR Y.fr A.n A.S
 | .trk => TrkR Y.tr A.st
 | .own => fun σ F => PmH σ F Y.op A.ow
 | .crow => RowR Y.crow 1 (ptrV Y.cps)
 | .trow => RowR Y.trow 1 (ptrV Y.tps)
 | .runs => MapR Y.rn .i64 (.i .i64) (runI A.runs)
 | .cen k => CenR Y.cps[k]? A.tb[k]? A.cen[k]?
 | .tra k => T k
def traT (A : AR) (Y : Lay) (k : Nat) : Hp -> Rg -> Prop := TraR Y.tps[k]? A.tb[k]? A.room A.tra[k]?
theorem FreeR.loc (p n : Nat) (S : Nat -> Bool) : Lcl (FreeR p n S) := by
 rintro σ σ' F G ⟨sb, ms, h, hf⟩ hz hs
 have hlt : ∀ b, Go.Bu.fp p sb ms b -> b < σ.size := fun b hb => by
  unfold Go.Bu.fp at hb
  rcases List.mem_cons.1 hb with h1 | h1
  ·obtain ⟨c, hc⟩ := h.hd; rw [h1]; exact hc.lt
  rcases List.mem_cons.1 h1 with h2 | h2
  ·obtain ⟨c, hc⟩ := h.row; rw [h2]; exact hc.lt
  ·obtain ⟨k, hk⟩ := List.getElem?_of_mem h2
   obtain ⟨B, hB, _⟩ := h.maps k b hk
   exact hB.lt
 have e : Ext (fun b => ¬ Go.Bu.fp p sb ms b) σ σ' := ⟨hz, fun b hb hf' => (hs b hb (hf b (Classical.not_not.1 hf'))).2⟩
 exact ⟨sb, ms, h.keep e fun b hb hn => hn hb, fun b hb => (hs b (hlt b hb) (hf b hb)).1⟩
theorem TrkR.loc (p : Nat) (st : List Nat) : Lcl (TrkR p st) := by
 rintro σ σ' F G ⟨q, h, hp, hq⟩ hz hs
 have e : Ext (fun b => b ≠ p /\ b ≠ q) σ σ' := ⟨hz, fun b hb hf => by
  by_cases h1 : b = p
  ·subst h1; exact (hs b hb hp).2
  ·have h2 : b = q := Classical.byContradiction fun h2 => hf ⟨h1, h2⟩
   subst h2; exact (hs b hb hq).2⟩
 exact ⟨q, h.keep e (fun hx => hx.1 rfl) (fun hx => hx.2 rfl), (hs p h.lt.1 hp).1, (hs q h.lt.2 hq).1⟩
theorem CenR.loc (p : Option Nat) (c : Option Cls) (ss : Option (List SpA)) : Lcl (CenR p c ss) := by
 rintro σ σ' F G h hz hs
 unfold CenR at *
 split
 ·simp only at h
  obtain ⟨ps, h⟩ := h
  exact ⟨ps, CeH.loc _ _ _ _ h hz hs⟩
 ·trivial
theorem TraR.loc (p : Option Nat) (c : Option Cls) (room : Nat) (t : Option TrA) : Lcl (TraR p c room t) := by
 rintro σ σ' F G h hz hs
 unfold TraR at *
 split
 ·exact TfH.loc _ _ _ _ h hz hs
 ·trivial
theorem AC.loc {A : AR} {Y : Lay} {T : Nat -> Hp -> Rg -> Prop} (hT : ∀ k, Lcl (T k)) : ∀ i, Lcl (AC A Y T i)
 | .hd => BlkR.loc _ _
 | .tab => SlR.loc _ _ _
 | .free => FreeR.loc _ _ _
 | .trk => TrkR.loc _ _
 | .own => PmH.loc
 | .crow => RowR.loc _ _ _
 | .trow => RowR.loc _ _ _
 | .runs => MapR.loc _ _ _ _
 | .cen k => CenR.loc _ _ _
 | .tra k => hT k
theorem traT.loc {A : AR} {Y : Lay} (k : Nat) : Lcl (traT A Y k) := TraR.loc _ _ _ _
structure LayOk (A : AR) (Y : Lay) : Prop where
 c : Y.cps.length = A.tb.length
 t : Y.tps.length = A.tb.length
 cen : A.cen.length = A.tb.length
 tra : A.tra.length = A.tb.length
 tb1 : 1 <= A.tb.length
 tb2 : A.tb.length <= 40
 n1 : 32 <= A.n
 n2 : A.n <= 1024
 n3 : A.n % 16 = 0
 st : A.st.length = A.n
 room : A.room <= 8
 ok : ∀ c ∈ A.tb, c.ok
structure AHY (σ : Hp) (F : Rg) (Y : Lay) (A : AR) (T : Nat -> Hp -> Rg -> Prop) : Prop where
 lay : LayOk A Y
 tl : ∀ k, Lcl (T k)
 sep : Sep (AC A Y T) σ F
def AH (σ : Hp) (F : Rg) (p hs : Nat) (A : AR) : Prop := ∃ Y : Lay, Y.p = p /\ Y.hs = hs /\ AHY σ F Y A (traT A Y)
variable {σ : Hp} {F : Rg} {p hs : Nat} {A : AR} {Y : Lay} {T : Nat -> Hp -> Rg -> Prop}
theorem AHY.loc : Lcl fun σ F => AHY σ F Y A T := fun σ σ' F G h hz hs => ⟨h.lay, h.tl, Sep.loc (AC.loc h.tl) _ _ _ _ h.sep hz hs⟩
theorem AH.loc : Lcl fun σ F => AH σ F p hs A := fun σ σ' F G ⟨Y, h1, h2, h⟩ hz hs => ⟨Y, h1, h2, AHY.loc _ _ _ _ h hz hs⟩
theorem AHY.keep0 {σ' : Hp} (h : AHY σ F Y A T) (e : Ext0 σ σ') : AHY σ' F Y A T := Lcl.keep0 AHY.loc h e
theorem AHY.hd (h : AHY σ F Y A T) : Blk σ Y.p (hdV Y) := by
 obtain ⟨G, hG, hp, hb⟩ := h.sep.get .hd
 exact hb
theorem tabV_len (tb : List Cls) : (tabV tb).length = tb.length * 3 := by
 induction tb with
 | nil => rfl
 | cons x l ih => simp only [tabV, List.flatMap_cons, List.length_append, List.length_cons, List.length_nil] at *; omega
theorem tabV_get {tb : List Cls} {i : Nat} {c : Cls} (h : tb[i]? = some c) : (tabV tb)[3 * i]? = some (.int .i64 (c.size : Int)) /\ (tabV tb)[3 * i + 1]? = some (.int .i64 (c.pages : Int)) /\ (tabV tb)[3 * i + 2]? = some (.int .i64 (c.batch : Int)) := by
 induction tb generalizing i with
 | nil => simp at h
 | cons x l ih =>
  have e : tabV (x :: l) = [.int .i64 (x.size : Int), .int .i64 (x.pages : Int), .int .i64 (x.batch : Int)] ++ tabV l := by simp [tabV]
  rw [e]
  cases i with
  | zero => simp at h; subst h; simp
  | succ i =>
   have := ih (i := i) (by simpa using h)
   rw [show 3 * (i + 1) = 3 * i + 3 by omega]
   simpa using this
theorem AHY.tabL (h : AHY σ F Y A T) : Y.tab.len = A.tb.length := by
 obtain ⟨G, hG, hb⟩ := h.sep.get .tab
 have := hb.1
 rw [tabV_len] at this; omega
theorem tab_rd {s : Sl} {tb : List Cls} (h : SlR s 3 (tabV tb) σ F) {k d : Nat} {c : Cls} (hc : tb[k]? = some c) (hd : d < 3) {K : Int -> Prop} (hK : K (if d = 0 then c.size else if d = 1 then c.pages else c.batch : Nat)) :
 Ix s.a s.len (k : Int) 3 fun a => LdI .i64 (a.add d) σ K := by
 have hg := tabV_get hc
 have hv : (tabV tb)[3 * k + d]? = some (.int .i64 ((if d = 0 then c.size else if d = 1 then c.pages else c.batch : Nat) : Int)) := by
  match d, hd with
  | 0, _ => exact hg.1
  | 1, _ => exact hg.2.1
  | 2, _ => exact hg.2.2
 have hk := (List.getElem?_eq_some_iff.1 hc).1
 obtain ⟨b, o, ha, hcell⟩ := h.cell hv
 have hl := h.1
 rw [tabV_len] at hl
 rw [ha]
 refine ix (by omega) (by omega) ?_
 rw [add_lit, add_lit]
 refine ldI ?_ hK
 rw [show o + (k : Int).toNat * 3 + d = o + (3 * k + d) by omega]; exact hcell
theorem AHY.tabR (h : AHY σ F Y A T) {k d : Nat} {c : Cls} (hc : A.tb[k]? = some c) (hd : d < 3) {K : Int -> Prop} (hK : K (if d = 0 then c.size else if d = 1 then c.pages else c.batch : Nat)) :
 Ix Y.tab.a Y.tab.len (k : Int) 3 fun a => LdI .i64 (a.add d) σ K := by
 obtain ⟨G, hG, hb⟩ := h.sep.get .tab
 exact tab_rd hb hc hd hK
theorem ptr_rd {s : Sl} {l : List Nat} (h : SlR s 1 (ptrV l) σ F) {k q : Nat} (hq : l[k]? = some q) {K : Option Addr -> Prop} (hK : K (some ⟨q, 0, none⟩)) : Ix s.a s.len (k : Int) 1 fun a => LdP a σ K := by
 have hk := (List.getElem?_eq_some_iff.1 hq).1
 obtain ⟨b, o, ha, hcell⟩ := h.cell (j := k) (v := .pointer (some ⟨q, 0, none⟩)) (by simp [ptrV, hq])
 have hl := h.1
 simp [ptrV] at hl
 rw [ha]
 refine ix (by omega) (by omega) ?_
 rw [add_lit]
 exact ldP (by rw [show o + (k : Int).toNat * 1 = o + k by omega]; exact hcell) hK
theorem AHY.crowR (h : AHY σ F Y A T) {k q : Nat} (hq : Y.cps[k]? = some q) {K : Option Addr -> Prop} (hK : K (some ⟨q, 0, none⟩)) : Ix Y.crow.a Y.crow.len (k : Int) 1 fun a => LdP a σ K := by
 obtain ⟨G, hG, hb⟩ := h.sep.get .crow
 exact ptr_rd (RowR.slR hb) hq hK
theorem AHY.trowR (h : AHY σ F Y A T) {k q : Nat} (hq : Y.tps[k]? = some q) {K : Option Addr -> Prop} (hK : K (some ⟨q, 0, none⟩)) : Ix Y.trow.a Y.trow.len (k : Int) 1 fun a => LdP a σ K := by
 obtain ⟨G, hG, hb⟩ := h.sep.get .trow
 exact ptr_rd (RowR.slR hb) hq hK
theorem AHY.at_ (h : AHY σ F Y A T) {k : Nat} (hk : k < A.tb.length) : ∃ c ss q t r, A.tb[k]? = some c /\ A.cen[k]? = some ss /\ Y.cps[k]? = some q /\ A.tra[k]? = some t /\ Y.tps[k]? = some r /\ c.ok := by
 have h1 := h.lay.c; have h2 := h.lay.t; have h3 := h.lay.cen; have h4 := h.lay.tra
 exact ⟨A.tb[k], A.cen[k], Y.cps[k], A.tra[k], Y.tps[k], by simp, by simp, by simp, by simp, by simp, h.lay.ok _ (List.getElem_mem hk)⟩
theorem C_cen {k q : Nat} {c : Cls} {ss : List SpA} {G : Rg} (h1 : Y.cps[k]? = some q) (h2 : A.tb[k]? = some c) (h3 : A.cen[k]? = some ss) (h : AC A Y T (.cen k) σ G) : ∃ ps, CeH σ G q c ps ss := by
 simp only [AC] at h
 rw [h1, h2, h3] at h
 exact h
theorem AHY.cen (h : AHY σ F Y A T) {k q : Nat} {c : Cls} {ss : List SpA} (h1 : Y.cps[k]? = some q) (h2 : A.tb[k]? = some c) (h3 : A.cen[k]? = some ss) : ∃ G ps, (∀ b, G b -> F b) /\ CeH σ G q c ps ss := by
 obtain ⟨G, hG, hb⟩ := h.sep.get (.cen k)
 obtain ⟨ps, hc⟩ := C_cen h1 h2 h3 hb
 exact ⟨G, ps, hG, hc⟩
theorem amade_ok (h : AHY σ F Y A T) {R : Bool -> Hp -> Prop} (hR : R true σ) : arena_Arena_made.call (some ⟨Y.p, 0, none⟩) σ R := by
 refine arena_Arena_made.of_vc ?_
 unfold arena_Arena_made.vc
 exact JnB.intro (ifT rfl (nilP (h.hd.rP rfl hR)))
theorem acheck_ok (h : AHY σ F Y A T) (k : Int) {R : Int -> Hp -> Prop} (h1 : A.ck k = false -> R 1 σ) (h0 : ∀ x : Nat, k = x -> x < A.tb.length -> R 0 σ) : arena_Arena_check.call (some ⟨Y.p, 0, none⟩) k σ R := by
 refine arena_Arena_check.of_vc ?_
 unfold arena_Arena_check.vc
 have hl := h.tabL
 have bad : ¬ (0 <= k /\ k < A.tb.length) -> R 1 σ := fun hn => h1 (by unfold AR.ck; rw [← Bool.decide_and]; exact decide_eq_false hn)
 refine amade_ok h (ifF rfl (JnB.intro (ifD (fun c1 => ifT rfl (bad (by omega))) fun c1 => nilP (h.hd.rS rfl (ifD (fun c2 => ?_) fun c2 => ?_)))))
 ·simp only at c2; exact bad (by omega)
 ·simp only at c2; exact h0 k.toNat (by omega) (by omega)
theorem Owns_ok (h : AHY σ F Y A T) (x : Int) {R : Bool -> Hp -> Prop} (hR : R (ownsA A x) σ) : arena_Arena_Owns.call (some ⟨Y.p, 0, none⟩) x σ R := by
 refine arena_Arena_Owns.of_vc ?_
 unfold arena_Arena_Owns.vc
 obtain ⟨G, hG, q, hT, _⟩ := h.sep.get .trk
 refine amade_ok h (JnB.intro (ifT rfl (nilP (h.hd.rP rfl (TState_ok hT x ?_)))))
 have : decide (stI A.st x > 0) = ownsA A x := by
  unfold stI ownsA
  by_cases hx : 0 <= x
  ·by_cases hl : x < A.st.length
   ·rw [if_pos ⟨hx, hl⟩, decide_eq_true hx, Bool.true_and, decide_eq_decide]; omega
   ·rw [if_neg (by omega), decide_eq_true hx, Bool.true_and, List.getD_eq_getElem?_getD, List.getElem?_eq_none (by omega)]; rfl
  ·rw [if_neg (by omega), decide_eq_false hx]; rfl
 rw [this]; exact hR
structure RunsOk (A : AR) : Prop where
 dis : ∀ r ∈ A.runs, ∀ s ∈ A.runs, ∀ x, r.1 <= x -> x < r.1 + r.2 -> s.1 <= x -> x < s.1 + s.2 -> r = s
 big : ∀ x, x < 1024 -> A.ow x = 41 -> (runOf A x).isSome = true
 cls : ∀ x, x < 1024 -> A.ow x ≠ 0 -> A.ow x ≠ 41 -> A.ow x <= A.tb.length
 fit : ∀ r ∈ A.runs, r.1 + r.2 <= 1024
theorem runOf_is (h : RunsOk A) {x : Nat} {r : Nat × Nat} (hr : r ∈ A.runs) (h1 : r.1 <= x) (h2 : x < r.1 + r.2) : runOf A x = some r := by
 cases hf : runOf A x with
 | none =>
  unfold runOf at hf
  rw [List.find?_eq_none] at hf
  have := hf r hr
  simp [h1, h2] at this
 | some s =>
  unfold runOf at hf
  have hs := List.mem_of_find?_eq_some hf
  have hp := List.find?_some hf
  simp at hp
  rw [h.dis r hr s hs x h1 h2 hp.1 hp.2]
theorem Find_ok (h : AHY σ F Y A T) (hr : RunsOk A) (x : Int) (hx : I63 x) {R : Int -> Int -> Int -> Hp -> Prop} (h1 : ∀ σ' k a, Ext0 σ σ' -> findA A x = some (k, a) -> R k (a : Int) 0 σ') (h0 : ∀ σ', Ext0 σ σ' -> findA A x = none -> R 0 0 8 σ') :
 arena_Arena_Find.call (some ⟨Y.p, 0, none⟩) x σ R := by
 refine arena_Arena_Find.of_vc ?_
 unfold arena_Arena_Find.vc
 refine amade_ok h (ifF rfl (ifD (fun c1 => h0 σ (Ext.refl _ _) (by unfold findA; rw [if_pos c1])) fun c1 => nilP (h.hd.rP rfl (nz (by decide) ?_))))
 obtain ⟨y, rfl⟩ := Int.eq_ofNat_of_zero_le (show 0 <= x by omega)
 have hy : y <= 9223372036854775807 := by unfold I63 at hx; omega
 have tp : ((y : Int).tdiv 256) = ((y / 256 : Nat) : Int) := by rw [tdiv_nn (by omega)]; simp
 refine ar (by rw [tp]; omega) (by rw [tp]; omega) ?_
 rw [tp]
 obtain ⟨G, hG, hP⟩ := h.sep.get .own
 refine Get_ok hP _ ?_
 have eo : owI A.ow ((y / 256 : Nat) : Int) = if y / 256 < 1024 then A.ow (y / 256) else 0 := by
  unfold owI
  by_cases hl : y / 256 < 1024
  ·rw [if_pos (by omega), if_pos hl]; rfl
  ·rw [if_neg (by omega), if_neg hl]
 have ef : findA A (y : Int) = (let no := if y / 256 < 1024 then A.ow (y / 256) else 0
  if no = 0 then none else if no = 41 then (runOf A (y / 256)).map fun r => (-1, r.1 * 256) else
  match A.tb[no - 1]?, A.cen[no - 1]? with
  | some c, some ss => (findC c ss (y : Int)).map fun a => (((no - 1 : Nat) : Int), a)
  | _, _ => none) := by
  unfold findA; rw [if_neg c1]; rfl
 rw [eo]
 generalize hno : (if y / 256 < 1024 then A.ow (y / 256) else 0) = no at *
 simp only at ef
 rw [beqN0]
 refine iff_ (fun e0 => h0 σ (Ext.refl _ _) (by rw [ef, if_pos (by simpa using e0)])) fun e0 => ?_
 have hne : no ≠ 0 := by simpa using e0
 rw [if_neg hne] at ef
 have hlt : y / 256 < 1024 := by
  rcases Nat.lt_or_ge (y / 256) 1024 with h | h
  ·exact h
  ·rw [if_neg (by omega)] at hno; exact absurd hno.symm hne
 rw [if_pos hlt] at hno
 refine Jn.intro ?_
 have e41 : (((no : Nat) : Int) == 41) = (no == 41) := beqN no 41
 rw [e41]
 refine iff_ (fun c2 => ?_) fun c2 => ?_
 ·have h41 : no = 41 := by simpa using c2
  subst h41
  rw [if_pos rfl] at ef
  obtain ⟨r, hrr⟩ := Option.isSome_iff_exists.1 (hr.big _ hlt hno)
  have hrm := List.mem_of_find?_eq_some hrr
  have hrp := List.find?_some hrr
  simp at hrp
  obtain ⟨G, hG, hRm⟩ := h.sep.get .runs
  refine nilP (h.hd.rM rfl ?_)
  refine rng0 hRm.2 (fun todo v => Ext0 σ v /\ (∀ z ∈ todo, z ∈ runI A.runs) /\ ((r.1 : Int), (r.2 : Int)) ∈ todo) (fun v hz e => ⟨e, fun z hz => hz, List.mem_map.2 ⟨r, hrm, rfl⟩⟩) (fun v hv => absurd hv.2.2 (by simp)) ?_
  rintro todo n z v v' J ⟨e, hsub, hmem⟩ hm ho hlt2 hJ
  have e' : Ext0 σ v' := Ext.fresh e ho.ext fun i hi => by omega
  obtain ⟨s, hs, hse⟩ := List.mem_map.1 (hsub _ hm)
  cases hse
  have hfit := hr.fit s hs
  refine nz (by decide) (ar (by omega) (by omega) ?_)
  refine JnB.intro (ifD (fun c3 => ar (by omega) (by omega) (ifD (fun c4 => ?_) fun c4 => ?_)) fun c3 => ifF rfl ?_)
  ·have hsr := runOf_is hr hs (x := y / 256) (by omega) (by omega)
   refine ar (by omega) (by omega) ?_
   have := h1 v' (-1) (s.1 * 256) e' (by rw [ef, hsr]; rfl)
   simpa using this
  ·refine hJ v' rfl rfl ⟨e', fun u hu => hsub u (List.mem_filter.1 hu).1, List.mem_filter.2 ⟨hmem, ?_⟩⟩
   have : ¬ (r.1 : Int) = (s.1 : Int) := fun e => by
    have := runOf_is hr hrm hrp.1 hrp.2
    have e1 : r.1 = s.1 := by omega
    by_cases h2 : r.2 = 0
    ·omega
    by_cases h3 : s.2 = 0
    ·have := hRm.2.nodup
     have hkk := mget_of_mem this (List.mem_map.2 ⟨r, hrm, rfl⟩)
     have hkk2 := mget_of_mem this (List.mem_map.2 ⟨s, hs, rfl⟩)
     rw [e1, hkk2] at hkk
     have : s.2 = r.2 := by
      have : (s.2 : Int) = (r.2 : Int) := Option.some.inj hkk
      omega
     omega
    ·have := hr.dis r hrm s hs r.1 (by omega) (by omega) (by omega) (by omega)
     subst this; omega
   simpa using this
  ·refine hJ v' rfl rfl ⟨e', fun u hu => hsub u (List.mem_filter.1 hu).1, List.mem_filter.2 ⟨hmem, ?_⟩⟩
   have : ¬ (r.1 : Int) = (s.1 : Int) := fun e => by omega
   simpa using this
 ·have h41 : no ≠ 41 := by simpa using c2
  rw [if_neg h41] at ef
  have hcl := hr.cls _ hlt (by rw [hno]; exact hne) (by rw [hno]; exact h41)
  rw [hno] at hcl
  obtain ⟨c, ss, q, t, r, hc, hss, hq, _, _, hok⟩ := h.at_ (k := no - 1) (by omega)
  obtain ⟨G, ps, hG, hC⟩ := h.cen hq hc hss
  rw [hc, hss] at ef
  simp only at ef
  refine nilP (h.hd.rS rfl (arN (m := no - 1) (by omega) (by have := h.lay.tb2; omega) (h.crowR hq (CFind_ok hC _ hx (fun a ha => ?_) fun ha => ?_))))
  ·refine ifF rfl (arN (m := no - 1) (by omega) (by have := h.lay.tb2; omega) (h1 σ _ a (Ext.refl _ _) ?_))
   rw [ef, ha]; rfl
  ·refine ifT rfl (h0 σ (Ext.refl _ _) ?_)
   rw [ef, ha]; rfl
end Go.Ar
namespace Go.Ar
open Go Go.Vc Go.Proofs
open Go.Bu (runOk giveS takeAt)


open Classical in
theorem _root_.Go.Vc.Sep.stepD {L : Type} {C : L -> Hp -> Rg -> Prop} {σ : Hp} {F : Rg} (hC : ∀ i, Lcl (C i)) (h : Sep C σ F) (i : L) : ∃ G : Rg, (∀ b, G b -> F b) /\ C i σ G /\ (∀ j, j ≠ i -> ∃ H : Rg, (∀ b, H b -> F b) /\ (∀ b, H b -> ¬ G b) /\ C j σ H) /\ ∀ (σ' : Hp) (C' : L -> Hp -> Rg -> Prop) (G' : Rg),
 (∀ j, j ≠ i -> C' j = C j) -> Ext G σ σ' -> (∀ b, G' b -> G b ∨ σ.size <= b) -> C' i σ' G' -> Lcl (C' i) -> Sep C' σ' fun b => F b /\ b < σ.size /\ ¬ G b ∨ G' b := by
 obtain ⟨ρ, h⟩ := h
 refine ⟨_, fun b hb => hb.1, h i, fun j hj => ⟨_, fun b hb => hb.1, fun b h1 h2 => hj (h1.2.symm.trans h2.2), h j⟩, fun σ' C' G' hj e hg hi hL => ⟨fun b => if G' b then i else ρ b, fun j => ?_⟩⟩
 by_cases hji : j = i
 ·subst hji
  exact hL.mono hi fun b _ hb => ⟨.inr hb, if_pos hb⟩
 ·rw [hj j hji]
  refine hC j _ _ _ _ (h j) e.1 fun b hb hf => ?_
  have hnG : ¬ (F b /\ ρ b = i) := fun hx => hji (hf.2.symm.trans hx.2)
  have hnG' : ¬ G' b := fun hx => by
   rcases hg b hx with h1 | h1
   ·exact hnG h1
   ·omega
  exact ⟨⟨.inl ⟨hf.1, hb, hnG⟩, (if_neg hnG').trans hf.2⟩, e.2 b hb hnG⟩
variable {σ : Hp} {F : Rg} {p hs : Nat} {A : AR} {Y : Lay} {T : Nat -> Hp -> Rg -> Prop}
theorem AHY.step (h : AHY σ F Y A T) (i : Lb) : ∃ G : Rg, (∀ b, G b -> F b) /\ AC A Y T i σ G /\ (∀ j, j ≠ i -> ∃ H : Rg, (∀ b, H b -> F b) /\ (∀ b, H b -> ¬ G b) /\ AC A Y T j σ H) /\ ∀ (σ' : Hp) (A' : AR) (Y' : Lay) (T' : Nat -> Hp -> Rg -> Prop) (G' H : Rg),
 LayOk A' Y' -> (∀ k, Lcl (T' k)) -> (∀ j, j ≠ i -> AC A' Y' T' j = AC A Y T j) -> Ext G σ σ' -> (∀ b, G' b -> G b ∨ σ.size <= b) -> AC A' Y' T' i σ' G' -> (∀ b, (F b /\ b < σ.size /\ ¬ G b ∨ G' b) -> H b) -> AHY σ' H Y' A' T' := by
 obtain ⟨G, hG, hi, hd, hput⟩ := h.sep.stepD (AC.loc h.tl) i
 refine ⟨G, hG, hi, hd, fun σ' A' Y' T' G' H hL hT hj e hg hi' hH => ⟨hL, hT, ?_⟩⟩
 exact (Sep.loc (AC.loc hT)).mono (hput σ' _ G' hj e hg hi' (AC.loc hT i)) fun b _ hb => hH b hb
theorem grow_of {σ : Hp} {F G G' : Rg} (hG : ∀ b, G b -> F b) (hg : ∀ b, G' b -> G b ∨ σ.size <= b) : ∀ b, (F b /\ b < σ.size /\ ¬ G b ∨ G' b) -> Grow F σ b := fun b hb => by
 rcases hb with hb | hb
 ·exact .inl hb.1
 ·exact (hg b hb).imp (hG b) id
theorem same_of {σ : Hp} {F G G' : Rg} (hG : ∀ b, G b -> F b) (hg : ∀ b, G' b -> G b) : ∀ b, (F b /\ b < σ.size /\ ¬ G b ∨ G' b) -> F b := fun b hb => by
 rcases hb with hb | hb
 ·exact hb.1
 ·exact hG b (hg b hb)
theorem cut_of {σ : Hp} {F G : Rg} (hG : ∀ b, G b -> F b) : ∀ b, (F b /\ b < σ.size /\ ¬ G b ∨ Cut G σ b) -> Cut F σ b := fun b hb => by
 rcases hb with hb | hb
 ·exact ⟨hb.1, hb.2.1⟩
 ·exact ⟨hG b hb.1, hb.2⟩
theorem AC_ow {ow : Nat -> Nat} : ∀ j, j ≠ Lb.own -> AC { A with ow := ow } Y T j = AC A Y T j := by
 intro j hj; cases j <;> first | rfl | exact absurd rfl hj
theorem AC_st {st : List Nat} : ∀ j, j ≠ Lb.trk -> AC { A with st := st } Y T j = AC A Y T j := by
 intro j hj; cases j <;> first | rfl | exact absurd rfl hj
theorem AC_S {S : Nat -> Bool} : ∀ j, j ≠ Lb.free -> AC { A with S := S } Y T j = AC A Y T j := by
 intro j hj; cases j <;> first | rfl | exact absurd rfl hj
theorem AC_runs {rs : List (Nat × Nat)} : ∀ j, j ≠ Lb.runs -> AC { A with runs := rs } Y T j = AC A Y T j := by
 intro j hj; cases j <;> first | rfl | exact absurd rfl hj
theorem AC_cen {k : Nat} {ss : List SpA} : ∀ j, j ≠ Lb.cen k -> AC { A with cen := A.cen.set k ss } Y T j = AC A Y T j := by
 intro j hj
 cases j <;> first | rfl | skip
 rename_i k'
 have hne : k ≠ k' := fun e => hj (by rw [e])
 simp only [AC]
 rw [List.getElem?_set_ne hne]
theorem LayOk.ow {ow : Nat -> Nat} (h : LayOk A Y) : LayOk { A with ow := ow } Y := ⟨h.c, h.t, h.cen, h.tra, h.tb1, h.tb2, h.n1, h.n2, h.n3, h.st, h.room, h.ok⟩
theorem LayOk.setS {S : Nat -> Bool} (h : LayOk A Y) : LayOk { A with S := S } Y := ⟨h.c, h.t, h.cen, h.tra, h.tb1, h.tb2, h.n1, h.n2, h.n3, h.st, h.room, h.ok⟩
theorem LayOk.setRuns {rs : List (Nat × Nat)} (h : LayOk A Y) : LayOk { A with runs := rs } Y := ⟨h.c, h.t, h.cen, h.tra, h.tb1, h.tb2, h.n1, h.n2, h.n3, h.st, h.room, h.ok⟩
theorem LayOk.setSt {st : List Nat} (h : LayOk A Y) (hl : st.length = A.st.length) : LayOk { A with st := st } Y := ⟨h.c, h.t, h.cen, h.tra, h.tb1, h.tb2, h.n1, h.n2, h.n3, hl.trans h.st, h.room, h.ok⟩
theorem LayOk.setCen {k : Nat} {ss : List SpA} (h : LayOk A Y) : LayOk { A with cen := A.cen.set k ss } Y := ⟨h.c, h.t, by simpa using h.cen, h.tra, h.tb1, h.tb2, h.n1, h.n2, h.n3, h.st, h.room, h.ok⟩
theorem turnT_len (st : List Nat) (a m : Int) (v : Nat) (fr : List Nat) : (turnT st a m v fr).length = st.length := by
 unfold turnT; split <;> simp [setR_len]
theorem addT_len (st : List Nat) (k : Int) : (addT st k).length = st.length := by
 unfold addT; split <;> simp [setR_len]
theorem AHY.Clear (h : AHY σ F Y A T) (a m : Nat) (ha : a <= 1000000) {R : Int -> Hp -> Prop} (hR : ∀ σ' t, Ext F σ σ' -> AHY σ' (Grow F σ) Y { A with ow := setO A.ow a m 0 } T -> R t σ') : pagemap_Map_Clear.call (some ⟨Y.op, 0, none⟩) a m σ R := by
 obtain ⟨G, hG, hi, _, hput⟩ := h.step .own
 refine PClear_ok hi a m ha fun σ' e hP => hR σ' _ (e.sub hG) ?_
 exact hput σ' _ _ T (Grow G σ) _ h.lay.ow h.tl AC_ow e (fun b hb => hb) hP (grow_of hG fun b hb => hb)
theorem AHY.Set (h : AHY σ F Y A T) (a m : Nat) (ha : a <= 1000000) {no : Nat} (h1 : 1 <= no) (h2 : no <= 1000) {R : Int -> Hp -> Prop} (hR : ∀ σ' t, Ext F σ σ' -> AHY σ' (Grow F σ) Y { A with ow := setO A.ow a m no } T -> R t σ') : pagemap_Map_Set.call (some ⟨Y.op, 0, none⟩) a m no σ R := by
 obtain ⟨G, hG, hi, _, hput⟩ := h.step .own
 refine PSet_ok hi a m ha h1 h2 fun σ' e hP => hR σ' _ (e.sub hG) ?_
 exact hput σ' _ _ T (Grow G σ) _ h.lay.ow h.tl AC_ow e (fun b hb => hb) hP (grow_of hG fun b hb => hb)
theorem AHY.trk (h : AHY σ F Y A T) : ∃ G : Rg, (∀ b, G b -> F b) /\ ∃ q, TrH σ Y.tr q A.st /\ F q /\ ∀ (σ' : Hp) (st : List Nat), st.length = A.st.length -> Ext (· = q) σ σ' -> TrH σ' Y.tr q st -> Ext F σ σ' /\ AHY σ' F Y { A with st := st } T := by
 obtain ⟨G, hG, ⟨q, hT, gp, gq⟩, _, hput⟩ := h.step .trk
 refine ⟨G, hG, q, hT, hG _ gq, fun σ' st hl e h' => ⟨e.sub fun b hb => by subst hb; exact hG _ gq, ?_⟩⟩
 exact hput σ' _ _ T G _ (h.lay.setSt hl) h.tl AC_st (e.sub fun b hb => by subst hb; exact gq) (fun b hb => .inl hb) ⟨q, h', gp, gq⟩ (same_of hG fun b hb => hb)
theorem AHY.Unuse (h : AHY σ F Y A T) (a m : Int) {R : Int -> Hp -> Prop} (hR : ∀ σ' t, Ext F σ σ' -> AHY σ' F Y { A with st := turnT A.st a m 2 [1] } T -> R t σ') : huge_Tracker_Unuse.call (some ⟨Y.tr, 0, none⟩) a m σ R := by
 obtain ⟨G, hG, q, hT, _, hput⟩ := h.trk
 refine Unuse_ok hT a m fun σ' e h' => ?_
 have := hput σ' _ (turnT_len _ _ _ _ _) e h'
 exact hR σ' _ this.1 this.2
theorem AHY.Use (h : AHY σ F Y A T) (a m : Int) {R : Int -> Hp -> Prop} (hR : ∀ σ' t, Ext F σ σ' -> AHY σ' F Y { A with st := turnT A.st a m 1 [2, 3] } T -> R t σ') : huge_Tracker_Use.call (some ⟨Y.tr, 0, none⟩) a m σ R := by
 obtain ⟨G, hG, q, hT, _, hput⟩ := h.trk
 refine Use_ok hT a m fun σ' e h' => ?_
 have := hput σ' _ (turnT_len _ _ _ _ _) e h'
 exact hR σ' _ this.1 this.2
theorem AHY.AddH (h : AHY σ F Y A T) (k : Int) {R : Int -> Hp -> Prop} (hR : ∀ σ' t, Ext F σ σ' -> AHY σ' F Y { A with st := addT A.st k } T -> R t σ') : huge_Tracker_Add.call (some ⟨Y.tr, 0, none⟩) k σ R := by
 obtain ⟨G, hG, q, hT, _, hput⟩ := h.trk
 refine TAdd_ok hT k fun σ' e h' => ?_
 have := hput σ' _ (addT_len _ _) e h'
 exact hR σ' _ this.1 this.2
theorem AHY.free (h : AHY σ F Y A T) : ∃ sb ms, Go.Bu.BH σ Y.fr A.n A.S sb ms /\ ∀ (σ' : Hp) (S : Nat -> Bool), Ext (· ∈ ms) σ σ' -> Go.Bu.BH σ' Y.fr A.n S sb ms -> Ext F σ σ' /\ AHY σ' F Y { A with S := S } T := by
 obtain ⟨G, hG, ⟨sb, ms, hB, hf⟩, _, hput⟩ := h.step .free
 have hm : ∀ b, b ∈ ms -> G b := fun b hb => hf b (by unfold Go.Bu.fp; simp [hb])
 refine ⟨sb, ms, hB, fun σ' S e h' => ⟨e.sub fun b hb => hG b (hm b hb), ?_⟩⟩
 exact hput σ' _ _ T G _ h.lay.setS h.tl AC_S (e.sub hm) (fun b hb => .inl hb) ⟨sb, ms, h', hf⟩ (same_of hG fun b hb => hb)
theorem AHY.Give (h : AHY σ F Y A T) (a m : Int) {R : Int -> Hp -> Prop} (hR : ∀ σ' t, Ext F σ σ' -> AHY σ' F Y { A with S := giveS A.n A.S a m } T -> R t σ') : buddy_Heap_Give.call (some ⟨Y.fr, 0, none⟩) a m σ R := by
 obtain ⟨sb, ms, hB, hput⟩ := h.free
 refine Go.Bu.Give_ok hB a m fun σ' e h' => ?_
 have := hput σ' _ e h'
 exact hR σ' _ this.1 this.2
theorem AHY.TakeB (h : AHY σ F Y A T) (a m : Int) {R : Int -> Int -> Hp -> Prop} (hR : ∀ σ', Ext F σ σ' -> AHY σ' F Y { A with S := Go.Bu.takeS A.n A.S a m } T -> R ((Go.Bu.takeV A.n A.S a m : Nat) : Int) (Go.Bu.takeE A.n A.S a m) σ') : buddy_Heap_Take.call (some ⟨Y.fr, 0, none⟩) a m σ R := by
 obtain ⟨sb, ms, hB, hput⟩ := h.free
 refine Go.Bu.Take_ok hB a m fun σ' e h' => ?_
 have := hput σ' _ e h'
 exact hR σ' this.1 this.2
def rV (rs : List (Nat × Nat)) : List Value := rs.flatMap fun r => [.int .i64 (r.1 : Int), .int .i64 (r.2 : Int)]
theorem rV_len (rs : List (Nat × Nat)) : (rV rs).length = rs.length * 2 := by
 induction rs with
 | nil => rfl
 | cons x l ih => simp only [rV, List.flatMap_cons, List.length_append, List.length_cons, List.length_nil] at *; omega
theorem rV_get {l : List (Nat × Nat)} {i : Nat} {r : Nat × Nat} (h : l[i]? = some r) : (rV l)[2 * i]? = some (.int .i64 (r.1 : Int)) /\ (rV l)[2 * i + 1]? = some (.int .i64 (r.2 : Int)) := by
 induction l generalizing i with
 | nil => simp at h
 | cons x l ih =>
  have e : rV (x :: l) = [.int .i64 (x.1 : Int), .int .i64 (x.2 : Int)] ++ rV l := by simp [rV]
  rw [e]
  cases i with
  | zero => simp at h; subst h; simp
  | succ i =>
   have := ih (i := i) (by simpa using h)
   rw [show 2 * (i + 1) = 2 * i + 2 by omega]
   simpa using this
theorem runV_rV (c : Cls) (l : List Nat) : runV c l = rV (l.map fun s => (s, c.pages)) := by
 simp [runV, rV, List.flatMap_map]
theorem rV_rd {s : Sl} {rs : List (Nat × Nat)} (h : SlR s 2 (rV rs) σ F) {i : Nat} {r : Nat × Nat} (hr : rs[i]? = some r) {K : Int -> Int -> Prop} (hK : K (r.1 : Int) (r.2 : Int)) :
 Ix s.a s.len (i : Int) 2 fun a => LdI .i64 (a.add 0) σ fun u => LdI .i64 (a.add 1) σ fun w => K u w := by
 have hg := rV_get hr
 have hi := (List.getElem?_eq_some_iff.1 hr).1
 obtain ⟨b, o, ha, hc⟩ := h.cell hg.1
 obtain ⟨b1, o1, ha1, hc1⟩ := h.cell hg.2
 rw [ha] at ha1; cases ha1
 have hl := h.1
 rw [rV_len] at hl
 rw [ha]
 refine ix (by omega) (by omega) ?_
 rw [add_lit]
 refine ldI ?_ (ldI ?_ hK) <;> rw [add_lit]
 ·rw [show o + (i : Int).toNat * 2 + 0 = o + 2 * i by omega]; exact hc
 ·rw [show o + (i : Int).toNat * 2 + 1 = o + (2 * i + 1) by omega]; exact hc1
theorem AHY.mono {G : Rg} (h : AHY σ F Y A T) (hs : ∀ b, b < σ.size -> F b -> G b) : AHY σ G Y A T := Lcl.mono AHY.loc h hs
theorem AHY.cut (h : AHY σ F Y A T) : AHY σ (Cut F σ) Y A T := Lcl.cut AHY.loc h
theorem backA_snoc (A : AR) (rs : List (Nat × Nat)) (r : Nat × Nat) : backA A (rs ++ [r]) = back1 (backA A rs) r := by simp [backA]
theorem back_ok (h : AHY σ F Y A T) {sl : Sl} {rs : List (Nat × Nat)} {X : Rg} (hs : SlR sl 2 (rV rs) σ X) (hX : ∀ b, b < σ.size -> X b -> ¬ F b) (hl : rs.length <= 1000000) (hb : ∀ r ∈ rs, r.1 <= 1000000) {R : Hp -> Prop}
 (hR : ∀ σ', Ext F σ σ' -> AHY σ' (Grow F σ) Y (backA A rs) T -> R σ') : arena_Arena_back.call (some ⟨Y.p, 0, none⟩) sl σ R := by
 refine arena_Arena_back.of_vc ?_
 unfold arena_Arena_back.vc
 have hlen : sl.len = rs.length := by have := hs.1; rw [rV_len] at this; omega
 have hs0 : SlR sl 2 (rV rs) σ (Cut X σ) := (SlR.loc _ _ _).cut hs
 refine loop1 (a := .i .i64) (fun (t : Int) v => ∃ i : Nat, t = (i : Int) /\ i <= rs.length /\ Ext F σ v /\ AHY v (Grow F σ) Y (backA A (rs.take i)) T) (fun t _ => rs.length - t.toNat) ⟨0, rfl, by omega, Ext.refl _ _, by simpa [backA] using h.mono fun b _ hb => .inl hb⟩ ?_
 rintro t v ⟨i, rfl, hi, e, hA⟩
 refine ifD (fun hlt => ?_) fun hge => ?_
 ·have hi' : i < rs.length := by omega
  have hx : rs[i]? = some rs[i] := List.getElem?_eq_getElem hi'
  have hbr := hb _ (List.getElem_mem hi')
  have hsv := (SlR.loc _ _ _).keep hs0 e fun b hb' hx hf => hX b hb' hx.1 hf
  refine rV_rd hsv hx ?_
  have htk : rs.take (i + 1) = rs.take i ++ [rs[i]] := by rw [List.take_add_one, hx]; rfl
  generalize rs[i] = r at *
  refine nw (cs := [.int .i64 0, .int .i64 0]) fun v4 hz4 e4 hb4 => hb4.s1 (by simp) fun v5 o5 b5 => b5.s1 (by simp) fun v6 o6 b6 => ?_
  have e46 : Ext0 v v6 := Ext.fresh (Ext.fresh e4 o5.ext fun i hi => by omega) o6.ext fun i hi => by omega
  have hA6 := hA.cut.keep0 e46
  have nF : ¬ Cut (Grow F σ) v v.size := fun hf => by have := hf.2; omega
  have b6' : Blk v6 v.size [.int .i64 (r.1 : Int), .int .i64 (r.2 : Int)] := b6
  have z6 : v.size < v6.size := b6.lt
  refine nilP (hA6.hd.rP rfl (b6'.rI rfl (b6'.rI rfl (hA6.Clear r.1 r.2 hbr fun v7 t7 e7 hA7 => ?_))))
  have b7 := e7.blk b6' nF
  have hA7' := hA7.mono (G := fun b => Cut (Grow F σ) v b ∨ v.size < b) fun b _ hb => by
   rcases hb with hb | hb
   ·exact .inl hb
   ·exact .inr (by omega)
  have nF7 : ¬ (Cut (Grow F σ) v v.size ∨ v.size < v.size) := fun hf => by
   rcases hf with h | h
   ·exact nF h
   ·omega
  refine nilP (hA7'.hd.rP rfl (b7.rI rfl (b7.rI rfl (hA7'.Unuse _ _ fun v8 t8 e8 hA8 => ?_))))
  have b8 := e8.blk b7 nF7
  refine nilP (hA8.hd.rP rfl (b8.rI rfl (b8.rI rfl (hA8.Give _ _ fun v9 t9 e9 hA9 => ?_))))
  have sub : ∀ b, (Cut (Grow F σ) v b ∨ v.size < b) -> Grow F σ b := fun b hb => by
   rcases hb with hb | hb
   ·exact hb.1
   ·exact .inr (by have := e.1; omega)
  have ee : Ext F σ v9 := ((((e.trans (Ext0.to e46)).growT (e7.sub fun b hb => hb.1))).growT (e8.sub sub)).growT (e9.sub sub)
  refine arN (m := i + 1) (by omega) (by omega) ⟨⟨i + 1, rfl, by omega, ee, ?_⟩, by omega⟩
  rw [htk, backA_snoc]
  exact hA9.mono fun b _ hb => sub b hb
 ·have : i = rs.length := by omega
  subst this
  rw [List.take_length] at hA
  exact hR v e hA
end Go.Ar