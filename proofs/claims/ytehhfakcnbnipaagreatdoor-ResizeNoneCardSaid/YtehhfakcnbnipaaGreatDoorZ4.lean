/- Texts joined. -/
import Derived.Test.YtehhfakcnbnipaaGreatDoorZ3
set_option linter.unusedVariables false
set_option linter.unusedSimpArgs false
namespace Go.Proofs
open Go.Vc

set_option maxRecDepth 100000
def cache_Cache_made.hint : Hn := .seq (.o 1) (.seq (.reg (.seq [.op, .op, .op, .grd true 5 [.op, .op, .op, .op, .op], .op])) (.leaf))
def cache_Cache_made.vc (c : Option Addr) (σ : Hp) (R : Bool -> Hp -> Prop) : Prop :=
 JnB (fun r v =>
 R r v) fun J =>
 If (!c.isNone) (NilP c fun a7 =>
 LdM (a7.add 2) σ fun t9 =>
 J (!t9.isNone) σ)
 (J false σ)
theorem cache_Cache_made.of_vc {c : Option Addr} {σ : Hp} {R : Bool -> Hp -> Prop} (hv : cache_Cache_made.vc c σ R) : cache_Cache_made.call c σ R :=
 fnK_sound Tryz.func95 (x := cache_Cache_made.hint) (args := [.pointer c]) (rs := [.one .b]) (R := R) (Eq.mpr (by kernel_rfl) hv)
def cache_New.hint : Hn := .seq (.o 2) (.seq (.block (.seq (.o 4) (.cond (.seq (.o 2) (.leaf)) (.seq (.reg (.seq [.op, .op, .op, .grd false 2 [.op, .op], .op])) (.cond (.seq (.o 2) (.leaf)) (.leaf)))))) (.seq (.o 8) (.leaf)))
def cache_New.vc (table : Sl) (budget : Int) (σ : Hp) (R : Option Addr -> Int -> Hp -> Prop) : Prop :=
 sizes_Valid.call table σ fun t8 v =>
 If (!t8) (R none 2 v)
 (JnB (fun r v1 =>
 If r (R none 1 v1)
 (slices_Clone_api_Class_api_Class.call table v1 fun t18 v2 =>
 Nw (.map #[] 0) v2 fun n20 v3 =>
 Nw (.cells #[.slice t18.a t18.len t18.cap, .int .i64 budget, .map (some n20.block)] 158 (0, 0)) v3 fun n22 v4 =>
 R (some n22) 0 v4)) fun J =>
 If (decide (budget < 0)) (J true v)
 (J (decide (budget > 65536)) v))
theorem cache_New.of_vc {table : Sl} {budget : Int} {σ : Hp} {R : Option Addr -> Int -> Hp -> Prop} (hv : cache_New.vc table budget σ R) : cache_New.call table budget σ R :=
 fnK_sound Tryz.func108 (x := cache_New.hint) (args := [.slice table.a table.len table.cap, .int .i64 budget]) (rs := [.one .p, .one (.i .i64)]) (R := R) (Eq.mpr (by kernel_rfl) hv)
def cache_Cache_Take.hint : Hn := .seq (.o 2) (.seq (.o 8) (.seq (.seq (.o 2) (.cond (.seq (.o 3) (.leaf)) (.leaf))) (.seq (.seq (.o 6) (.cond (.seq (.seq (.o 9) (.seq (.o 6) (.cond (.o 8) (.o 11)))) (.seq (.o 2) (.leaf))) (.leaf))) (.seq (.o 7) (.seq (.o 8) (.seq (.o 10) (.seq (.o 10) (.seq (.o 3) (.leaf)))))))))
def cache_Cache_Take.vc (c : Option Addr) (vclass : Int) (σ : Hp) (R : Int -> Int -> Hp -> Prop) : Prop :=
 cache_Cache_find.call c vclass σ fun t14 t141 v =>
 If (t141 != 0) (R 0 t141 v)
 (NilP t14 fun a21 =>
 LdS (a21.add 0) v fun t23 =>
 If (((t23.len : Nat) : Int) == 0) (NilP c fun a27 =>
 LdS (a27.add 0) v fun t29 =>
 Ix t29.a t29.len vclass 3 fun a31 =>
 LdI .i64 (a31.add 2) v fun batch =>
 NilP t14 fun a35 =>
 LdI .i64 (a35.add 1) v fun t37 =>
 If (decide (t37 < batch)) (NilP t14 fun a41 =>
 LdI .i64 (a41.add 1) v fun t43 =>
 Ar .i64 (t43 + 1) fun t44 =>
 NilP t14 fun a45 =>
 St1 (a45.add 1) (.int .i64 t44) v fun v1 =>
 R 0 4 v1)
 (NilP t14 fun a49 =>
 LdI .i64 (a49.add 1) v fun t51 =>
 Ar .i64 (t51 + batch) fun t53 =>
 NilP t14 fun a55 =>
 St1 (a55.add 1) (.int .i64 (if 128 < t53 then 128 else t53)) v fun v2 =>
 R 0 4 v2))
 (NilP t14 fun a58 =>
 LdS (a58.add 0) v fun t60 =>
 Ar .i64 (((t60.len : Nat) : Int) - 1) fun last =>
 NilP t14 fun a64 =>
 LdS (a64.add 0) v fun t66 =>
 Ix t66.a t66.len last 1 fun a68 =>
 LdI .i64 a68 v fun out =>
 NilP t14 fun a72 =>
 LdS (a72.add 0) v fun t74 =>
 SlcL t74 1 0 last (t74.cap : Nat) fun t76 =>
 NilP t14 fun a77 =>
 St1 (a77.add 0) (.slice t76.a t76.len t76.cap) v fun v3 =>
 NilP t14 fun a81 =>
 LdI .i64 (a81.add 2) v3 fun t83 =>
 NilP t14 fun a86 =>
 St1 (a86.add 2) (.int .i64 (if last < t83 then last else t83)) v3 fun v4 =>
 R out 0 v4))
theorem cache_Cache_Take.of_vc {c : Option Addr} {vclass : Int} {σ : Hp} {R : Int -> Int -> Hp -> Prop} (hv : cache_Cache_Take.vc c vclass σ R) : cache_Cache_Take.call c vclass σ R :=
 fnK_sound Tryz.func110 (x := cache_Cache_Take.hint) (args := [.pointer c, .int .i64 vclass]) (rs := [.one (.i .i64), .one (.i .i64)]) (R := R) (Eq.mpr (by kernel_rfl) hv)
def cache_Cache_Want.hint : Hn := .seq (.o 2) (.seq (.o 8) (.seq (.seq (.o 2) (.cond (.seq (.o 3) (.leaf)) (.leaf))) (.seq (.oq 15) (.leaf))))
def cache_Cache_Want.vc (c : Option Addr) (vclass : Int) (σ : Hp) (R : Int -> Int -> Hp -> Prop) : Prop :=
 cache_Cache_find.call c vclass σ fun t11 t111 v =>
 If (t111 != 0) (R 0 t111 v)
 (NilP t11 fun a18 =>
 LdI .i64 (a18.add 1) v fun t20 =>
 NilP c fun a22 =>
 LdS (a22.add 0) v fun t24 =>
 Ix t24.a t24.len vclass 3 fun a26 =>
 LdI .i64 (a26.add 2) v fun t28 =>
 R (if t28 < t20 then t28 else t20) 0 v)
theorem cache_Cache_Want.of_vc {c : Option Addr} {vclass : Int} {σ : Hp} {R : Int -> Int -> Hp -> Prop} (hv : cache_Cache_Want.vc c vclass σ R) : cache_Cache_Want.call c vclass σ R :=
 fnK_sound Tryz.func112 (x := cache_Cache_Want.hint) (args := [.pointer c, .int .i64 vclass]) (rs := [.one (.i .i64), .one (.i .i64)]) (R := R) (Eq.mpr (by kernel_rfl) hv)
def cache_Cache_Fill.hint : Hn := .seq (.o 1) (.seq (.o 8) (.seq (.seq (.o 2) (.cond (.seq (.o 2) (.leaf)) (.leaf))) (.seq (.o 3) (.seq (.o 2) (.seq (.o 4) (.leaf))))))
def cache_Cache_Fill.vc (c : Option Addr) (vclass : Int) (objects : Sl) (σ : Hp) (R : Int -> Hp -> Prop) : Prop :=
 cache_Cache_find.call c vclass σ fun t13 t131 v =>
 If (t131 != 0) (R t131 v)
 (slices_Clone_int_int.call objects v fun order v1 =>
 slices_Reverse_int_int.call order v1 fun v2 =>
 cache_list_add.call t13 order v2 fun t25 v3 =>
 R t25 v3)
theorem cache_Cache_Fill.of_vc {c : Option Addr} {vclass : Int} {objects : Sl} {σ : Hp} {R : Int -> Hp -> Prop} (hv : cache_Cache_Fill.vc c vclass objects σ R) : cache_Cache_Fill.call c vclass objects σ R :=
 fnK_sound Tryz.func117 (x := cache_Cache_Fill.hint) (args := [.pointer c, .int .i64 vclass, .slice objects.a objects.len objects.cap]) (rs := [.one (.i .i64)]) (R := R) (Eq.mpr (by kernel_rfl) hv)
def cache_Cache_Put.hint : Hn := .seq (.o 2) (.seq (.o 8) (.seq (.seq (.o 2) (.cond (.seq (.o 3) (.leaf)) (.leaf))) (.seq (.seq (.o 5) (.seq (.o 2) (.cond (.seq (.o 3) (.leaf)) (.leaf)))) (.seq (.seq (.oq 10) (.cond (.seq (.o 2) (.leaf)) (.leaf))) (.seq (.o 9) (.sjn [] (.seq (.o 6) (.cond (.o 8) (.leaf))) (.seq (.o 11) (.leaf))))))))
def cache_Cache_Put.vc (c : Option Addr) (vclass : Int) (object : Int) (σ : Hp) (R : Sl -> Int -> Hp -> Prop) : Prop :=
 cache_Cache_find.call c vclass σ fun t15 t151 v =>
 If (t151 != 0) (R ⟨none, 0, 0⟩ t151 v)
 (Nw (.cells #[.int .i64 object] 3 (0, 0)) v fun n23 v1 =>
 cache_list_add.call t15 ⟨(some n23), 1, 1⟩ v1 fun ve v2 =>
 If (ve != 0) (R ⟨none, 0, 0⟩ ve v2)
 (NilP t15 fun a29 =>
 LdS (a29.add 0) v2 fun t31 =>
 NilP t15 fun a34 =>
 LdI .i64 (a34.add 1) v2 fun t36 =>
 If (decide (((t31.len : Nat) : Int) <= t36)) (R ⟨none, 0, 0⟩ 0 v2)
 (NilP c fun a39 =>
 LdS (a39.add 0) v2 fun t41 =>
 Ix t41.a t41.len vclass 3 fun a43 =>
 LdI .i64 (a43.add 2) v2 fun batch =>
 Jn [] (fun v3 =>
 NilP t15 fun a62 =>
 LdS (a62.add 0) v3 fun t64 =>
 cache_list_oldest.call t15 (if ((t64.len : Nat) : Int) < batch then ((t64.len : Nat) : Int) else batch) v3 fun t67 v4 =>
 R t67 0 v4) fun J =>
 NilP t15 fun a47 =>
 LdI .i64 (a47.add 1) v2 fun t49 =>
 If (decide (t49 < batch)) (NilP t15 fun a53 =>
 LdI .i64 (a53.add 1) v2 fun t55 =>
 Ar .i64 (t55 + 1) fun t56 =>
 NilP t15 fun a57 =>
 St1 (a57.add 1) (.int .i64 t56) v2 fun v5 =>
 J v5)
 (J v2))))
theorem cache_Cache_Put.of_vc {c : Option Addr} {vclass : Int} {object : Int} {σ : Hp} {R : Sl -> Int -> Hp -> Prop} (hv : cache_Cache_Put.vc c vclass object σ R) : cache_Cache_Put.call c vclass object σ R :=
 fnK_sound Tryz.func120 (x := cache_Cache_Put.hint) (args := [.pointer c, .int .i64 vclass, .int .i64 object]) (rs := [.one .s, .one (.i .i64)]) (R := R) (Eq.mpr (by kernel_rfl) hv)
def cache_Cache_Over.hint : Hn := .seq (.o 1) (.seq (.reg (.heldJ false [] [(2, .one .b)] (.take 0 (.all [(1, .take 2 (.split 5 (.take 3 (.take 5 (.take 6 (.take 7 (.all [(4, .all [(8, .take 9 (.take 10 (.take 11 (.done))))]), (8, .all [(4, .take 9 (.take 10 (.take 11 (.done))))])]))))) (.take 3 (.take 4 (.take 5 (.take 6 (.take 7 (.take 8 (.take 9 (.take 10 (.take 11 (.done))))))))))))])))) (.leaf))
def cache_Cache_Over.vc (c : Option Addr) (σ : Hp) (R : Bool -> Hp -> Prop) : Prop :=
 Jn [.b] (fun (t2 : Bool) v =>
 R t2 v) fun J =>
 cache_Cache_made.call c σ fun t4 v1 =>
 If t4 (NilP c fun a9 =>
 (cache_Cache_Bytes.call c v1 fun t7 v2 =>
 LdI .i64 (a9.add 1) v2 fun t11 =>
 J (decide (t7 > t11)) v2) ∧
 (LdI .i64 (a9.add 1) v1 fun t111 =>
 cache_Cache_Bytes.call c v1 fun t71 v3 =>
 J (decide (t71 > t111)) v3))
 (J false v1)
theorem cache_Cache_Over.of_vc {c : Option Addr} {σ : Hp} {R : Bool -> Hp -> Prop} (hv : cache_Cache_Over.vc c σ R) : cache_Cache_Over.call c σ R :=
 fnK_sound Tryz.func121 (x := cache_Cache_Over.hint) (args := [.pointer c]) (rs := [.one .b]) (R := R) (Eq.mpr (by kernel_rfl) hv)
def cache_Cache_Scavenge.hint : Hn := .seq (.o 1) (.seq (.o 3) (.leaf))
def cache_Cache_Scavenge.vc (c : Option Addr) (σ : Hp) (R : Sl -> Hp -> Prop) : Prop :=
 cache_Cache_batches.call c ⟨173, #[], #[]⟩ σ fun t4 v =>
 R t4 v
theorem cache_Cache_Scavenge.of_vc {c : Option Addr} {σ : Hp} {R : Sl -> Hp -> Prop} (hv : cache_Cache_Scavenge.vc c σ R) : cache_Cache_Scavenge.call c σ R :=
 fnK_sound Tryz.func122 (x := cache_Cache_Scavenge.hint) (args := [.pointer c]) (rs := [.one .s]) (R := R) (Eq.mpr (by kernel_rfl) hv)
def cache_Cache_Drain.hint : Hn := .seq (.o 1) (.seq (.o 3) (.leaf))
def cache_Cache_Drain.vc (c : Option Addr) (σ : Hp) (R : Sl -> Hp -> Prop) : Prop :=
 cache_Cache_batches.call c ⟨175, #[], #[]⟩ σ fun t4 v =>
 R t4 v
theorem cache_Cache_Drain.of_vc {c : Option Addr} {σ : Hp} {R : Sl -> Hp -> Prop} (hv : cache_Cache_Drain.vc c σ R) : cache_Cache_Drain.call c σ R :=
 fnK_sound Tryz.func127 (x := cache_Cache_Drain.hint) (args := [.pointer c]) (rs := [.one .s]) (R := R) (Eq.mpr (by kernel_rfl) hv)
def cache_Cache_find.hint : Hn := .seq (.o 2) (.seq (.seq (.o 3) (.cond (.seq (.o 2) (.leaf)) (.leaf))) (.seq (.o 4) (.seq (.seq (.o 2) (.cond (.seq (.o 2) (.leaf)) (.leaf))) (.seq (.o 3) (.leaf)))))
def cache_Cache_find.vc (c : Option Addr) (vclass : Int) (σ : Hp) (R : Option Addr -> Int -> Hp -> Prop) : Prop :=
 cache_Cache_made.call c σ fun t8 v =>
 If (!t8) (R none 5 v)
 (cache_Cache_of.call c vclass v fun l v1 =>
 If l.isNone (R none 1 v1)
 (R l 0 v1))
theorem cache_Cache_find.of_vc {c : Option Addr} {vclass : Int} {σ : Hp} {R : Option Addr -> Int -> Hp -> Prop} (hv : cache_Cache_find.vc c vclass σ R) : cache_Cache_find.call c vclass σ R :=
 fnK_sound Tryz.func162 (x := cache_Cache_find.hint) (args := [.pointer c, .int .i64 vclass]) (rs := [.one .p, .one (.i .i64)]) (R := R) (Eq.mpr (by kernel_rfl) hv)
def cache_list_add.hint : Hn := .seq (.o 1) (.seq (.seq (.o 9) (.cond (.seq (.o 1) (.leaf)) (.leaf))) (.seq (.o 11) (.seq (.o 1) (.leaf))))
def cache_list_add.vc (l : Option Addr) (objects : Sl) (σ : Hp) (R : Int -> Hp -> Prop) : Prop :=
 NilP l fun a6 =>
 LdS (a6.add 0) σ fun t8 =>
 Ar .i64 (((t8.len : Nat) : Int) + ((objects.len : Nat) : Int)) fun t12 =>
 If (decide (t12 > 256)) (R 6 σ)
 (NilP l fun a16 =>
 LdS (a16.add 0) σ fun t18 =>
 slices_Clip_int_int.call t18 σ fun t19 v =>
 App t19 1 8 3 [.int .i64 0] objects v fun t21 v1 =>
 NilP l fun a22 =>
 St1 (a22.add 0) (.slice t21.a t21.len t21.cap) v1 fun v2 =>
 R 0 v2)
theorem cache_list_add.of_vc {l : Option Addr} {objects : Sl} {σ : Hp} {R : Int -> Hp -> Prop} (hv : cache_list_add.vc l objects σ R) : cache_list_add.call l objects σ R :=
 fnK_sound Tryz.func169 (x := cache_list_add.hint) (args := [.pointer l, .slice objects.a objects.len objects.cap]) (rs := [.one (.i .i64)]) (R := R) (Eq.mpr (by kernel_rfl) hv)
def cache_list_oldest.hint : Hn := .seq (.o 1) (.seq (.o 8) (.seq (.o 11) (.seq (.reg (.tail 13 [.op, .op, .op, .op, .op, .op, .op, .op, .op, .op, .op, .op, .op] [.op])) (.seq (.o 2) (.leaf)))))
def cache_list_oldest.vc (l : Option Addr) (many : Int) (σ : Hp) (R : Sl -> Hp -> Prop) : Prop :=
 NilP l fun a7 =>
 LdS (a7.add 0) σ fun t9 =>
 SlcL t9 1 0 many (t9.cap : Nat) fun t11 =>
 slices_Clone_int_int.call t11 σ fun out v =>
 NilP l fun a15 =>
 LdS (a15.add 0) v fun t17 =>
 SlcL t17 1 many (t17.len : Nat) (t17.cap : Nat) fun t19 =>
 slices_Clone_int_int.call t19 v fun t20 v1 =>
 NilP l fun a21 =>
 St1 (a21.add 0) (.slice t20.a t20.len t20.cap) v1 fun v2 =>
 NilP l fun a25 =>
 LdI .i64 (a25.add 2) v2 fun t27 =>
 NilP l fun a29 =>
 LdS (a29.add 0) v2 fun t31 =>
 NilP l fun a34 =>
 St1 (a34.add 2) (.int .i64 (if ((t31.len : Nat) : Int) < t27 then ((t31.len : Nat) : Int) else t27)) v2 fun v3 =>
 R out v3
theorem cache_list_oldest.of_vc {l : Option Addr} {many : Int} {σ : Hp} {R : Sl -> Hp -> Prop} (hv : cache_list_oldest.vc l many σ R) : cache_list_oldest.call l many σ R :=
 fnK_sound Tryz.func170 (x := cache_list_oldest.hint) (args := [.pointer l, .int .i64 many]) (rs := [.one .s]) (R := R) (Eq.mpr (by kernel_rfl) hv)
def cache_Cache_Bytes.hint : Hn := .seq (.o 1) (.seq (.seq (.o 3) (.cond (.seq (.o 1) (.leaf)) (.leaf))) (.seq (.o 1) (.seq (.seq (.o 5) (.block (.loop [(3, .one (.i .i64))] (.seq (.reg (.seq [.it .i64 .p, .op])) (.seq (.cond (.leaf) (.leaf)) (.block (.seq (.reg (.seq [.it .i64 .p, .op, .op, .op, .op])) (.oq 17)))))))) (.seq (.o 2) (.leaf)))))
def cache_Cache_Bytes.vc (c : Option Addr) (σ : Hp) (R : Int -> Hp -> Prop) : Prop :=
 cache_Cache_made.call c σ fun t7 v =>
 If (!t7) (R 0 v)
 (NilP c fun a10 =>
 LdM (a10.add 2) v fun t12 =>
 Rng .i64 .p t12 v fun it v1 =>
 LoopK [(.i .i64)] (fun I => I 0 v1) fun J (n : Int) v2 =>
 Nxt .i64 .p it v2 (R n v2)
 (fun key val v3 =>
 Ent .i64 .p it v3 fun key1 val1 =>
 NilP c fun a21 =>
 LdS (a21.add 0) v3 fun t23 =>
 Ix t23.a t23.len key1 3 fun a25 =>
 LdI .i64 (a25.add 0) v3 fun t27 =>
 NilP val1 fun a29 =>
 LdS (a29.add 0) v3 fun t31 =>
 Ar .i64 (t27 * ((t31.len : Nat) : Int)) fun t33 =>
 Ar .i64 (n + t33) fun n1 =>
 J n1 v3))
theorem cache_Cache_Bytes.of_vc {c : Option Addr} {σ : Hp} {R : Int -> Hp -> Prop} (hv : cache_Cache_Bytes.vc c σ R) : cache_Cache_Bytes.call c σ R :=
 fnK_sound Tryz.func171 (x := cache_Cache_Bytes.hint) (args := [.pointer c]) (rs := [.one (.i .i64)]) (R := R) (Eq.mpr (by kernel_rfl) hv)
def cache_Cache_batches.hint : Hn := .seq (.o 1) (.seq (.seq (.o 3) (.cond (.seq (.o 1) (.leaf)) (.leaf))) (.seq (.o 1) (.seq (.seq (.o 5) (.block (.loop [(5, .one .s)] (.seq (.reg (.seq [.it .i64 .p, .op])) (.seq (.cond (.leaf) (.leaf)) (.block (.seq (.reg (.seq [.it .i64 .p, .op, .op, .op, .op])) (.seq (.o 12) (.seq (.o 3) (.cond (.o 7) (.leaf))))))))))) (.seq (.o 2) (.seq (.o 2) (.leaf))))))
def cache_Cache_batches.vc (c : Option Addr) (remove : Fv) (σ : Hp) (R : Sl -> Hp -> Prop) : Prop :=
 cache_Cache_made.call c σ fun t10 v =>
 If (!t10) (R ⟨none, 0, 0⟩ v)
 (NilP c fun a13 =>
 LdM (a13.add 2) v fun t15 =>
 Rng .i64 .p t15 v fun it v1 =>
 LoopK [.s] (fun I => I ⟨none, 0, 0⟩ v1) fun J (out : Sl) v2 =>
 Nxt .i64 .p it v2 (slices_SortFunc_api_Batch_api_Batch.call out ⟨230, #[], #[]⟩ v2 fun v3 =>
 R out v3)
 (fun key val v4 =>
 Ent .i64 .p it v4 fun key1 val1 =>
 NilP c fun a25 =>
 LdS (a25.add 0) v4 fun t27 =>
 Ix t27.a t27.len key1 3 fun a29 =>
 LdI .i64 (a29.add 2) v4 fun t31 =>
 CallF Tryz.prog remove [.pointer val1, .int .i64 t31] [.one .s] v4 fun objects v5 =>
 If (decide (((objects.len : Nat) : Int) > 0)) (Nw (.cells #[.int .i64 key1, .slice objects.a objects.len objects.cap] 119 (0, 0)) v5 fun n40 v6 =>
 App out 2 32 119 [.int .i64 0, .slice none 0 0] ⟨(some n40), 1, 1⟩ v6 fun out1 v7 =>
 J out1 v7)
 (J out v5)))
theorem cache_Cache_batches.of_vc {c : Option Addr} {remove : Fv} {σ : Hp} {R : Sl -> Hp -> Prop} (hv : cache_Cache_batches.vc c remove σ R) : cache_Cache_batches.call c remove σ R :=
 fnK_sound Tryz.func172 (x := cache_Cache_batches.hint) (args := [.pointer c, .func (.func remove.f) remove.first remove.captured]) (rs := [.one .s]) (R := R) (Eq.mpr (by kernel_rfl) hv)
def cache_Cache_Scavenge_L1.hint : Hn := .seq (.o 1) (.seq (.o 9) (.sjn [] (.seq (.o 6) (.cond (.o 12) (.leaf))) (.seq (.o 9) (.seq (.o 2) (.leaf)))))
def cache_Cache_Scavenge_L1.vc (l : Option Addr) (batch : Int) (σ : Hp) (R : Sl -> Hp -> Prop) : Prop :=
 NilP l fun a8 =>
 LdI .i64 (a8.add 2) σ fun t10 =>
 Ar .i64 (t10 + 1) fun t11 =>
 Nz 2 <| Ar .i64 (t11.tdiv 2) fun t12 =>
 cache_list_oldest.call l t12 σ fun out v =>
 Jn [] (fun v1 =>
 NilP l fun a33 =>
 LdS (a33.add 0) v1 fun t35 =>
 NilP l fun a37 =>
 St1 (a37.add 2) (.int .i64 ((t35.len : Nat) : Int)) v1 fun v2 =>
 R out v2) fun J =>
 NilP l fun a15 =>
 LdI .i64 (a15.add 1) v fun t17 =>
 If (decide (t17 > batch)) (NilP l fun a22 =>
 LdI .i64 (a22.add 1) v fun t24 =>
 Ar .i64 (t24 - batch) fun t26 =>
 NilP l fun a29 =>
 St1 (a29.add 1) (.int .i64 (if batch > t26 then batch else t26)) v fun v3 =>
 J v3)
 (J v)
theorem cache_Cache_Scavenge_L1.of_vc {l : Option Addr} {batch : Int} {σ : Hp} {R : Sl -> Hp -> Prop} (hv : cache_Cache_Scavenge_L1.vc l batch σ R) : cache_Cache_Scavenge_L1.call l batch σ R :=
 fnK_sound Tryz.func173 (x := cache_Cache_Scavenge_L1.hint) (args := [.pointer l, .int .i64 batch]) (rs := [.one .s]) (R := R) (Eq.mpr (by kernel_rfl) hv)
def cache_Cache_Drain_L1.hint : Hn := .seq (.o 1) (.seq (.o 8) (.leaf))
def cache_Cache_Drain_L1.vc (l : Option Addr) (v : Int) (σ : Hp) (R : Sl -> Hp -> Prop) : Prop :=
 NilP l fun a7 =>
 LdS (a7.add 0) σ fun t9 =>
 cache_list_oldest.call l ((t9.len : Nat) : Int) σ fun t11 v1 =>
 R t11 v1
theorem cache_Cache_Drain_L1.of_vc {l : Option Addr} {v : Int} {σ : Hp} {R : Sl -> Hp -> Prop} (hv : cache_Cache_Drain_L1.vc l v σ R) : cache_Cache_Drain_L1.call l v σ R :=
 fnK_sound Tryz.func175 (x := cache_Cache_Drain_L1.hint) (args := [.pointer l, .int .i64 v]) (rs := [.one .s]) (R := R) (Eq.mpr (by kernel_rfl) hv)
def cache_Cache_of.hint : Hn := .seq (.o 1) (.seq (.seq (.reg (.seq [.op, .op, .op, .op, .grd false 2 [.op, .op], .op, .grd false 7 [.op, .op, .op, .op, .op, .op, .op]])) (.cond (.seq (.o 1) (.leaf)) (.leaf))) (.sjn [] (.seq (.o 7) (.cond (.o 8) (.leaf))) (.seq (.o 7) (.leaf))))
def cache_Cache_of.vc (c : Option Addr) (vclass : Int) (σ : Hp) (R : Option Addr -> Hp -> Prop) : Prop :=
 cache_Cache_made.call c σ fun t6 v =>
 JnB (fun r v1 =>
 JnB (fun r1 v2 =>
 If r1 (R none v2)
 (Jn [] (fun v3 =>
 NilP c fun a36 =>
 LdM (a36.add 2) v3 fun t38 =>
 Lk .i64 .p t38 vclass v3 fun t40 =>
 R (t40.getD none) v3) fun J2 =>
 NilP c fun a22 =>
 LdM (a22.add 2) v2 fun t24 =>
 Lk .i64 .p t24 vclass v2 fun t26 =>
 If ((t26.getD none).isNone) (NilP c fun a29 =>
 LdM (a29.add 2) v2 fun t31 =>
 Nw (.cells #[.slice none 0 0, .int .i64 1, .int .i64 0] 161 (0, 0)) v2 fun n34 v4 =>
 MSet .i64 .p t31 vclass (some n34) v4 fun v5 =>
 J2 v5)
 (J2 v2))) fun J1 =>
 If r (J1 true v1)
 (NilP c fun a15 =>
 LdS (a15.add 0) v1 fun t17 =>
 J1 (decide (vclass ≥ ((t17.len : Nat) : Int))) v1)) fun J =>
 If (!t6) (J true v)
 (J (decide (vclass < 0)) v)
theorem cache_Cache_of.of_vc {c : Option Addr} {vclass : Int} {σ : Hp} {R : Option Addr -> Hp -> Prop} (hv : cache_Cache_of.vc c vclass σ R) : cache_Cache_of.call c vclass σ R :=
 fnK_sound Tryz.func218 (x := cache_Cache_of.hint) (args := [.pointer c, .int .i64 vclass]) (rs := [.one .p]) (R := R) (Eq.mpr (by kernel_rfl) hv)
end Go.Proofs
namespace Go.Ar
open Go Go.Vc Go.Proofs


theorem SlR.sub {σ : Hp} {F : Rg} {s : Sl} {sz : Nat} {xs : List Value} (h : SlR s sz xs σ F) {lo hi mx : Nat} (h1 : lo <= hi) (h2 : hi <= s.len) (h3 : hi <= mx) :
 SlR ⟨if mx = lo then s.a else s.a.map (·.add (lo * sz)), hi - lo, mx - lo⟩ sz ((xs.drop (lo * sz)).take ((hi - lo) * sz)) σ F := by
 have hl := h.1
 have e1 : hi * sz <= s.len * sz := Nat.mul_le_mul_right _ h2
 have e2 : (hi - lo) * sz = hi * sz - lo * sz := Nat.sub_mul _ _ _
 have e3 : lo * sz <= hi * sz := Nat.mul_le_mul_right _ h1
 refine ⟨by rw [List.length_take, List.length_drop]; simp only; omega, ?_⟩
 by_cases hm : mx = lo
 ·left
  have : hi - lo = 0 := by omega
  rw [this, Nat.zero_mul, List.take_zero]
 ·rcases h.2 with h0 | ⟨b, o, cs, hb, ha, hq, hc⟩
  ·left; subst h0; simp
  ·refine .inr ⟨b, o + lo * sz, cs, hb, ?_, hq, fun j hj => ?_⟩
   ·simp only [if_neg hm, ha, Option.map_some, add_lit]
   ·rw [List.length_take, List.length_drop] at hj
    rw [Nat.add_assoc, hc _ (by omega), List.getElem?_take, List.getElem?_drop, if_pos (by omega)]
inductive LbC where
 | hd | tab | mp
 | li (k : Nat)
 deriving DecidableEq
structure LayC where
 p : Nat
 m : Nat
 tab : Sl
 ps : List (Nat × Nat)
def lkp (ps : List (Nat × Nat)) (k : Nat) : Option Nat := (ps.find? fun x => x.1 == k).map (·.2)
def ptI (ps : List (Nat × Nat)) : List (Int × Option Addr) := ps.map fun x => ((x.1 : Int), some ⟨x.2, 0, none⟩)
def liV (s : Sl) (l : Li) : List Value := [.slice s.a s.len s.cap, .int .i64 (l.lim : Int), .int .i64 (l.low : Int)]
def LiR (b : Nat) (l : Li) : Hp -> Rg -> Prop := fun σ F => F b /\ LiOk l /\ ∃ s : Sl, Blk σ b (liV s l) /\ SlR s 1 (intsI l.os) σ (fun q => F q /\ q ≠ b) /\ s.len <= s.cap
def LiK (b : Option Nat) (l : Option Li) : Hp -> Rg -> Prop := fun σ F => match b, l with
 | some b, some l => LiR b l σ F
 | none, some l => l = liN
 | _, none => True
def hdC (Y : LayC) (bud : Nat) : List Value := [.slice Y.tab.a Y.tab.len Y.tab.cap, .int .i64 (bud : Int), .map (some Y.m)]
def CC (tb : List Cls) (bud : Nat) (ls : List Li) (Y : LayC) : LbC -> Hp -> Rg -> Prop
 | .hd => BlkR Y.p (hdC Y bud)
 | .tab => SlR Y.tab 3 (tabV tb)
 | .mp => MapR Y.m .i64 .p (ptI Y.ps)
 | .li k => LiK (lkp Y.ps k) ls[k]?
theorem LiR.loc (b : Nat) (l : Li) : Lcl (LiR b l) := by
 rintro σ σ' F G ⟨h1, h2, s, hb, hs, hc⟩ hz hs'
 have hp := hs' b hb.lt h1
 obtain ⟨e, he⟩ := hb
 exact ⟨hp.1, h2, s, ⟨e, hp.2.trans he⟩, SlR.loc _ _ _ _ _ _ _ hs hz fun q hq hf => ⟨⟨(hs' q hq hf.1).1, hf.2⟩, (hs' q hq hf.1).2⟩, hc⟩
theorem LiK.loc (b : Option Nat) (l : Option Li) : Lcl (LiK b l) := by
 intro σ σ' F G h hz hs
 unfold LiK at *
 split at h
 ·exact LiR.loc _ _ _ _ _ _ h hz hs
 ·exact h
 ·trivial
theorem CC.loc {tb : List Cls} {bud : Nat} {ls : List Li} {Y : LayC} : ∀ i, Lcl (CC tb bud ls Y i)
 | .hd => BlkR.loc _ _
 | .tab => SlR.loc _ _ _
 | .mp => MapR.loc _ _ _ _
 | .li k => LiK.loc _ _
structure CaY (σ : Hp) (F : Rg) (Y : LayC) (tb : List Cls) (bud : Nat) (ls : List Li) : Prop where
 tb1 : tb.length <= 40
 ok : ∀ c ∈ tb, c.ok
 len : ls.length = tb.length
 keys : ∀ x ∈ Y.ps, x.1 < tb.length
 sep : Sep (CC tb bud ls Y) σ F
variable {σ : Hp} {F G : Rg} {Y : LayC} {tb : List Cls} {bud : Nat} {ls : List Li} {b k : Nat} {l : Li}
theorem CaY.loc : Lcl fun σ F => CaY σ F Y tb bud ls := fun σ σ' F G h hz hs => ⟨h.tb1, h.ok, h.len, h.keys, Sep.loc CC.loc _ _ _ _ h.sep hz hs⟩
theorem CaY.keep0 {σ' : Hp} (h : CaY σ F Y tb bud ls) (e : Ext0 σ σ') : CaY σ' F Y tb bud ls := Lcl.keep0 CaY.loc h e
theorem CaY.hd (h : CaY σ F Y tb bud ls) : Blk σ Y.p (hdC Y bud) := by
 obtain ⟨G, hG, hb⟩ := h.sep.get .hd
 exact hb.2
theorem CaY.tabS (h : CaY σ F Y tb bud ls) : SlR Y.tab 3 (tabV tb) σ F := by
 obtain ⟨G, hG, hb⟩ := h.sep.get .tab
 exact (SlR.loc _ _ _).mono hb fun b _ hb => hG b hb
theorem CaY.tabL (h : CaY σ F Y tb bud ls) : Y.tab.len = tb.length := by
 have := h.tabS.1
 rw [tabV_len] at this; omega
theorem CaY.map (h : CaY σ F Y tb bud ls) : MapL σ Y.m .i64 .p (ptI Y.ps) := by
 obtain ⟨G, hG, hb⟩ := h.sep.get .mp
 exact hb.2
theorem ptI_get (ps : List (Nat × Nat)) (k : Nat) : mget (α := Option Addr) (ptI ps) (k : Int) = (lkp ps k).map fun b => some ⟨b, 0, none⟩ := by
 induction ps with
 | nil => rfl
 | cons x l ih =>
  simp only [mget, ptI, lkp, List.map_cons, List.find?_cons] at *
  have e : (((x.1 : Nat) : Int) == (k : Int)) = (x.1 == k) := beqN _ _
  rw [e]
  cases x.1 == k
  ·exact ih
  ·rfl
theorem lkp_none {ps : List (Nat × Nat)} (h : lkp ps k = none) : ∀ x ∈ ps, x.1 ≠ k := by
 unfold lkp at h
 simp only [Option.map_eq_none_iff, List.find?_eq_none, beq_iff_eq] at h
 exact h
theorem ptI_set {ps : List (Nat × Nat)} (h : lkp ps k = none) (b : Nat) : mset (α := Option Addr) (ptI ps) (k : Int) (some ⟨b, 0, none⟩) = ptI (ps ++ [(k, b)]) := by
 unfold mset
 rw [if_neg]
 ·simp [ptI]
 ·simp only [ptI, List.any_map, List.any_eq_true, Function.comp, beq_iff_eq, not_exists, not_and]
  intro x hx e
  exact lkp_none h x hx (by omega)
theorem lkp_append {ps : List (Nat × Nat)} (h : lkp ps k = none) (b j : Nat) : lkp (ps ++ [(k, b)]) j = if j = k then some b else lkp ps j := by
 have h' := lkp_none h
 unfold lkp at *
 rw [List.find?_append]
 by_cases hj : j = k
 ·subst hj
  have : ps.find? (fun x => x.1 == j) = none := by simpa using h
  rw [this]; simp
 ·rw [if_neg hj]
  cases hf : ps.find? (fun x => x.1 == j) with
  | none =>
   have : (k == j) = false := by simpa using fun e => hj e.symm
   simp [this]
  | some x => simp
theorem lkp_of {ps : List (Nat × Nat)} (hn : ((ptI ps).map (·.1)).Nodup) (h : (k, b) ∈ ps) : lkp ps k = some b := by
 induction ps with
 | nil => simp at h
 | cons x l ih =>
  simp only [ptI, List.map_cons, List.nodup_cons] at hn
  unfold lkp
  rw [List.find?_cons]
  rcases List.mem_cons.1 h with rfl | h
  ·simp
  ·have : (x.1 == k) = false := by
    have : x.1 ≠ k := fun e => hn.1 (List.mem_map.2 ⟨(((k : Nat) : Int), some ⟨b, 0, none⟩), List.mem_map.2 ⟨(k, b), h, rfl⟩, by rw [e]⟩)
    simpa using this
   rw [this]; exact ih hn.2 h
theorem kmade_ok (h : CaY σ F Y tb bud ls) {R : Bool -> Hp -> Prop} (hR : R true σ) : cache_Cache_made.call (some ⟨Y.p, 0, none⟩) σ R := by
 refine cache_Cache_made.of_vc ?_
 unfold cache_Cache_made.vc
 exact JnB.intro (ifT rfl (nilP (h.hd.rM rfl hR)))
theorem CaY.liS (h : CaY σ F Y tb bud ls) (hb : lkp Y.ps k = some b) (hl : ls[k]? = some l) : ∃ G : Rg, (∀ q, G q -> F q) /\ LiR b l σ G /\ ¬ G Y.m ∧
 ∀ (σ' : Hp) (l' : Li) (G' : Rg), Ext G σ σ' -> (∀ q, G' q -> Grow G σ q) -> LiR b l' σ' G' -> Ext F σ σ' /\ CaY σ' (fun q => F q /\ q < σ.size /\ ¬ G q ∨ G' q) Y tb bud (ls.set k l') := by
 have hlt := (List.getElem?_eq_some_iff.1 hl).1
 obtain ⟨G, hG, hi, hdis, hput⟩ := h.sep.stepD CC.loc (.li k)
 have hi : LiR b l σ G := by
  simp only [CC, LiK, hb, hl] at hi
  exact hi
 have hm : ¬ G Y.m := by
  obtain ⟨H, _, hd, hmp⟩ := hdis .mp (by intro e; cases e)
  exact hd _ hmp.1
 refine ⟨G, hG, hi, hm, fun σ' l' G' e hg hL => ⟨e.sub hG, h.tb1, h.ok, by rw [List.length_set]; exact h.len, h.keys, ?_⟩⟩
 refine hput σ' (CC tb bud (ls.set k l') Y) G' (fun j hj => ?_) e hg ?_ (CC.loc _)
 ·cases j <;> try rfl
  rename_i m
  have hm : m ≠ k := fun e => hj (by rw [e])
  simp only [CC, List.getElem?_set_ne (Ne.symm hm)]
 ·simp only [CC, LiK, hb, List.getElem?_set_self hlt]
  exact hL
theorem CaY.mono (h : CaY σ F Y tb bud ls) (hs : ∀ q, q < σ.size -> F q -> G q) : CaY σ G Y tb bud ls := Lcl.mono CaY.loc h hs
theorem CaY.cut (h : CaY σ F Y tb bud ls) : CaY σ (Cut F σ) Y tb bud ls := Lcl.cut CaY.loc h
theorem CaY.upd {v : Hp} (h : CaY v (Grow F σ) Y tb bud ls) (e0 : Ext F σ v) (hb : lkp Y.ps k = some b) (hl : ls[k]? = some l) : ∃ G : Rg, LiR b l v G ∧
 ∀ (σ' : Hp) (l' : Li) (G' : Rg), Ext G v σ' -> (∀ q, G' q -> Grow G v q) -> LiR b l' σ' G' -> Ext F σ σ' /\ CaY σ' (Grow F σ) Y tb bud (ls.set k l') := by
 obtain ⟨G, hG, hL, _, hput⟩ := h.liS hb hl
 refine ⟨G, hL, fun σ' l' G' e hg hL' => ?_⟩
 obtain ⟨e1, h1⟩ := hput σ' l' G' e hg hL'
 refine ⟨e0.growT e1, h1.mono fun q _ hq => ?_⟩
 have := e0.1
 rcases hq with hq | hq
 ·exact hq.1
 ·rcases hg q hq with h2 | h2
  ·exact hG q h2
  ·exact .inr (by omega)
theorem kof_ok (h : CaY σ F Y tb bud ls) (hk : k < tb.length) {R : Option Addr -> Hp -> Prop} (hR : ∀ σ' Y' b, Ext F σ σ' -> Y'.p = Y.p -> lkp Y'.ps k = some b -> CaY σ' (Grow F σ) Y' tb bud ls -> R (some ⟨b, 0, none⟩) σ') :
 cache_Cache_of.call (some ⟨Y.p, 0, none⟩) (k : Int) σ R := by
 refine cache_Cache_of.of_vc ?_
 unfold cache_Cache_of.vc
 have hlt : k < ls.length := by rw [h.len]; exact hk
 have hl : ls[k]? = some ls[k] := List.getElem?_eq_getElem hlt
 generalize ls[k] = l at hl
 have htl := h.tabL
 refine kmade_ok h (JnB.intro (ifF rfl ?_))
 refine JnB.intro (ifDF (by omega) (nilP (h.hd.rS rfl ?_)))
 refine ifDF (by simp only; omega) ?_
 refine Jn.intro (nilP (h.hd.rM rfl ⟨_, h.map, ?_⟩))
 rw [ptI_get]
 cases hf : lkp Y.ps k with
 | some b =>
  refine ifF rfl (nilP (h.hd.rM rfl ⟨_, h.map, ?_⟩))
  rw [ptI_get, hf]
  exact hR σ Y b (Ext.refl _ _) rfl hf (h.mono fun q _ hq => .inl hq)
 | none =>
  refine ifT rfl (nilP (h.hd.rM rfl (nw (cs := [.slice none 0 0, .int .i64 1, .int .i64 0]) fun v hz e hb1 => ?_)))
  obtain ⟨G, H, hGc, hH, hd, hi, hj, hput⟩ := h.cut.sep.step2 CC.loc .mp (.li k) (by intro e; cases e)
  have hG : ∀ q, G q -> F q := fun q hq => (hGc q hq).1
  have hi : MapR Y.m .i64 .p (ptI Y.ps) σ G := hi
  have hj : l = liN := by
   simp only [CC, LiK, hf, hl] at hj
   exact hj
  have hmlt := hi.2.lt
  have hmv : MapL v Y.m .i64 .p (ptI Y.ps) := e.mapL hi.2 id
  refine ⟨Y.m, _, rfl, hmv, fun v2 ho hm2 => ?_⟩
  rw [ptI_set hf] at hm2
  have e2 : Ext F σ v2 := (Ext0.to e).only ho (.inl (hG _ hi.1))
  have eGH : Ext (fun q => G q ∨ H q) σ v2 := (Ext0.to e).only ho (.inl (.inl hi.1))
  have hb2 : Blk v2 σ.size [.slice none 0 0, .int .i64 1, .int .i64 0] := only_blk ho hb1 (by omega)
  have hnew : CaY v2 (Grow F σ) { Y with ps := Y.ps ++ [(k, σ.size)] } tb bud ls := by
   refine ⟨h.tb1, h.ok, h.len, fun x hx => ?_, ?_⟩
   ·rcases List.mem_append.1 hx with hx | hx
    ·exact h.keys x hx
    ·simp only [List.mem_singleton] at hx; subst hx; exact hk
   refine (Sep.loc CC.loc).mono (hput v2 (CC tb bud ls { Y with ps := Y.ps ++ [(k, σ.size)] }) G (· = σ.size) (fun j h1 h2 => ?_) eGH (fun q hq => .inl (.inl hq)) (fun q hq => .inr (by omega)) (fun q h1 h2 => ?_) ⟨hi.1, hm2⟩ ?_ CC.loc) fun q _ hq => ?_
   ·cases j <;> first | rfl | exact absurd rfl h1 | skip
    rename_i m
    have hm : m ≠ k := fun e => h2 (by rw [e])
    simp only [CC, lkp_append hf, if_neg hm]
   ·have := (hGc q h1).2; omega
   ·simp only [CC, lkp_append hf, if_true, hl, hj, LiK]
    exact ⟨rfl, LiOk.nil, ⟨none, 0, 0⟩, hb2, SlR.nil _ _ _ _, Nat.le_refl _⟩
   ·rcases hq with hq | hq | hq
    ·exact .inl hq.1.1
    ·exact .inl (hG q hq)
    ·exact .inr (by omega)
  refine nilP (hnew.hd.rM rfl ⟨_, hnew.map, ?_⟩)
  rw [ptI_get, lkp_append hf, if_pos rfl]
  exact hR v2 { Y with ps := Y.ps ++ [(k, σ.size)] } σ.size e2 rfl (by show lkp (Y.ps ++ [(k, σ.size)]) k = _; rw [lkp_append hf, if_pos rfl]) hnew
theorem kfind_ok (h : CaY σ F Y tb bud ls) (hk : k < tb.length) {R : Option Addr -> Int -> Hp -> Prop} (hR : ∀ σ' Y' b, Ext F σ σ' -> Y'.p = Y.p -> lkp Y'.ps k = some b -> CaY σ' (Grow F σ) Y' tb bud ls -> R (some ⟨b, 0, none⟩) 0 σ') :
 cache_Cache_find.call (some ⟨Y.p, 0, none⟩) (k : Int) σ R := by
 refine cache_Cache_find.of_vc ?_
 unfold cache_Cache_find.vc
 exact kmade_ok h (ifF rfl (kof_ok h hk fun σ' Y' b e hp hb h' => ifF rfl (hR σ' Y' b e hp hb h')))
theorem RowR.capO {s : Sl} {sz : Nat} {xs : List Value} (h : RowR s sz xs σ F) : s.len <= s.cap := by
 rcases h.2 with ⟨q1, q2⟩ | ⟨_, _, _, _, _, q, _⟩
 ·omega
 ·exact q
theorem koldest_ok (h : LiR b l σ G) {m : Nat} (hm : m <= l.os.length) {R : Sl -> Hp -> Prop}
 (hR : ∀ s z σ', Ext (· = b) σ σ' -> σ.size <= z -> RowR s 1 (intsI (l.os.take m)) σ' (fun q => σ.size <= q /\ q < z) -> LiR b (oldL m l).2 σ' (fun q => q = b ∨ z <= q) -> R s σ') :
 cache_list_oldest.call (some ⟨b, 0, none⟩) (m : Int) σ R := by
 refine cache_list_oldest.of_vc ?_
 unfold cache_list_oldest.vc
 obtain ⟨hF, hok, s, hb, hs, hc⟩ := h
 have hsl : s.len = l.os.length := by have := hs.1; simp [intsI] at this; omega
 have hmany := hok.many
 have hlow := hok.low
 have hs1 := SlR.sub hs (lo := 0) (hi := m) (mx := s.cap) (by omega) (by omega) (by omega)
 have e1 : ((intsI l.os).drop (0 * 1)).take ((m - 0) * 1) = intsI (l.os.take m) := by simp [intsI]
 rw [e1] at hs1
 refine nilP (hb.rS rfl (slc (lo := 0) (by omega) (by simp only; omega) (by simp only; omega) (cloneV_ok hs1 one1_intsI (by simp only; omega) fun s1 v1 hl1 x1 hr1 => ?_)))
 have hb1 := x1.blk hb id
 have hs' := (SlR.loc _ _ _).keep0 hs x1
 have hs2 := SlR.sub hs' (lo := m) (hi := s.len) (mx := s.cap) (by omega) (by omega) (by omega)
 have e2 : ((intsI l.os).drop (m * 1)).take ((s.len - m) * 1) = intsI (l.os.drop m) := by
  rw [List.take_of_length_le (by simp [intsI]; omega)]
  simp [intsI]
 rw [e2] at hs2
 refine nilP (hb1.rS rfl (slc (by simp only; omega) (by simp only; omega) (by simp only; omega) (cloneV_ok hs2 one1_intsI (by simp only; omega) fun s2 v2 hl2 x2 hr2 => ?_)))
 have hb2 := x2.blk hb1 id
 refine nilP (hb2.s1 (by simp [liV]) fun v3 o3 hb3 => nilP (hb3.rI rfl (nilP (hb3.rS rfl (nilP (hb3.s1 (by simp [liV]) fun v4 o4 hb4 => ?_))))))
 have e34 : Ext (· = b) v2 v4 := o3.ext.trans o4.ext
 have hbl := hb.lt
 have hx1 := x1.1
 have hl2' : s2.len = l.os.length - m := by rw [hl2]; simp only; omega
 refine hR s1 v1.size v4 ((Ext0.to (x1.trans x2)).trans e34) hx1 ?_ ⟨.inl rfl, oldL_ok hok, s2, ?_, ?_, RowR.capO hr2⟩
 ·refine (RowR.loc _ _ _).keep ((RowR.loc _ _ _).keep0 ((RowR.loc _ _ _).mono hr1 (G := fun q => σ.size <= q /\ q < v1.size) fun q hq hf => ⟨hf, hq⟩) x2) e34 fun q _ hq he => by omega
 ·have : (if ((s2.len : Nat) : Int) < (l.low : Int) then ((s2.len : Nat) : Int) else (l.low : Int)) = ((min l.low (l.os.length - m) : Nat) : Int) := by rw [hl2']; split <;> omega
  rw [this] at hb4
  exact hb4
 ·refine (SlR.loc _ _ _).mono ((SlR.loc _ _ _).keep hr2.slR e34 fun q _ hq he => by omega) fun q _ hq => ⟨.inr hq, by omega⟩
theorem kadd_ok (h : LiR b l σ G) {sl : Sl} {xs : List Int} {X : Rg} (hs : SlR sl 1 (intsI xs) σ X) (hx : xs ≠ []) (hfit : l.os.length + xs.length <= 256) {R : Int -> Hp -> Prop}
 (hR : ∀ σ', Ext (· = b) σ σ' -> LiR b (addL xs l) σ' (fun q => q = b ∨ σ.size <= q) -> R 0 σ') : cache_list_add.call (some ⟨b, 0, none⟩) sl σ R := by
 refine cache_list_add.of_vc ?_
 unfold cache_list_add.vc
 obtain ⟨hF, hok, s, hb, hss, hc⟩ := h
 have hsl : s.len = l.os.length := by have := hss.1; simp [intsI] at this; omega
 have hxl : sl.len = xs.length := by have := hs.1; simp [intsI] at this; omega
 have hpos := List.length_pos_iff.2 hx
 have ea : addL xs l = { l with os := l.os ++ xs } := by unfold addL; rw [if_neg (by omega)]
 refine nilP (hb.rS rfl (arN (m := l.os.length + xs.length) (by simp only; omega) (by omega) (ifDF (by omega) (nilP (hb.rS rfl ?_)))))
 refine slices_Clip_int_int.of_vc ?_
 unfold slices_Clip_int_int.vc
 refine slc (lo := 0) (by simp only; omega) (by simp only; omega) (by simp only; omega) ?_
 have hbl := hb.lt
 refine ⟨intsI l.os, intsI xs, by simp [intsI]; omega, by simp [intsI]; omega, ?_, hs.rd, one1_intsI, ?_, by simp only; omega, fun hin => by simp only at hin; omega, fun hout c hcc => ?_⟩
 ·by_cases h0 : s.len = 0
  ·have : l.os = [] := List.length_eq_zero_iff.1 (by omega)
   rw [this]
   simp only [h0, if_true]
   cases s.a <;> simp [Rd, intsI]
  ·simp only [if_neg h0, Nat.zero_mul]
   have := hss.rd
   cases ha : s.a with
   | none => rw [ha] at this; simpa [Rd] using this
   | some a => rw [ha] at this; simpa [Rd, Addr.add_zero'] using this
 ·simp only
  have : (s.len - 0 + sl.len) * 8 <= 256 * 8 := Nat.mul_le_mul (by omega) (by omega)
  omega
 ·refine nw fun v hz e hb1 => nilP ((e.blk hb id).s1 (by simp [liV]) fun v2 o2 hb2 => ?_)
  have hc' : l.os.length + xs.length <= c := by simp only at hcc; omega
  refine hR v2 ((Ext0.to e).trans o2.ext) ?_
  rw [ea]
  have := addL_ok (xs := xs) hok
  rw [ea] at this
  refine ⟨.inl rfl, this, ⟨some ⟨σ.size, 0, none⟩, s.len - 0 + sl.len, c⟩, hb2, ⟨by simp [intsI]; omega, .inr ⟨σ.size, 0, _, ⟨.inr (Nat.le_refl _), by omega⟩, rfl, (only_blk o2 hb1 (by omega)).q, fun j hj => ?_⟩⟩, by simp only; omega⟩
  simp only [intsI, List.length_map, List.length_append] at hj
  rw [Nat.zero_add, List.append_assoc, ← List.append_assoc, List.getElem?_append_left (by simp [intsI]; omega)]
  simp [intsI]
theorem kaddF_ok (h : LiR b l σ G) {sl : Sl} {xs : List Int} {X : Rg} (hs : SlR sl 1 (intsI xs) σ X) (hfit : ¬ l.os.length + xs.length <= 256) (hxs : xs.length <= 1000000) {R : Int -> Hp -> Prop}
 (hR : R 6 σ) : cache_list_add.call (some ⟨b, 0, none⟩) sl σ R := by
 refine cache_list_add.of_vc ?_
 unfold cache_list_add.vc
 obtain ⟨hF, hok, s, hb, hss, hc⟩ := h
 have hsl : s.len = l.os.length := by have := hss.1; simp [intsI] at this; omega
 have hxl : sl.len = xs.length := by have := hs.1; simp [intsI] at this; omega
 have := hok.many
 exact nilP (hb.rS rfl (arN (m := l.os.length + xs.length) (by simp only; omega) (by omega) (ifDT (by omega) hR)))
end Go.Ar
namespace Go.Ar
open Go Go.Vc Go.Proofs


variable {σ : Hp} {F G : Rg} {Y : LayC} {tb : List Cls} {bud : Nat} {ls : List Li} {b k : Nat} {l : Li} {c : Cls}
theorem CaY.cls (h : CaY σ F Y tb bud ls) (hc : tb[k]? = some c) : c.ok /\ k < tb.length := ⟨h.ok c (List.mem_of_getElem? hc), (List.getElem?_eq_some_iff.1 hc).1⟩
theorem LiR.st {v : Hp} (h : LiR b l σ G) {s : Sl} {l' : Li} (ho : Ext (· = b) σ v) (hb : Blk v b (liV s l')) (hs : SlR s 1 (intsI l'.os) σ (fun q => G q /\ q ≠ b)) (hc : s.len <= s.cap) (ok : LiOk l') : LiR b l' v G :=
 ⟨h.1, ok, s, hb, (SlR.loc _ _ _).keep hs ho fun q _ hq he => hq.2 he, hc⟩
theorem Take_ok (h : CaY σ F Y tb bud ls) (hc : tb[k]? = some c) (hl : ls[k]? = some l) {R : Int -> Int -> Hp -> Prop}
 (hR : ∀ σ' Y', Ext F σ σ' -> Y'.p = Y.p -> CaY σ' (Grow F σ) Y' tb bud (ls.set k (takeL c l).2) -> R ((takeL c l).1.getD 0) (if (takeL c l).1.isSome then 0 else 4) σ') : cache_Cache_Take.call (some ⟨Y.p, 0, none⟩) (k : Int) σ R := by
 obtain ⟨hcok, hk⟩ := h.cls hc
 refine cache_Cache_Take.of_vc ?_
 unfold cache_Cache_Take.vc
 refine kfind_ok h hk fun v Y' b e hp hb h' => ifF rfl ?_
 obtain ⟨G, hL, hput⟩ := h'.upd e hb hl
 have hL' := hL
 obtain ⟨hGb, hok, s, hbk, hs, hcap⟩ := hL
 have hhd := h'.hd
 rw [hp] at hhd
 have hsl : s.len = l.os.length := by have := hs.1; simp [intsI] at this; omega
 have o1 := hok.low; have o2 := hok.many; have o3 := hok.lim; have o4 := hok.lim1
 have hok' := takeL_ok hcok hok
 have fin : ∀ v' G', Ext G v v' -> (∀ q, G' q -> Grow G v q) -> LiR b (takeL c l).2 v' G' -> R ((takeL c l).1.getD 0) (if (takeL c l).1.isSome then 0 else 4) v' := fun v' G' e' hg hL2 => by
  obtain ⟨e2, h2⟩ := hput v' _ G' e' hg hL2
  exact hR v' Y' e2 hp h2
 unfold Cls.ok at hcok
 have hex : ∀ {v' : Hp}, Ext (· = b) v v' -> Ext G v v' := fun e' => e'.sub fun q hq => by rw [hq]; exact hGb
 refine nilP (hbk.rS rfl ?_)
 by_cases h0 : l.os = []
 ·have e1 : (takeL c l).1 = none := by unfold takeL; rw [h0]; rfl
  have e2 : (takeL c l).2 = if l.lim < c.batch then { l with lim := l.lim + 1 } else { l with lim := min (l.lim + c.batch) 128 } := by unfold takeL; rw [h0]; rfl
  rw [e1, e2] at fin
  rw [e2] at hok'
  refine ifT (by simp [hsl, h0]) (nilP (hhd.rS rfl (tab_rd h'.tabS hc (d := 2) (by omega) ?_)))
  simp only [if_neg (show ¬ (2 = 0) by omega), if_neg (show ¬ (2 = 1) by omega)]
  refine nilP (hbk.rI rfl (ifD (fun c1 => ?_) fun c1 => ?_))
  ·have c1' : l.lim < c.batch := by omega
   rw [if_pos c1'] at fin hok'
   refine nilP (hbk.rI rfl (arN (m := l.lim + 1) (by omega) (by omega) (nilP (hbk.s1 (by simp [liV]) fun v' o' hb' => ?_))))
   exact fin v' G (hex o'.ext) (fun q hq => .inl hq) (hL'.st o'.ext hb' hs hcap hok')
  ·have c1' : ¬ l.lim < c.batch := by omega
   rw [if_neg c1'] at fin hok'
   refine nilP (hbk.rI rfl (arN (m := l.lim + c.batch) (by omega) (by omega) (nilP (hbk.s1 (by simp [liV]) fun v' o' hb' => ?_))))
   refine fin v' G (hex o'.ext) (fun q hq => .inl hq) (hL'.st o'.ext ?_ hs hcap hok')
   have : (if (128 : Int) < ((l.lim + c.batch : Nat) : Int) then (128 : Int) else ((l.lim + c.batch : Nat) : Int)) = ((min (l.lim + c.batch) 128 : Nat) : Int) := by split <;> omega
   rw [this] at hb'
   exact hb'
 ·have hpos := List.length_pos_iff.2 h0
  obtain ⟨x, hx⟩ : ∃ x, l.os[l.os.length - 1]? = some x := ⟨_, List.getElem?_eq_getElem (by omega)⟩
  have hgl : l.os.getLast? = some x := by rw [List.getLast?_eq_getElem?]; exact hx
  have e1 : (takeL c l).1 = some x := by unfold takeL; rw [hgl]
  have e2 : (takeL c l).2 = { l with os := l.os.dropLast, low := min l.low (l.os.length - 1) } := by unfold takeL; rw [hgl]
  rw [e1, e2] at fin
  rw [e2] at hok'
  refine ifF (by simp only [beq_eq_false_iff_ne]; omega) ?_
  refine nilP (hbk.rS rfl (arN (m := l.os.length - 1) (by simp only; omega) (by omega) (nilP (hbk.rS rfl (hs.ixI hx (nilP (hbk.rS rfl ?_)))))))
  have hsub := SlR.sub hs (lo := 0) (hi := l.os.length - 1) (mx := s.cap) (by omega) (by omega) (by omega)
  have ed : ((intsI l.os).drop (0 * 1)).take ((l.os.length - 1 - 0) * 1) = intsI l.os.dropLast := by simp [intsI, List.dropLast_eq_take]
  rw [ed] at hsub
  refine slc (lo := 0) (by omega) (by simp only; omega) (by simp only; omega) (nilP (hbk.s1 (by simp [liV]) fun v1 o1' hb1 => nilP (hb1.rI rfl (nilP (hb1.s1 (by simp [liV]) fun v2 o2' hb2 => ?_)))))
  have e12 := o1'.ext.trans o2'.ext
  refine fin v2 G (hex e12) (fun q hq => .inl hq) (hL'.st e12 ?_ hsub (by simp only; omega) hok')
  have : (if ((l.os.length - 1 : Nat) : Int) < (l.low : Int) then ((l.os.length - 1 : Nat) : Int) else (l.low : Int)) = ((min l.low (l.os.length - 1) : Nat) : Int) := by split <;> omega
  rw [this] at hb2
  exact hb2
theorem Want_ok (h : CaY σ F Y tb bud ls) (hc : tb[k]? = some c) (hl : ls[k]? = some l) {R : Int -> Int -> Hp -> Prop}
 (hR : ∀ σ' Y', Ext F σ σ' -> Y'.p = Y.p -> CaY σ' (Grow F σ) Y' tb bud ls -> R ((wantL c l : Nat) : Int) 0 σ') : cache_Cache_Want.call (some ⟨Y.p, 0, none⟩) (k : Int) σ R := by
 obtain ⟨hcok, hk⟩ := h.cls hc
 refine cache_Cache_Want.of_vc ?_
 unfold cache_Cache_Want.vc
 refine kfind_ok h hk fun v Y' b e hp hb h' => ifF rfl ?_
 obtain ⟨G, hL, hput⟩ := h'.upd e hb hl
 obtain ⟨hGb, hok, s, hbk, hs, hcap⟩ := hL
 have hhd := h'.hd
 rw [hp] at hhd
 refine nilP (hbk.rI rfl (nilP (hhd.rS rfl (tab_rd h'.tabS hc (d := 2) (by omega) ?_))))
 simp only [if_neg (show ¬ (2 = 0) by omega), if_neg (show ¬ (2 = 1) by omega)]
 have : (if (c.batch : Int) < (l.lim : Int) then (c.batch : Int) else (l.lim : Int)) = ((wantL c l : Nat) : Int) := by unfold wantL; split <;> omega
 rw [this]
 exact hR v Y' e hp h'
theorem rev_get (l : List Int) (i : Nat) (h : i < l.length) : l.reverse[i]? = l[l.length - 1 - i]? := by
 rw [List.getElem?_reverse h]
theorem Reverse_ok {s : Sl} {xs : List Int} (h : RowR s 1 (intsI xs) σ F) (hlen : xs.length <= 1000000) {R : Hp -> Prop} (hR : ∀ σ', Ext F σ σ' -> RowR s 1 (intsI xs.reverse) σ' F -> R σ') : slices_Reverse_int_int.call s σ R := by
 refine slices_Reverse_int_int.of_vc ?_
 unfold slices_Reverse_int_int.vc
 have hsl : s.len = xs.length := by have := h.1; simp [intsI] at this; omega
 let mid (i : Nat) : List Int := (List.range xs.length).map fun j => if j < i ∨ xs.length - i <= j then xs.getD (xs.length - 1 - j) 0 else xs.getD j 0
 have mlen : ∀ i, (mid i).length = xs.length := fun i => by simp [mid]
 have mget : ∀ i j, j < xs.length -> (mid i)[j]? = some (if j < i ∨ xs.length - i <= j then xs.getD (xs.length - 1 - j) 0 else xs.getD j 0) := fun i j hj => by simp [mid, hj]
 have m0 : mid 0 = xs := by
  apply List.ext_getElem?
  intro j
  by_cases hj : j < xs.length
  ·rw [mget 0 j hj, if_neg (by omega)]
   simp [List.getD_eq_getElem?_getD, List.getElem?_eq_getElem hj]
  ·rw [List.getElem?_eq_none (by rw [mlen]; omega), List.getElem?_eq_none (by omega)]
 have mend : ∀ i, xs.length <= 2 * i + 1 -> i <= xs.length -> mid i = xs.reverse := by
  intro i h1 h2
  apply List.ext_getElem?
  intro j
  by_cases hj : j < xs.length
  ·rw [mget i j hj, rev_get xs j hj, List.getD_eq_getElem?_getD, List.getD_eq_getElem?_getD, List.getElem?_eq_getElem (show xs.length - 1 - j < xs.length by omega), List.getElem?_eq_getElem hj]
   split
   ·rfl
   ·have : xs.length - 1 - j = j := by omega
    simp only [this]; rfl
  ·rw [List.getElem?_eq_none (by rw [mlen]; omega), List.getElem?_eq_none (by simp; omega)]
 have step : ∀ i, 2 * i + 1 < xs.length -> ((mid i).set i (xs.getD (xs.length - 1 - i) 0)).set (xs.length - 1 - i) (xs.getD i 0) = mid (i + 1) := by
  intro i hi
  apply List.ext_getElem?
  intro j
  by_cases hj : j < xs.length
  ·rw [mget (i + 1) j hj, List.getElem?_set, List.getElem?_set]
   simp only [List.length_set, mlen]
   by_cases e1 : xs.length - 1 - i = j
   ·subst e1
    rw [if_pos rfl, if_pos (by omega), if_pos (by omega)]
    congr 2; omega
   ·rw [if_neg e1]
    by_cases e2 : i = j
    ·subst e2
     rw [if_pos rfl, if_pos (by omega), if_pos (by omega)]
    ·rw [if_neg e2, mget i j hj]
     by_cases e3 : j < i ∨ xs.length - i <= j
     ·rw [if_pos e3, if_pos (by omega)]
     ·rw [if_neg e3, if_neg (by omega)]
  ·rw [List.getElem?_eq_none (by simp [mlen]; omega), List.getElem?_eq_none (by rw [mlen]; omega)]
 refine arW ?_
 rw [wrap_i64 (by omega) (by omega)]
 refine loop2 (a := .i .i64) (bb := .i .i64) (fun (i j : Int) v => ∃ n : Nat, i = (n : Int) /\ j = (xs.length : Int) - 1 - n /\ n <= xs.length /\ Ext F σ v /\ RowR s 1 (intsI (mid n)) v F) (fun i _ _ => xs.length - i.toNat) ⟨0, rfl, by omega, by omega, Ext.refl _ _, by rw [m0]; exact h⟩ ?_
 rintro i j v ⟨n, rfl, rfl, hn, ev, hv⟩
 refine ifD (fun hlt => ?_) fun hge => ?_
 ·have hlt' : 2 * n + 1 < xs.length := by omega
  have hja : (xs.length : Int) - 1 - n = ((xs.length - 1 - n : Nat) : Int) := by omega
  rw [hja]
  have g1 := mget n (xs.length - 1 - n) (by omega)
  have g2 := mget n n (by omega)
  rw [if_neg (by omega)] at g1 g2
  rw [List.getD_eq_getElem?_getD] at g1 g2
  obtain ⟨b, hsa⟩ : ∃ b, s.a = some ⟨b, 0, none⟩ := by
   rcases hv.2 with ⟨q1, q2⟩ | ⟨b, cs, _, ha, _⟩
   ·omega
   ·exact ⟨b, ha⟩
  have hcell : ∀ u, RowR s 1 (intsI (mid n)) u F -> ∀ (j : Nat) (x : Int), (mid n)[j]? = some x -> cell u (Addr.add ⟨b, 0, none⟩ ((j : Int).toNat * 1)) = some (.int .i64 x) := fun u hu j x hx => by
   obtain ⟨b', o, ha, hc⟩ := hu.slR.cell (j := j) (v := .int .i64 x) (by simp [intsI, hx])
   rw [hsa] at ha
   cases ha
   rw [add_lit, show 0 + (j : Int).toNat * 1 = 0 + j by omega]; exact hc
  rw [hsa]
  refine ⟨fun u => RowR s 1 (intsI (mid n)) u F, hv, ?_⟩
  refine ix (by omega) (by omega) ⟨_, fun u hu => hcell u hu _ _ g1, ?_⟩
  refine ix (by omega) (by omega) ⟨_, fun u hu => hcell u hu _ _ g2, ?_⟩
  refine ix (by omega) (by omega) ?_
  refine hv.st (j := n) (by simp [intsI, mlen]; omega) (fun b' hb' => by rw [hsa] at hb'; cases hb'; rw [add_lit]; simp) fun v1 e1 h1 => ?_
  refine ix (by omega) (by omega) ?_
  refine h1.st (j := xs.length - 1 - n) (by simp [intsI, mlen]; omega) (fun b' hb' => by rw [hsa] at hb'; cases hb'; rw [add_lit]; simp) fun v2 e2 h2 => ?_
  refine arN (m := n + 1) (by omega) (by omega) (arN (m := xs.length - 1 - n - 1) (by omega) (by omega) ⟨⟨n + 1, rfl, by omega, by omega, (ev.trans e1).trans e2, ?_⟩, by omega⟩)
  rw [← step n hlt', List.getD_eq_getElem?_getD, List.getD_eq_getElem?_getD]
  have em : ∀ (l : List Int) (i : Nat) (x : Int), intsI (l.set i x) = (intsI l).set i (.int .i64 x) := fun l i x => by simp [intsI, List.map_set]
  rw [em, em]
  exact h2
 ·rw [mend n (by omega) (by omega)] at hv
  exact hR v ev hv
theorem kadd0_ok (h : LiR b l σ G) {sl : Sl} (hz : sl.len = 0) {R : Int -> Hp -> Prop} (hR : ∀ σ', Ext (· = b) σ σ' -> LiR b l σ' G -> R 0 σ') : cache_list_add.call (some ⟨b, 0, none⟩) sl σ R := by
 refine cache_list_add.of_vc ?_
 unfold cache_list_add.vc
 have hL := h
 obtain ⟨hF, hok, s, hb, hss, hc⟩ := h
 have hsl : s.len = l.os.length := by have := hss.1; simp [intsI] at this; omega
 have hmany := hok.many
 refine nilP (hb.rS rfl (arN (m := l.os.length) (by simp only; omega) (by omega) (ifDF (by omega) (nilP (hb.rS rfl ?_)))))
 refine slices_Clip_int_int.of_vc ?_
 unfold slices_Clip_int_int.vc
 refine slc (lo := 0) (by simp only; omega) (by simp only; omega) (by simp only; omega) ?_
 have hsub := SlR.sub hss (lo := 0) (hi := s.len) (mx := s.len) (by omega) (by omega) (by omega)
 have ed : ((intsI l.os).drop (0 * 1)).take ((s.len - 0) * 1) = intsI l.os := by rw [hsl, List.take_of_length_le (by simp [intsI])]; simp
 rw [ed] at hsub
 have key : ∀ (s' : Sl), SlR s' 1 (intsI l.os) σ (fun q => G q /\ q ≠ b) -> s'.len <= s'.cap -> NilP (some ⟨b, 0, none⟩) fun a22 => St1 (a22.add 0) (.slice s'.a s'.len s'.cap) σ fun v2 => R 0 v2 := fun s' hs' hc' => by
  refine nilP (hb.s1 (by simp [liV]) fun v2 o2 hb2 => hR v2 o2.ext ?_)
  exact hL.st (l' := l) (s := s') o2.ext hb2 hs' hc' hok
 refine ⟨intsI l.os, [], by simp [intsI]; omega, by simp [hz], hsub.rd, by cases sl.a <;> simp [Rd], by simp, ?_, by simp only; omega, fun hin => ?_, fun hout => absurd (by simp only [hz]; omega) hout⟩
 ·simp only [hz]
  have : (s.len - 0 + 0) * 8 <= 256 * 8 := Nat.mul_le_mul (by omega) (by omega)
  omega
 ·simp only [hz, Nat.add_zero]
  cases ha : (if s.len = 0 then s.a else s.a.map (·.add (0 * 1)))
  ·rw [ha] at hsub
   exact key ⟨none, s.len - 0, s.len - 0⟩ hsub (Nat.le_refl _)
  ·rw [ha] at hsub
   exact key ⟨some _, s.len - 0, s.len - 0⟩ hsub (Nat.le_refl _)
theorem kaddA_ok (h : LiR b l σ G) {sl : Sl} {xs : List Int} {X : Rg} (hs : SlR sl 1 (intsI xs) σ X) (hfit : l.os.length + xs.length <= 256) {R : Int -> Hp -> Prop}
 (hR : ∀ σ', Ext (· = b) σ σ' -> LiR b (addL xs l) σ' (Grow G σ) -> R 0 σ') : cache_list_add.call (some ⟨b, 0, none⟩) sl σ R := by
 by_cases hx : xs = []
 ·subst hx
  have ea : addL [] l = l := by unfold addL; rw [if_neg (by simp only [List.length_nil] at hfit ⊢; omega)]; simp
  refine kadd0_ok h (by have := hs.1; simp [intsI] at this; omega) fun σ' e hL => hR σ' e ?_
  rw [ea]
  exact (LiR.loc _ _).mono hL fun q _ hq => .inl hq
 ·exact kadd_ok h hs hx hfit fun σ' e hL => hR σ' e ((LiR.loc _ _).mono hL fun q _ hq => hq.imp (fun e => by rw [e]; exact h.1) id)
theorem Fill_ok (h : CaY σ F Y tb bud ls) (hc : tb[k]? = some c) (hl : ls[k]? = some l) {sl : Sl} {xs : List Int} {X : Rg} (hs : SlR sl 1 (intsI xs) σ X) (hX : ∀ q, X q -> ¬ F q) (hfit : l.os.length + xs.length <= 256) {R : Int -> Hp -> Prop}
 (hR : ∀ σ' Y', Ext F σ σ' -> Y'.p = Y.p -> CaY σ' (Grow F σ) Y' tb bud (ls.set k (addL xs.reverse l)) -> R 0 σ') : cache_Cache_Fill.call (some ⟨Y.p, 0, none⟩) (k : Int) sl σ R := by
 obtain ⟨hcok, hk⟩ := h.cls hc
 have hsl : sl.len = xs.length := by have := hs.1; simp [intsI] at this; omega
 refine cache_Cache_Fill.of_vc ?_
 unfold cache_Cache_Fill.vc
 refine kfind_ok h hk fun v Y' b e hp hb h' => ifF rfl ?_
 have hs1 := (SlR.loc _ _ _).keep hs e fun q _ hq => hX q hq
 refine cloneV_ok hs1 one1_intsI (by omega) fun s1 v1 hl1 e1 hr1 => ?_
 refine Reverse_ok hr1 (by omega) fun v2 e2 hr2 => ?_
 have e02 : Ext0 v v2 := Ext.fresh e1 e2 fun q hq => hq
 obtain ⟨G, hL, hput⟩ := (h'.keep0 e02).upd (e.trans (Ext0.to e02)) hb hl
 refine kaddA_ok hL hr2.slR (by simp; omega) fun v3 e3 hL3 => ?_
 obtain ⟨e4, h4⟩ := hput v3 _ _ (e3.sub fun q hq => hq ▸ hL.1) (fun q hq => hq) hL3
 exact hR v3 Y' e4 hp h4
theorem set_same {α : Type} {ls : List α} {k : Nat} {l : α} (h : ls[k]? = some l) : ls.set k l = ls := by
 apply List.ext_getElem?
 intro j
 by_cases hj : j = k
 ·subst hj; rw [List.getElem?_set_self (List.getElem?_eq_some_iff.1 h).1, h]
 ·rw [List.getElem?_set_ne (Ne.symm hj)]
theorem Put_ok (h : CaY σ F Y tb bud ls) (hc : tb[k]? = some c) (hl : ls[k]? = some l) (x : Int) {R : Sl -> Int -> Hp -> Prop}
 (hR : ∀ σ' Y' s e (Q : Rg), Ext F σ σ' -> Y'.p = Y.p -> (l.os.length + 1 <= 256 -> e = 0) -> (∀ q, Q q -> σ.size <= q) -> RowR s 1 (intsI (putL c x l).1) σ' Q -> CaY σ' (fun q => Grow F σ q /\ ¬ Q q) Y' tb bud (ls.set k (putL c x l).2) -> R s e σ') : cache_Cache_Put.call (some ⟨Y.p, 0, none⟩) (k : Int) x σ R := by
 obtain ⟨hcok, hk⟩ := h.cls hc
 refine cache_Cache_Put.of_vc ?_
 unfold cache_Cache_Put.vc
 refine kfind_ok h hk fun v Y' b e hp hb h' => ifF rfl ?_
 have hσv := e.1
 obtain ⟨G, hG, hL, _, hput⟩ := h'.liS hb hl
 have hblt : b < v.size := by obtain ⟨_, _, s, hbk, _⟩ := hL; exact hbk.lt
 have hbG := hL.1
 have hok := hL.2.1
 have hmany := hok.many
 have hput' : ∀ (σ' : Hp) (l' : Li) (G' : Rg), Ext G v σ' -> (∀ q, G' q -> Grow G v q) -> LiR b l' σ' G' -> Ext F σ σ' /\ CaY σ' (fun q => Grow F σ q /\ q < v.size /\ ¬ G q ∨ G' q) Y' tb bud (ls.set k l') := fun σ' l' G' e' hg hL' => by
  obtain ⟨e1, h1⟩ := hput σ' l' G' e' hg hL'
  exact ⟨e.growT e1, h1⟩
 have hin : ∀ {G' : Rg} {q : Nat}, (∀ q, G' q -> Grow G v q) -> (Grow F σ q /\ q < v.size /\ ¬ G q ∨ G' q) -> Grow F σ q := fun hg hq => by
  rcases hq with hq | hq
  ·exact hq.1
  ·rcases hg _ hq with h2 | h2
   ·exact hG _ h2
   ·exact .inr (by omega)
 refine nw (cs := [.int .i64 x]) fun v1 hz1 e1 hb1 => ?_
 have hL1 := (LiR.loc _ _).keep0 hL e1
 have hs1 : SlR ⟨some ⟨v.size, 0, none⟩, 1, 1⟩ 1 (intsI [x]) v1 (· = v.size) := hb1.slR (o := 0) rfl (by simp [intsI]) (fun j hj => by
  simp only [intsI, List.map_cons, List.map_nil, List.length_cons, List.length_nil] at hj ⊢
  rw [Nat.zero_add])
 by_cases hfit : l.os.length + 1 <= 256
 ·refine kaddA_ok hL1 hs1 (by simpa using hfit) fun v2 e2 hL2 => ifF rfl ?_
  have e02 : Ext G v v2 := (Ext0.to e1).trans (e2.sub fun q hq => hq ▸ hbG)
  have hg2 : ∀ q, Grow G v1 q -> Grow G v q := fun q hq => hq.imp id fun hx => by omega
  obtain ⟨eF2, h2⟩ := hput' v2 _ _ e02 hg2 hL2
  have hal : (addL [x] l).os = l.os ++ [x] /\ (addL [x] l).lim = l.lim /\ (addL [x] l).low = l.low := by unfold addL; rw [if_neg (by simp only [List.length_cons, List.length_nil]; omega)]; exact ⟨rfl, rfl, rfl⟩
  have hL2' := hL2
  obtain ⟨_, ok2, s2, hbk2, hs2, hcap2⟩ := hL2
  have hs2l : s2.len = l.os.length + 1 := by have := hs2.1; simp [intsI, hal.1] at this; omega
  refine nilP (hbk2.rS rfl (nilP (hbk2.rI rfl ?_)))
  rw [hal.2.1]
  refine ifD (fun c1 => ?_) fun c1 => ?_
  ·have c1' : l.os.length + 1 <= l.lim := by simp only at c1; omega
   have ep : putL c x l = ([], addL [x] l) := by unfold putL; rw [if_neg (by omega), if_pos c1']
   refine hR v2 Y' _ 0 (fun _ => False) eF2 hp (fun _ => rfl) (fun q hq => hq.elim) (by rw [ep]; exact RowR.nil _ _ _ _) ?_
   rw [ep]
   exact h2.mono fun q _ hq => ⟨hin hg2 hq, id⟩
  ·have c1' : ¬ l.os.length + 1 <= l.lim := by simp only at c1; omega
   have ep : putL c x l = oldL (min c.batch (l.os.length + 1)) (upL c (addL [x] l)) := by unfold putL; rw [if_neg (by omega), if_neg c1']
   have hhd := h2.hd
   rw [hp] at hhd
   refine nilP (hhd.rS rfl (tab_rd h2.tabS hc (d := 2) (by omega) ?_))
   simp only [if_neg (show ¬ (2 = 0) by omega), if_neg (show ¬ (2 = 1) by omega)]
   refine Jn.intro ?_
   have rest : ∀ v3, Ext (· = b) v2 v3 -> LiR b (upL c (addL [x] l)) v3 (Grow G v1) -> NilP (some ⟨b, 0, none⟩) fun a62 => LdS (a62.add 0) v3 fun t64 => cache_list_oldest.call (some ⟨b, 0, none⟩) (if ((t64.len : Nat) : Int) < (c.batch : Int) then ((t64.len : Nat) : Int) else (c.batch : Int)) v3 fun t67 v4 => R t67 0 v4 := by
    intro v3 e3 hL3
    have hL3' := hL3
    obtain ⟨_, ok3, s3, hbk3, hs3, hcap3⟩ := hL3
    have hup : (upL c (addL [x] l)).os = l.os ++ [x] := by unfold upL; split <;> exact hal.1
    have hs3l : s3.len = l.os.length + 1 := by have := hs3.1; simp [intsI, hup] at this; omega
    refine nilP (hbk3.rS rfl ?_)
    have em : (if ((s3.len : Nat) : Int) < (c.batch : Int) then ((s3.len : Nat) : Int) else (c.batch : Int)) = ((min c.batch (l.os.length + 1) : Nat) : Int) := by rw [hs3l]; split <;> omega
    rw [em]
    refine koldest_ok hL3' (by rw [hup]; simp; omega) fun s z v4 e4 hz hr hL4 => ?_
    have e24 : Ext (· = b) v2 v4 := e3.trans e4
    have e04 : Ext G v v4 := e02.trans (e24.sub fun q hq => hq ▸ hbG)
    have hs23 := e3.1
    have hs02 := e02.1
    obtain ⟨eF4, h4⟩ := hput' v4 _ (fun q => q = b ∨ z <= q) e04 (fun q hq => hq.imp (fun (hx : q = b) => by rw [hx]; exact hbG) fun (hx : z <= q) => by omega) hL4
    refine hR v4 Y' s 0 (fun q => v3.size <= q /\ q < z) eF4 hp (fun _ => rfl) (fun q hq => by omega) (by rw [ep]; exact hr) ?_
    rw [ep]
    refine h4.mono fun q _ hq => ⟨?_, fun hQ => ?_⟩
    ·rcases hq with hq | hq | hq
     ·exact hq.1
     ·subst hq; exact hG _ hbG
     ·exact .inr (by omega)
    ·rcases hq with hq | hq | hq <;> omega
   refine nilP (hbk2.rI rfl ?_)
   rw [hal.2.1]
   refine ifD (fun c2 => ?_) fun c2 => ?_
   ·have c2' : l.lim < c.batch := by omega
    have eu : upL c (addL [x] l) = { addL [x] l with lim := l.lim + 1 } := by unfold upL; rw [hal.2.1, if_pos c2']
    have oku := upL_ok hcok ok2
    refine nilP (hbk2.rI rfl ?_)
    rw [hal.2.1]
    have hl128 := hok.lim
    refine arN (m := l.lim + 1) (by omega) (by omega) (nilP (hbk2.s1 (by simp [liV]) fun v3 o3 hb3 => rest v3 o3.ext ?_))
    rw [eu] at oku ⊢
    exact hL2'.st o3.ext hb3 hs2 hcap2 oku
   ·have eu : upL c (addL [x] l) = addL [x] l := by unfold upL; rw [hal.2.1, if_neg (by omega)]
    exact rest v2 (Ext.refl _ _) (by rw [eu]; exact hL2')
 ·refine kaddF_ok hL1 hs1 (by simpa using hfit) (by simp) (ifT rfl ?_)
  have ep : putL c x l = ([], l) := by unfold putL; rw [if_pos (by omega)]
  refine hR v1 Y' _ 6 (fun _ => False) (e.trans (Ext0.to e1)) hp (fun hx => absurd hx hfit) (fun q hq => hq.elim) (by rw [ep]; exact RowR.nil _ _ _ _) ?_
  rw [ep, set_same hl]
  exact (h'.keep0 e1).mono fun q _ hq => ⟨hq, id⟩
end Go.Ar
namespace Go.Ar
open Go Go.Vc Go.Proofs
open Go.Bu (runOk giveS takeAt)


variable {σ : Hp} {F : Rg} {p hs : Nat} {A : AR} {Y : Lay} {T : Nat -> Hp -> Rg -> Prop}
theorem AHY.cenS (h : AHY σ F Y A T) {k q : Nat} {c : Cls} {ss : List SpA} (h1 : Y.cps[k]? = some q) (h2 : A.tb[k]? = some c) (h3 : A.cen[k]? = some ss) :
 ∃ G : Rg, (∀ b, G b -> F b) /\ (∃ ps, CeH σ G q c ps ss) /\ (∀ j, ∃ H : Rg, (∀ b, H b -> F b) /\ (∀ b, H b -> ¬ G b) /\ T j σ H) /\ ∀ (σ' : Hp) (ss' : List SpA) (ps' : List (Nat × Nat)) (G' H : Rg),
  Ext G σ σ' -> (∀ b, G' b -> G b ∨ σ.size <= b) -> CeH σ' G' q c ps' ss' -> (∀ b, (F b /\ b < σ.size /\ ¬ G b ∨ G' b) -> H b) -> AHY σ' H Y { A with cen := A.cen.set k ss' } T := by
 obtain ⟨G, hG, hi, hd, hput⟩ := h.step (.cen k)
 have hk : k < A.cen.length := (List.getElem?_eq_some_iff.1 h3).1
 refine ⟨G, hG, C_cen h1 h2 h3 hi, fun j => hd (.tra j) (by intro e; cases e), fun σ' ss' ps' G' H e hg hC hH => ?_⟩
 refine hput σ' _ _ T G' H h.lay.setCen h.tl AC_cen e hg ?_ hH
 simp only [AC]
 rw [h1, h2, List.getElem?_set_self hk]
 exact ⟨ps', hC⟩
theorem FromCentral_ok (h : AHY σ F Y A T) (k m : Int) {R : Sl -> Int -> Hp -> Prop} (hR : ∀ s σ', Ext F σ σ' -> RowR s 1 (ints (fromCenV A k m)) σ' (fun b => σ.size <= b) -> AHY σ' (Cut F σ) Y (fromCenS A k m) T -> R s (fromCenE A k m) σ') :
 arena_Arena_FromCentral.call (some ⟨Y.p, 0, none⟩) k m σ R := by
 refine arena_Arena_FromCentral.of_vc ?_
 unfold arena_Arena_FromCentral.vc
 refine acheck_ok h k (fun hk => ?_) fun x hx hlt => ?_
 ·have e1 : fromCenE A k m = 1 := by unfold fromCenE; rw [hk]; rfl
  have e2 : fromCenS A k m = A := by unfold fromCenS; rw [e1]; rfl
  have e3 : fromCenV A k m = [] := by unfold fromCenV; rw [e1]; rfl
  have := hR ⟨none, 0, 0⟩ σ (Ext.refl _ _) (by rw [e3]; exact RowR.nil _ _ _ _) (by rw [e2]; exact h.cut)
  rw [e1] at this
  exact ifT rfl this
 ·subst hx
  have hk : A.ck (x : Int) = true := by unfold AR.ck; simp; omega
  obtain ⟨c, ss, q, t, r, hc, hss, hq, _, _, hok⟩ := h.at_ hlt
  obtain ⟨G, hG, ⟨ps, hC⟩, _, hput⟩ := h.cenS hq hc hss
  refine ifF rfl (nilP (h.hd.rS rfl (h.crowR hq ?_)))
  by_cases hm : m < 0
  ·have e1 : fromCenE A x m = 1 := by unfold fromCenE; rw [hk, if_pos rfl, if_pos hm]
   have e2 : fromCenS A x m = A := by unfold fromCenS; rw [e1]; rfl
   have e3 : fromCenV A x m = [] := by unfold fromCenV; rw [e1]; rfl
   have := hR ⟨none, 0, 0⟩ σ (Ext.refl _ _) (by rw [e3]; exact RowR.nil _ _ _ _) (by rw [e2]; exact h.cut)
   rw [e1] at this
   exact CTake_neg hC m hm this
  ·have e1 : fromCenE A x m = 0 := by unfold fromCenE; rw [hk, if_pos rfl, if_neg hm]
   have er : fromCenR A x m = takeC c m.toNat ss := by unfold fromCenR; simp only [Int.toNat_natCast]; rw [hc, hss]
   have e2 : fromCenS A x m = { A with cen := A.cen.set x (takeC c m.toNat ss).2 } := by unfold fromCenS; rw [e1, if_pos rfl, er]; rfl
   have e3 : fromCenV A x m = (takeC c m.toNat ss).1 := by unfold fromCenV; rw [e1, if_pos rfl, er]
   refine CTake_ok hC m (by omega) fun s σ' e hrow hC' => ?_
   have := hR s σ' (e.sub hG) (by rw [e3]; exact hrow) (by rw [e2]; exact hput σ' _ _ (Cut G σ) _ e (fun b hb => .inl hb.1) hC' (cut_of hG))
   rw [e1] at this; exact this
theorem AC_tra {k : Nat} {f : TrA -> TrA} : ∀ j, j ≠ Lb.tra k -> AC { A with tra := A.tra.modify k f } Y (traT { A with tra := A.tra.modify k f } Y) j = AC A Y (traT A Y) j := by
 intro j hj
 cases j <;> first | rfl | skip
 rename_i k'
 have hne : k ≠ k' := fun e => hj (by rw [e])
 simp only [AC, traT]
 simp [List.getElem?_modify, hne]
theorem LayOk.setTra {k : Nat} {f : TrA -> TrA} (h : LayOk A Y) : LayOk { A with tra := A.tra.modify k f } Y := ⟨h.c, h.t, h.cen, by simpa using h.tra, h.tb1, h.tb2, h.n1, h.n2, h.n3, h.st, h.room, h.ok⟩
theorem AHY.traS (h : AHY σ F Y A (traT A Y)) {k q : Nat} {c : Cls} {t : TrA} (h1 : Y.tps[k]? = some q) (h2 : A.tb[k]? = some c) (h3 : A.tra[k]? = some t) :
 ∃ G : Rg, (∀ b, G b -> F b) /\ TfH σ G q c.batch A.room t /\ ∀ (σ' : Hp) (f : TrA -> TrA) (G' H : Rg),
  Ext G σ σ' -> (∀ b, G' b -> G b ∨ σ.size <= b) -> TfH σ' G' q c.batch A.room (f t) -> (∀ b, (F b /\ b < σ.size /\ ¬ G b ∨ G' b) -> H b) -> AHY σ' H Y { A with tra := A.tra.modify k f } (traT { A with tra := A.tra.modify k f } Y) := by
 obtain ⟨G, hG, hi, hd, hput⟩ := h.step (.tra k)
 have hi' : TfH σ G q c.batch A.room t := by
  simp only [AC, traT] at hi
  rw [h1, h2, h3] at hi
  exact hi
 refine ⟨G, hG, hi', fun σ' f G' H e hg hC hH => ?_⟩
 refine hput σ' _ _ _ G' H h.lay.setTra (fun j => traT.loc j) AC_tra e hg ?_ hH
 simp only [AC, traT]
 rw [h1, h2, List.getElem?_modify_eq, h3]
 exact hC
theorem FromTransferB_ok (h : AHY σ F Y A (traT A Y)) (k : Int) {R : Sl -> Int -> Hp -> Prop} (hR : ∀ s σ', Ext F σ σ' -> (∀ b, InB s b -> F b) -> SlR s 1 (intsI (fromTrV A k)) σ' (InB s) -> s.len <= s.cap -> AHY σ' (fun b => F b /\ ¬ InB s b) Y (fromTrS A k) (traT (fromTrS A k) Y) -> R s (fromTrE A k) σ') :
 arena_Arena_FromTransfer.call (some ⟨Y.p, 0, none⟩) k σ R := by
 refine arena_Arena_FromTransfer.of_vc ?_
 unfold arena_Arena_FromTransfer.vc
 refine acheck_ok h k (fun hk => ?_) fun x hx hlt => ?_
 ·have e1 : fromTrE A k = 1 := by unfold fromTrE; rw [hk]; rfl
  have e2 : fromTrS A k = A := by unfold fromTrS; rw [e1]; rfl
  have e3 : fromTrV A k = [] := by unfold fromTrV; rw [e1]; rfl
  have := hR ⟨none, 0, 0⟩ σ (Ext.refl _ _) (fun b hb => by obtain ⟨a, h1, _⟩ := hb; cases h1) (by rw [e3]; exact SlR.nil _ _ _ _) (Nat.le_refl _) (by rw [e2]; exact h.mono fun b _ hb => ⟨hb, fun ⟨a, h1, _⟩ => by cases h1⟩)
  rw [e1] at this
  exact ifT rfl this
 ·subst hx
  have hk : A.ck (x : Int) = true := by unfold AR.ck; simp; omega
  obtain ⟨c, ss, q, t, r, hc, hss, hq, ht, hr, hok⟩ := h.at_ hlt
  obtain ⟨G, hG, hC, hput⟩ := h.traS hr hc ht
  refine ifF rfl (nilP (h.hd.rS rfl (h.trowR hr ?_)))
  by_cases hb : t.bs = []
  ·have e1 : fromTrE A x = 4 := by unfold fromTrE; rw [hk, if_pos rfl]; simp only [Int.toNat_natCast]; rw [ht]; simp [hb]
   have e2 : fromTrS A x = A := by unfold fromTrS; rw [e1]; rfl
   have e3 : fromTrV A x = [] := by unfold fromTrV; rw [e1]; rfl
   have := hR ⟨none, 0, 0⟩ σ (Ext.refl _ _) (fun b hb => by obtain ⟨a, h1, _⟩ := hb; cases h1) (by rw [e3]; exact SlR.nil _ _ _ _) (Nat.le_refl _) (by rw [e2]; exact h.mono fun b _ hb => ⟨hb, fun ⟨a, h1, _⟩ => by cases h1⟩)
   rw [e1] at this
   exact Remove_none hC hb this
  ·have e1 : fromTrE A x = 0 := by unfold fromTrE; rw [hk, if_pos rfl]; simp only [Int.toNat_natCast]; rw [ht]; simp [hb]
   have e2 : fromTrS A x = { A with tra := A.tra.modify x TrA.rem } := by unfold fromTrS; rw [e1, if_pos rfl]; rfl
   have e3 : fromTrV A x = t.bs.getLast?.getD [] := by unfold fromTrV; rw [e1, if_pos rfl]; simp only [Int.toNat_natCast]; rw [ht]
   refine Remove_ok hC hb fun s σ' e hin hrow hcap hC' => ?_
   have hreg : ∀ b, (F b /\ b < σ.size /\ ¬ G b ∨ G b /\ ¬ InB s b) -> F b /\ ¬ InB s b := fun b hb => by
    rcases hb with hb | hb
    ·exact ⟨hb.1, fun hi => hb.2.2 (hin b hi)⟩
    ·exact ⟨hG b hb.1, hb.2⟩
   have := hR s σ' (e.sub hG) (fun b hb => hG b (hin b hb)) (by rw [e3]; exact hrow) hcap (by rw [e2]; exact hput σ' _ (fun b => G b /\ ¬ InB s b) _ e (fun b hb => .inl hb.1) hC' hreg)
   rw [e1] at this; exact this
theorem ToTransfer_ok (h : AHY σ F Y A (traT A Y)) (k : Int) {sl : Sl} {xs : List Int} {X : Rg} (hs : SlR sl 1 (intsI xs) σ X) (hi : ∀ x ∈ xs, I63 x) {R : Bool -> Int -> Hp -> Prop} (hR : ∀ σ', Ext F σ σ' -> AHY σ' (Grow F σ) Y (toTrS A k xs) (traT (toTrS A k xs) Y) -> R (toTrV A k xs) (toTrE A k xs) σ') :
 arena_Arena_ToTransfer.call (some ⟨Y.p, 0, none⟩) k sl σ R := by
 refine arena_Arena_ToTransfer.of_vc ?_
 unfold arena_Arena_ToTransfer.vc
 have hlen : sl.len = xs.length := by have := hs.1; simp [intsI] at this; omega
 have no : ∀ e : Int, e ≠ 0 -> toTrE A k xs = e -> R false e σ := fun e he h1 => by
  have e3 : toTrV A k xs = false := by unfold toTrV; rw [decide_eq_false (by omega)]; rfl
  have e2 : toTrS A k xs = A := by unfold toTrS; rw [e3]; rfl
  have := hR σ (Ext.refl _ _) (by rw [e2]; exact h.mono fun b _ hb => .inl hb)
  rw [h1, e3] at this; exact this
 refine acheck_ok h k (fun hk => ifT rfl (no 1 (by decide) (by unfold toTrE; rw [hk]; rfl))) fun x hx hlt => ?_
 subst hx
 have hk : A.ck (x : Int) = true := by unfold AR.ck; simp; omega
 obtain ⟨c, ss, q, t, r, hc, hss, hq, ht, hr, hok⟩ := h.at_ hlt
 obtain ⟨G1, ps, hG1, hCe⟩ := h.cen hq hc hss
 obtain ⟨G, hG, hC, hput⟩ := h.traS hr hc ht
 have eE : toTrE A x xs = if xs.length = c.batch then (if xs.all (fun x => isTk c ss x == some true) then 0 else 8) else 1 := by unfold toTrE; rw [hk, if_pos rfl]; simp only [Int.toNat_natCast]; rw [hc, hss]
 refine ifF rfl (nilP (h.hd.rS rfl (h.tabR (d := 2) hc (by omega) ?_)))
 simp only [if_neg (show ¬ (2 = 0) by omega), if_neg (show ¬ (2 = 1) by omega)]
 rw [bneN]
 refine iff_ (fun hb => ?_) fun hb => ?_
 ·have : ¬ xs.length = c.batch := by rw [← hlen]; simpa using hb
  exact no 1 (by decide) (by rw [eE, if_neg this])
 have hbl : xs.length = c.batch := by rw [← hlen]; simpa using hb
 rw [if_pos hbl] at eE
 have h32 : c.batch <= 32 := hok.2.2.2.2.2.2.2
 refine loop1 (a := .i .i64) (fun (i : Int) v => ∃ j : Nat, i = (j : Int) /\ j <= xs.length /\ v = σ /\ ∀ y ∈ xs.take j, isTk c ss y = some true) (fun i _ => xs.length - i.toNat) ⟨0, rfl, by omega, rfl, by simp⟩ ?_
 rintro i v ⟨j, rfl, hj, rfl, hall⟩
 refine ifD (fun hlt2 => ?_) fun hge => ?_
 ·have hj' : j < xs.length := by omega
  have hx : xs[j]? = some xs[j] := List.getElem?_eq_getElem hj'
  have htk : xs.take (j + 1) = xs.take j ++ [xs[j]] := by rw [List.take_add_one, hx]; rfl
  have hmem := List.getElem_mem hj'
  generalize xs[j] = y at *
  have bad : isTk c ss y ≠ some true -> R false 8 v := fun hn => no 8 (by decide) (by
   rw [eE, if_neg]
   intro ha
   rw [List.all_eq_true] at ha
   exact hn (by simpa using ha y hmem))
  refine hs.ixI hx (nilP (h.hd.rS rfl (h.crowR hq (CIsTaken_ok hCe _ (hi y hmem) (fun b hb => ?_) fun hb => ?_))))
  ·refine JnB.intro (ifF rfl ?_)
   cases b
   ·exact ifT rfl (bad (by rw [hb]; simp))
   ·refine ifF rfl (arN (m := j + 1) (by omega) (by omega) ⟨⟨j + 1, rfl, by omega, rfl, fun z hz => ?_⟩, by omega⟩)
    rw [htk] at hz
    rcases List.mem_append.1 hz with h1 | h1
    ·exact hall z h1
    ·simp at h1; rw [h1]; exact hb
  ·exact JnB.intro (ifT rfl (ifT rfl (bad (by rw [hb]; simp))))
 ·have : j = xs.length := by omega
  subst this
  rw [List.take_length] at hall
  have eE0 : toTrE A x xs = 0 := by
   rw [eE, if_pos]
   rw [List.all_eq_true]
   intro y hy; simp [hall y hy]
  have eV : toTrV A x xs = decide (t.bs.length < A.room) := by unfold toTrV; rw [eE0]; simp only [Int.toNat_natCast]; rw [ht]; simp
  refine nilP (h.hd.rS rfl (h.trowR hr (Insert_ok hC hs (by omega) (fun hn => absurd hbl hn) (fun _ hf => ?_) fun _ hf σ' e hC' => ?_)))
  ·rw [decide_eq_false (by omega)] at eV
   have e2 : toTrS A x xs = A := by unfold toTrS; rw [eV]; rfl
   have := hR v (Ext.refl _ _) (by rw [e2]; exact h.mono fun b _ hb => .inl hb)
   rw [eE0, eV] at this; exact this
  ·rw [decide_eq_true (by omega)] at eV
   have e2 : toTrS A x xs = { A with tra := A.tra.modify x fun t => { t with bs := t.bs ++ [xs] } } := by unfold toTrS; rw [eV, if_pos rfl]; rfl
   have := hR σ' (e.sub hG) (by rw [e2]; exact hput σ' (fun t => { t with bs := t.bs ++ [xs] }) (Grow G v) _ e (fun b hb => hb) hC' (grow_of hG fun b hb => hb))
   rw [eE0, eV] at this; exact this
theorem CeH.stB {q : Nat} {c : Cls} {ps : List (Nat × Nat)} {ss : List SpA} {G : Rg} (h : CeH σ G q c ps ss) : ∀ s ∈ ss, s.st <= 1024 := by
 intro s hs
 obtain ⟨i, hi⟩ := List.getElem?_of_mem hs
 have hl := (List.getElem?_eq_some_iff.1 hi).1
 have hp : i < ps.length := by rw [h.len]; exact hl
 have := (h.sp _ _ _ (List.getElem?_eq_getElem hp) hi).fit
 omega
theorem ToCentral_ok (h : AHY σ F Y A T) (k : Int) {sl : Sl} {xs : List Int} (hi : ∀ x ∈ xs, I63 x) (hl : xs.length <= 1000000) (hcap : sl.len <= sl.cap)
 (hs : (∃ X : Rg, SlR sl 1 (intsI xs) σ X /\ ∀ b, b < σ.size -> X b -> ¬ F b) ∨ ∃ j, ∀ H, T j σ H -> SlR sl 1 (intsI xs) σ H)
 {R : Int -> Hp -> Prop} (hR : ∀ σ', Ext F σ σ' -> AHY σ' (Grow F σ) Y (toCenS A k xs) T -> R (toCenE A k xs) σ') :
 arena_Arena_ToCentral.call (some ⟨Y.p, 0, none⟩) k sl σ R := by
 refine arena_Arena_ToCentral.of_vc ?_
 unfold arena_Arena_ToCentral.vc
 have no : ∀ e : Int, e ≠ 0 -> toCenE A k xs = e -> R e σ := fun e he h1 => by
  have e2 : toCenS A k xs = A := by unfold toCenS; rw [if_neg (by omega)]
  have := hR σ (Ext.refl _ _) (by rw [e2]; exact h.mono fun b _ hb => .inl hb)
  rw [h1] at this; exact this
 refine acheck_ok h k (fun hk => ifT rfl (no 1 (by decide) (by unfold toCenE; rw [hk]; rfl))) fun x hx hlt => ?_
 subst hx
 have hk : A.ck (x : Int) = true := by unfold AR.ck; simp; omega
 obtain ⟨c, ss, q, t, r, hc, hss, hq, _, _, hok⟩ := h.at_ hlt
 obtain ⟨G, hG, ⟨ps, hC⟩, hd, hput⟩ := h.cenS hq hc hss
 have hX : ∃ X : Rg, SlR sl 1 (intsI xs) σ X /\ ∀ b, X b -> ¬ G b := by
  rcases hs with ⟨X, h1, h2⟩ | ⟨j, hj⟩
  ·exact ⟨Cut X σ, (SlR.loc _ _ _).cut h1, fun b hb hg => h2 b hb.2 hb.1 (hG b hg)⟩
  ·obtain ⟨H, _, hn, hT⟩ := hd j
   exact ⟨H, hj H hT, hn⟩
 obtain ⟨X, hsX, hXG⟩ := hX
 have eE : toCenE A x xs = putE c ss xs := by unfold toCenE; rw [hk, if_pos rfl]; simp only [Int.toNat_natCast]; rw [hc, hss]
 refine ifF rfl (nilP (h.hd.rS rfl (h.crowR hq (CPut_ok hC hsX hXG hi hl hcap (fun hn => ?_) fun h0 o σ1 e1 hrow hC1 => ?_))))
 ·refine ifT (by simpa using hn) (no _ hn eE)
 ·refine ifF rfl ?_
  have eS : toCenS A x xs = backA { A with cen := A.cen.set x (sweep (xs.foldl (put1 c) ss)) } ((swept (xs.foldl (put1 c) ss)).map fun s => (s, c.pages)) := by
   unfold toCenS; rw [eE, if_pos h0]; simp only [Int.toNat_natCast]; rw [hc, hss]
  have hA1 := hput σ1 _ _ (Cut G σ) _ e1 (fun b hb => .inl hb.1) hC1 (cut_of hG)
  rw [runV_rV] at hrow
  have hlr : ((swept (xs.foldl (put1 c) ss)).map fun s => (s, c.pages)).length <= 1000000 /\ ∀ r ∈ ((swept (xs.foldl (put1 c) ss)).map fun s => (s, c.pages)), r.1 <= 1000000 := by
   have hfold : ∀ (ys : List Int) (ls : List SpA), ((ys.foldl (put1 c) ls).map (·.st)) = ls.map (·.st) := by
    intro ys
    induction ys with
    | nil => intro ls; rfl
    | cons y ys ih =>
     intro ls
     rw [List.foldl_cons, ih]
     unfold put1
     split
     ·rename_i j hj
      split
      ·rename_i s hs2
       split
       ·simp only [List.map_set]
        apply List.ext_getElem?
        intro z
        rw [List.getElem?_set]
        by_cases hz : j = z
        ·subst hz
         rw [if_pos rfl]
         have := (List.getElem?_eq_some_iff.1 hs2).1
         rw [if_pos (by simpa using this)]
         simp [hs2, SpA.put]
        ·rw [if_neg hz]
       ·rfl
      ·rfl
     ·rfl
   have hsw : ∀ s ∈ swept (xs.foldl (put1 c) ss), s ∈ ss.map (·.st) := by
    intro s hs2
    rw [← hfold xs ss]
    unfold swept at hs2
    simp only [List.mem_map, List.mem_filter] at hs2 ⊢
    obtain ⟨z, hz, rfl⟩ := hs2
    exact ⟨z, hz.1, rfl⟩
   have hfew := hC.few
   refine ⟨?_, fun r hr => ?_⟩
   ·have : (swept (xs.foldl (put1 c) ss)).length <= (xs.foldl (put1 c) ss).length := by
     unfold swept; rw [List.length_map]; exact List.length_filter_le _ _
    have h2 : (xs.foldl (put1 c) ss).length = ss.length := by have := congrArg List.length (hfold xs ss); simpa using this
    rw [List.length_map]; omega
   ·obtain ⟨s, hs2, rfl⟩ := List.mem_map.1 hr
    obtain ⟨z, hz, rfl⟩ := List.mem_map.1 (hsw s hs2)
    have := hC.stB z hz
    simp only; omega
  refine back_ok hA1 hrow.slR (fun b _ hb hf => by have := hf.2; omega) hlr.1 hlr.2 fun σ2 e2 hA2 => ?_
  have := hR σ2 ((e1.sub hG).trans (e2.sub fun b hb => hb.1)) ?_
  ·rw [eE, h0] at this; exact this
  ·rw [eS]
   exact hA2.mono fun b _ hb => by
    rcases hb with hb | hb
    ·exact .inl hb.1
    ·exact .inr (Nat.le_trans e1.1 hb)
end Go.Ar
namespace Go.Ar
open Go Go.Vc Go.Proofs
open Go.Bu (runOk giveS takeAt)


variable {σ : Hp} {F : Rg} {p hs : Nat} {A : AR} {Y : Lay} {T : Nat -> Hp -> Rg -> Prop}
theorem runI_get (l : List (Nat × Nat)) (x : Int) : mget (runI l) x = (l.find? fun r => (r.1 : Int) == x).map fun r => (r.2 : Int) := by
 induction l with
 | nil => rfl
 | cons r l ih =>
  have : runI (r :: l) = ((r.1 : Int), (r.2 : Int)) :: runI l := rfl
  rw [this, mget_cons, List.find?_cons, ih]
  by_cases h : (r.1 : Int) = x
  ·simp [h]
  ·have : ((r.1 : Int) == x) = false := by simpa using h
   rw [this, if_neg h]
theorem runI_del (l : List (Nat × Nat)) (x : Int) : mdel (runI l) x = runI (l.filter fun q => !((q.1 : Int) == x)) := by
 unfold mdel runI
 rw [List.filter_map]; rfl
theorem runI_set (l : List (Nat × Nat)) (x m : Nat) : mset (runI l) (x : Int) (m : Int) = runI (takeAS.mset2 l x m) := by
 unfold mset takeAS.mset2 runI
 have e : (l.map fun r => ((r.1 : Int), (r.2 : Int))).any (fun y => y.1 == (x : Int)) = l.any fun r => r.1 == x := by
  rw [List.any_map]
  congr 1
  funext r
  exact beqN r.1 x
 rw [e]
 split
 ·rw [List.map_map, List.map_map]
  apply List.map_congr_left
  intro r _
  simp only [Function.comp_def]
  rw [beqN]
  split <;> rfl
 ·simp
theorem AHY.runsS (h : AHY σ F Y A T) : F Y.rn /\ MapL σ Y.rn .i64 (.i .i64) (runI A.runs) /\ ∀ (σ' : Hp) (rs : List (Nat × Nat)), OnlyB σ σ' Y.rn -> MapL σ' Y.rn .i64 (.i .i64) (runI rs) -> AHY σ' F Y { A with runs := rs } T := by
 obtain ⟨G, hG, ⟨gr, hm⟩, _, hput⟩ := h.step .runs
 refine ⟨hG _ gr, hm, fun σ' rs ho h' => ?_⟩
 exact hput σ' _ _ T G _ h.lay.setRuns h.tl AC_runs (ho.ext.sub fun b hb => by subst hb; exact gr) (fun b hb => .inl hb) ⟨gr, h'⟩ (same_of hG fun b hb => hb)
theorem GivePages_ok (h : AHY σ F Y A T) (x : Int) (hf : ∀ r ∈ A.runs, r.1 <= 1000000) {R : Int -> Hp -> Prop} (hR : ∀ σ', Ext F σ σ' -> AHY σ' (Grow F σ) Y (giveAS A x) T -> R (giveAE A x) σ') :
 arena_Arena_GivePages.call (some ⟨Y.p, 0, none⟩) x σ R := by
 refine arena_Arena_GivePages.of_vc ?_
 unfold arena_Arena_GivePages.vc
 obtain ⟨gr, hm, hput⟩ := h.runsS
 refine amade_ok h (ifF rfl (nilP (h.hd.rM rfl ⟨_, hm, ?_⟩)))
 rw [runI_get]
 cases hr : (A.runs.find? fun r => (r.1 : Int) == x) with
 | none =>
  have e1 : giveAE A x = 8 := by unfold giveAE runAt; rw [hr]; rfl
  have e2 : giveAS A x = A := by unfold giveAS runAt; rw [hr]
  have := hR σ (Ext.refl _ _) (by rw [e2]; exact h.mono fun b _ hb => .inl hb)
  rw [e1] at this
  exact ifT rfl this
 | some r =>
  have e1 : giveAE A x = 0 := by unfold giveAE runAt; rw [hr]; rfl
  have e2 : giveAS A x = back1 { A with runs := A.runs.filter fun q => !((q.1 : Int) == x) } r := by unfold giveAS runAt; rw [hr]
  have hrm := List.mem_of_find?_eq_some hr
  have hrx : (r.1 : Int) = x := by simpa using List.find?_some hr
  refine ifF rfl (nilP (h.hd.rM rfl ⟨_, hm, fun v1 ho1 _ hm1 => ?_⟩))
  have o1 := ho1 _ rfl
  have hm1' : MapL v1 Y.rn .i64 (.i .i64) (mdel (runI A.runs) x) := hm1
  rw [runI_del] at hm1'
  have hA1 := hput v1 _ o1 hm1'
  simp only [Option.map_some, Option.getD_some]
  refine nw (cs := [.int .i64 x, .int .i64 (r.2 : Int)]) fun v2 hz2 e2' hb2 => ?_
  have hA2 := hA1.cut.keep0 e2'
  have hsl : SlR ⟨some ⟨v1.size, 0, none⟩, 1, 1⟩ 2 (rV [r]) v2 (· = v1.size) := by
   refine ⟨rfl, .inr ⟨_, 0, _, rfl, rfl, hb2.q, fun j hj => ?_⟩⟩
   have : rV [r] = [.int .i64 (r.1 : Int), .int .i64 (r.2 : Int)] := rfl
   rw [this, hrx, Nat.zero_add]
  refine back_ok hA2 hsl (fun b _ hb hc => by have := hc.2; omega) (by simp) (fun q hq => by simp at hq; subst hq; exact hf _ hrm) fun v3 e3 hA3 => ?_
  have e13 : Ext F σ v3 := (o1.ext.sub fun b hb => by subst hb; exact gr).trans ((Ext0.to e2').trans (e3.sub fun b hb => hb.1))
  have := hR v3 e13 (by
   rw [e2]
   exact hA3.mono fun b _ hb => by
    rcases hb with hb | hb
    ·exact .inl hb.1
    ·exact .inr (by have := o1.1; omega))
  rw [e1] at this; exact this
theorem backA_frame (rs : List (Nat × Nat)) : ∀ A : AR, (backA A rs).tb = A.tb /\ (backA A rs).room = A.room /\ (backA A rs).tra = A.tra /\ (backA A rs).cen = A.cen /\ (backA A rs).runs = A.runs /\ (backA A rs).n = A.n := by
 induction rs with
 | nil => intro A; exact ⟨rfl, rfl, rfl, rfl, rfl, rfl⟩
 | cons r rs ih => intro A; exact ih (back1 A r)
theorem toCenS_frame (A : AR) (k : Int) (xs : List Int) : (toCenS A k xs).tb = A.tb /\ (toCenS A k xs).room = A.room /\ (toCenS A k xs).tra = A.tra /\ (toCenS A k xs).runs = A.runs /\ (toCenS A k xs).n = A.n := by
 unfold toCenS
 split
 ·split
  ·exact ⟨(backA_frame _ _).1, (backA_frame _ _).2.1, (backA_frame _ _).2.2.1, (backA_frame _ _).2.2.2.2.1, (backA_frame _ _).2.2.2.2.2⟩
  ·exact ⟨rfl, rfl, rfl, rfl, rfl⟩
 ·exact ⟨rfl, rfl, rfl, rfl, rfl⟩
end Go.Ar
namespace Go.Ar
open Go Go.Vc Go.Proofs
open Go.Bu (runOk giveS takeAt)


variable {σ : Hp} {F : Rg} {p hs : Nat} {A : AR} {Y : Lay} {T : Nat -> Hp -> Rg -> Prop}
theorem modify_set {α : Type} {l : List α} {k : Nat} {t : α} {f : α -> α} (h : l[k]? = some t) : l.modify k f = l.set k (f t) := by
 apply List.ext_getElem?
 intro i
 rw [List.getElem?_set, List.getElem?_modify]
 by_cases hi : k = i
 ·subst hi
  have := (List.getElem?_eq_some_iff.1 h).1
  rw [if_pos rfl, if_pos this, h]; simp
 ·simp [hi]
def tickT (A : AR) (Y : Lay) (k r : Nat) (c : Cls) (t : TrA) (out : Sl) (sls : List Sl) (j : Nat) : Hp -> Rg -> Prop :=
 if j = k then fun σ G => TfH σ G r c.batch A.room t.tick /\ SlR out 1 (sls.map slV) σ G /\ Bat sls t.out σ G else traT A Y j
theorem tickT.loc {k r : Nat} {c : Cls} {t : TrA} {out : Sl} {sls : List Sl} (j : Nat) : Lcl (tickT A Y k r c t out sls j) := by
 unfold tickT
 split
 ·exact fun σ σ' F G ⟨h1, h2, h3⟩ hz hs => ⟨TfH.loc _ _ _ _ h1 hz hs, SlR.loc _ _ _ _ _ _ _ h2 hz hs, Bat.loc _ _ _ _ _ _ h3 hz hs⟩
 ·exact traT.loc j
end Go.Ar
namespace Go.Bu


variable {n : Nat} {S : Nat -> Bool}
theorem takeFrom_spec {m a k x : Nat} (h : takeFrom n S m a k = some x) : ∃ j, j < k /\ m <= 2 ^ j /\ a <= 2 ^ j /\ (blocks n S j).head? = some x /\ ∀ i, i < j -> m <= 2 ^ i -> a <= 2 ^ i -> blocks n S i = [] := by
 have before : ∀ k, takeFrom n S m a k = none -> ∀ i, i < k -> m <= 2 ^ i -> a <= 2 ^ i -> blocks n S i = [] := by
  intro k
  induction k with
  | zero => intro _ i hi; omega
  | succ k ih =>
   intro hn i hi h1 h2
   rw [takeFrom] at hn
   split at hn
   ·cases hn
   ·rename_i hn'
    by_cases e : i = k
    ·subst e
     rw [if_pos ⟨h1, h2⟩] at hn
     simpa using hn
    ·exact ih hn' i (by omega) h1 h2
 induction k with
 | zero => simp [takeFrom] at h
 | succ k ih =>
  rw [takeFrom] at h
  split at h
  ·rename_i y hy
   cases h
   obtain ⟨j, h1, h2⟩ := ih hy
   exact ⟨j, by omega, h2⟩
  ·rename_i hn
   split at h
   ·rename_i hc
    exact ⟨k, by omega, hc.1, hc.2, h, before k hn⟩
   ·cases h
theorem take_in (hb : Bounded S n) {m a x : Nat} (h : takeAt n S m a = some x) : x + m <= n /\ ∀ y, x <= y -> y < x + m -> S y = true := by
 obtain ⟨j, _, hm, _, hh, _⟩ := takeFrom_spec h
 have hmem : x ∈ blocks n S j := List.mem_of_head? hh
 obtain ⟨q, rfl, hc⟩ := (mem_blocks hb).1 hmem
 have := full_bound hb (can_iff.1 hc).1
 exact ⟨by omega, fun y h1 h2 => can_free hc (place_iff.2 (by omega))⟩
end Go.Bu
namespace Go.Ar
open Go Go.Vc Go.Proofs
open Go.Bu (runOk giveS takeAt)


variable {σ : Hp} {F H : Rg} {p hs : Nat} {A : AR} {sp : Sp} {Y : Lay} {T : Nat -> Hp -> Rg -> Prop}
structure W2 (σ : Hp) (F H : Rg) (Y : Lay) (A : AR) (T : Nat -> Hp -> Rg -> Prop) (sp : Sp) : Prop where
 a : AHY σ F Y A T
 s : SpH3 σ H Y.hs sp
 d : ∀ b, F b -> ¬ H b
 g : Gl σ
 o : Off F
 o2 : Off H
def Both (F H : Rg) : Rg := fun b => F b ∨ H b
theorem W2.arena (h : W2 σ F H Y A T sp) {σ' : Hp} {A' : AR} (e : Ext F σ σ') (ha : AHY σ' F Y A' T) : W2 σ' F H Y A' T sp :=
 ⟨ha, Lcl.keep SpH3.loc h.s e fun b _ hb hf => h.d b hf hb, h.d, h.g.keep e h.o, h.o, h.o2⟩
theorem W2.space (h : W2 σ F H Y A T sp) {σ' : Hp} {sp' : Sp} (e : Ext H σ σ') (hs : SpH3 σ' H Y.hs sp') : W2 σ' F H Y A T sp' :=
 ⟨Lcl.keep AHY.loc h.a e fun b _ hb hf => h.d b hb hf, hs, h.d, h.g.keep e h.o2, h.o, h.o2⟩
theorem W2.keep0 (h : W2 σ F H Y A T sp) {σ' : Hp} (e : Ext0 σ σ') : W2 σ' F H Y A T sp := ⟨h.a.keep0 e, h.s.keep0 e, h.d, h.g.keep0 e, h.o, h.o2⟩
theorem W2.cut (h : W2 σ F H Y A T sp) : W2 σ (Cut F σ) (Cut H σ) Y A T sp := ⟨h.a.cut, Lcl.cut SpH3.loc h.s, fun b hb hc => h.d b hb.1 hc.1, h.g, h.o.sub fun b hb => hb.1, h.o2.sub fun b hb => hb.1⟩
theorem W2.arenaG (h : W2 σ F H Y A T sp) {σ' : Hp} {A' : AR} (e : Ext F σ σ') (ha : AHY σ' (Grow F σ) Y A' T) : W2 σ' (Grow F σ) (Cut H σ) Y A' T sp :=
 ⟨ha, Lcl.keep SpH3.loc (Lcl.cut SpH3.loc h.s) e fun b _ hb hf => h.d b hf hb.1, fun b hb hc => by
  rcases hb with hb | hb
  ·exact h.d b hb hc.1
  ·have := hc.2; omega, h.g.keep e h.o, h.o.grow h.g, h.o2.sub fun b hb => hb.1⟩
theorem W2.rSp (h : W2 σ F H Y A T sp) {K : Option Addr -> Prop} (hK : K (some ⟨Y.hs, 0, none⟩)) : LdP (Addr.add ⟨Y.p, 0, none⟩ 1) σ K := h.a.hd.rP rfl hK
theorem addHs_succ (st : List Nat) (a m : Nat) : addHs st a (m + 1) = addT (addHs st a m) ((a + m : Nat) : Int) := by
 unfold addHs; rw [List.range_succ, List.map_append, List.foldl_append]; rfl
theorem mapS_err {a m : Int} (h : mapE sp a m ≠ 0) : mapS sp a m = sp := by unfold mapS; rw [if_neg h]
theorem growStart_none {size : Nat} (h1 : 1 <= size) (h : ∀ j, 1 <= j -> j * size + size <= sp.st.length -> mapE sp ((j * size : Nat) : Int) (size : Int) ≠ 0) : growStart sp size = none := by
 unfold growStart
 rw [List.find?_eq_none]
 intro x hx
 obtain ⟨j, hj, rfl⟩ := List.mem_map.1 hx
 rw [List.mem_range] at hj
 have h2 : (j + 1) * size <= sp.st.length := Nat.le_trans (Nat.mul_le_mul_right size hj) (Nat.div_mul_le_self _ _)
 rw [Nat.add_mul, Nat.one_mul] at h2
 by_cases h0 : j = 0
 ·subst h0; simp
 ·have := h j (by omega) h2
  have hbe : (mapE sp ((j * size : Nat) : Int) (size : Int) == 0) = false := by simpa only [beq_eq_false_iff_ne] using this
  rw [hbe, Bool.and_false]; simp
theorem growStart_some {size j : Nat} (h1 : 1 <= size) (h0 : 1 <= j) (hf : j * size + size <= sp.st.length) (hm : mapE sp ((j * size : Nat) : Int) (size : Int) = 0) (h : ∀ i, 1 <= i -> i < j -> mapE sp ((i * size : Nat) : Int) (size : Int) ≠ 0) : growStart sp size = some (j * size) := by
 unfold growStart
 have hj : j < sp.st.length / size := by
  rw [Nat.lt_iff_add_one_le, Nat.le_div_iff_mul_le h1, Nat.add_mul, Nat.one_mul]; exact hf
 have hsplit : List.range (sp.st.length / size) = List.range j ++ (j :: (List.range (sp.st.length / size - j - 1)).map (j + 1 + ·)) := by
  apply List.ext_getElem?
  intro i
  rw [List.getElem?_append, List.length_range]
  by_cases hi : i < j
  ·rw [if_pos hi, List.getElem?_range (by omega), List.getElem?_range hi]
  ·rw [if_neg hi]
   by_cases hij : i = j
   ·subst hij; rw [Nat.sub_self, List.getElem?_cons_zero, List.getElem?_range hj]
   ·rw [show i - j = (i - j - 1) + 1 by omega, List.getElem?_cons_succ, List.getElem?_map]
    by_cases hl : i < sp.st.length / size
    ·rw [List.getElem?_range hl, List.getElem?_range (by omega)]
     simp only [Option.map_some]
     congr 1; omega
    ·rw [List.getElem?_eq_none (by rw [List.length_range]; omega), List.getElem?_eq_none (by rw [List.length_range]; omega)]; rfl
 rw [hsplit, List.map_append, List.find?_append]
 have hnone : ((List.range j).map (· * size)).find? (fun (s : Nat) => s != 0 && mapE sp s size == 0) = none := by
  rw [List.find?_eq_none]
  intro x hx
  obtain ⟨i, hi, rfl⟩ := List.mem_map.1 hx
  rw [List.mem_range] at hi
  by_cases h0 : i = 0
  ·subst h0; simp
  ·have := h i (by omega) hi
   have hbe : (mapE sp ((i * size : Nat) : Int) (size : Int) == 0) = false := by simpa only [beq_eq_false_iff_ne] using this
   rw [hbe, Bool.and_false]; simp
 rw [hnone, List.map_cons, List.find?_cons]
 have : (j * size != 0 && mapE sp ((j * size : Nat) : Int) (size : Int) == 0) = true := by
  rw [hm]
  have hp : 0 < j * size := Nat.mul_pos (by omega) (by omega)
  have hne : j * size ≠ 0 := by omega
  simp [hne]
 rw [this]; rfl
theorem grow_ok' (h : W2 σ F H Y A T sp) {size : Nat} (h1 : size = 16 ∨ size = 32 ∨ size = 64) {R : Bool -> Hp -> Prop} (h0 : growA A sp size = none -> ∀ σ', Ext (Both F H) σ σ' -> W2 σ' F H Y A T sp -> R false σ')
 (hR : ∀ A' sp', growA A sp size = some (A', sp') -> ∀ σ', Ext (Both F H) σ σ' -> W2 σ' F H Y A' T sp' -> R true σ') : arena_Arena_grow.call (some ⟨Y.p, 0, none⟩) (size : Int) σ R := by
 refine arena_Arena_grow.of_vc ?_
 unfold arena_Arena_grow.vc
 have hn2 : sp.st.length <= 1024 := by obtain ⟨q, r, l, B, hh⟩ := h.s; exact hh.n2
 have es : ∀ {a b : Hp}, Ext H a b -> Ext (Both F H) a b := fun e => e.sub fun b hb => .inr hb
 have ea : ∀ {a b : Hp}, Ext F a b -> Ext (Both F H) a b := fun e => e.sub fun b hb => .inl hb
 have hmul : ∀ j, j * size + size = (j + 1) * size := fun j => by rw [Nat.add_mul, Nat.one_mul]
 refine loop1 (a := .i .i64) (fun (t : Int) v => ∃ j : Nat, t = ((j * size : Nat) : Int) /\ 1 <= j /\ j * size <= 1024 + 64 /\ Ext (Both F H) σ v /\ W2 v F H Y A T sp /\ ∀ i, 1 <= i -> i < j -> i * size + size <= sp.st.length -> mapE sp ((i * size : Nat) : Int) (size : Int) ≠ 0) (fun t _ => 2000 - t.toNat)
  ⟨1, by omega, Nat.le_refl _, by omega, Ext.refl _ _, h, fun i h1 h2 => by omega⟩ ?_
 rintro t v ⟨j, rfl, hj, hb, e, hW, hall⟩
 refine arN (m := j * size + size) (by omega) (by omega) (nilP (hW.rSp (Pages_ok hW.s (ifD (fun hlt => ?_) fun hge => ?_))))
 ·have hf : j * size + size <= sp.st.length := by omega
  refine nilP (hW.rSp (Map_ok hW.s hW.g hW.o2 _ _ fun v2 e2 hS2 => ?_))
  refine iff_ (fun hc => ?_) fun hc => ?_
  ·have hne : mapE sp ((j * size : Nat) : Int) (size : Int) ≠ 0 := by simpa using hc
   rw [mapS_err hne] at hS2
   refine arN (m := (j + 1) * size) (by rw [← hmul]; omega) (by rw [← hmul]; omega) ⟨⟨j + 1, rfl, by omega, by rw [← hmul]; omega, e.trans (es e2), hW.space e2 hS2, fun i hi1 hi2 hif => ?_⟩, by rw [← hmul]; omega⟩
   by_cases hij : i = j
   ·subst hij; exact hne
   ·exact hall i hi1 (by omega) hif
  ·have hm0 : mapE sp ((j * size : Nat) : Int) (size : Int) = 0 := by simpa using hc
   have hW2 := hW.space e2 hS2
   have hfit : ∀ i, i < j -> i * size + size <= sp.st.length := fun i hi => by
    have : (i + 1) * size <= j * size := Nat.mul_le_mul_right _ hi
    rw [hmul]; omega
   have hgs := growStart_some (sp := sp) (by omega) hj hf hm0 fun i hi1 hi2 => hall i hi1 hi2 (hfit i hi2)
   have hga : growA A sp size = some ({ A with st := addHs A.st (j * size / 16) (size / 16), S := giveS A.n A.S ((j * size : Nat) : Int) size }, mapS sp ((j * size : Nat) : Int) size) := by unfold growA; rw [hgs]
   have hd16 : (j * size) % 16 = 0 := by
    rcases h1 with rfl | rfl | rfl
    ·omega
    ·omega
    ·omega
   refine nz (by decide) (arN (m := j * size / 16) (by rw [tdiv_nn (by omega)]; simp) (by omega) ?_)
   refine loop1 (a := .i .i64) (fun (t : Int) w => ∃ i : Nat, t = ((j * size / 16 + i : Nat) : Int) /\ i <= size / 16 /\ Ext (Both F H) σ w /\ W2 w F H Y { A with st := addHs A.st (j * size / 16) i } T (mapS sp ((j * size : Nat) : Int) size)) (fun t _ => 200 - t.toNat)
    ⟨0, by omega, by omega, e.trans (es e2), hW2⟩ ?_
   rintro t w ⟨i, rfl, hi, ew, hWw⟩
   refine arN (m := j * size + size) (by omega) (by omega) (nz (by decide) (arN (m := (j * size + size) / 16) (by rw [tdiv_nn (by omega)]; simp) (by omega) (ifD (fun hlt2 => ?_) fun hge2 => ?_)))
   ·refine nilP (hWw.a.hd.rP rfl (hWw.a.AddH _ fun w2 t2 e3 hA3 => ?_))
    refine arN (m := j * size / 16 + (i + 1)) (by omega) (by omega) ⟨⟨i + 1, rfl, by omega, ew.trans (ea e3), ?_⟩, by omega⟩
    rw [addHs_succ]
    exact hWw.arena e3 hA3
   ·have hii : i = size / 16 := by omega
    subst hii
    refine nilP (hWw.a.hd.rP rfl (hWw.a.Give _ _ fun w2 t2 e3 hA3 => ?_))
    exact hR _ _ hga w2 (ew.trans (ea e3)) (hWw.arena e3 hA3)
 ·have hgs := growStart_none (sp := sp) (size := size) (by omega) fun i hi1 hif => by
   by_cases hij : i < j
   ·exact hall i hi1 hij hif
   ·have : j * size <= i * size := Nat.mul_le_mul_right _ (by omega)
    omega
  have hga : growA A sp size = none := by unfold growA; rw [hgs]
  exact h0 hga v e hW
theorem takeArg_ok {m a : Nat} (h1 : 1 <= m) (h2 : m <= 64) (ha : a = 1 ∨ a = 2 ∨ a = 4 ∨ a = 8 ∨ a = 16) : Go.Bu.takeArg (m : Int) (a : Int) = true := by
 have hp : Go.Bu.isPow (a : Int) = true := by rcases ha with rfl | rfl | rfl | rfl | rfl <;> decide
 unfold Go.Bu.takeArg
 rw [hp]
 simp only [Bool.and_true, Bool.and_eq_true, decide_eq_true_eq]
 omega
theorem W2.take (h : W2 σ F H Y A T sp) {m a : Nat} (hok : Go.Bu.takeArg (m : Int) (a : Int) = true) {R : Int -> Int -> Hp -> Prop} (h0 : takeAt A.n A.S m a = none -> ∀ σ', Ext F σ σ' -> W2 σ' F H Y A T sp -> R 0 6 σ')
 (h1 : ∀ x, takeAt A.n A.S m a = some x -> x + m <= A.n -> ∀ σ', Ext F σ σ' -> W2 σ' F H Y { A with S := Go.Bu.take A.S x (x + m) } T sp -> R (x : Int) 0 σ') : buddy_Heap_Take.call (some ⟨Y.fr, 0, none⟩) (m : Int) (a : Int) σ R := by
 have hbnd : Go.Bu.Bounded A.S A.n := by obtain ⟨sb, ms, hB, _⟩ := h.a.free; exact hB.bnd
 refine h.a.TakeB _ _ fun σ' e hA => ?_
 have hW := h.arena e hA
 cases ht : takeAt A.n A.S m a with
 | none =>
  have e1 : Go.Bu.takeE A.n A.S (m : Int) (a : Int) = 6 := by unfold Go.Bu.takeE; rw [hok, if_pos rfl]; simp only [Int.toNat_natCast]; rw [ht]
  have e2 : Go.Bu.takeV A.n A.S (m : Int) (a : Int) = 0 := by unfold Go.Bu.takeV; rw [hok, if_pos rfl]; simp only [Int.toNat_natCast]; rw [ht]
  have e3 : Go.Bu.takeS A.n A.S (m : Int) (a : Int) = A.S := by unfold Go.Bu.takeS; rw [hok, if_pos rfl]; simp only [Int.toNat_natCast]; rw [ht]
  rw [e1, e2]; rw [e3] at hW
  exact h0 ht σ' e hW
 | some x =>
  have e1 : Go.Bu.takeE A.n A.S (m : Int) (a : Int) = 0 := by unfold Go.Bu.takeE; rw [hok, if_pos rfl]; simp only [Int.toNat_natCast]; rw [ht]
  have e2 : Go.Bu.takeV A.n A.S (m : Int) (a : Int) = x := by unfold Go.Bu.takeV; rw [hok, if_pos rfl]; simp only [Int.toNat_natCast]; rw [ht]
  have e3 : Go.Bu.takeS A.n A.S (m : Int) (a : Int) = Go.Bu.take A.S x (x + m) := by unfold Go.Bu.takeS; rw [hok, if_pos rfl]; simp only [Int.toNat_natCast]; rw [ht]
  rw [e1, e2]; rw [e3] at hW
  exact h1 x ht (Go.Bu.take_in hbnd ht).1 σ' e hW
theorem growA_n {size : Nat} {A' : AR} {sp' : Sp} (h : growA A sp size = some (A', sp')) : A'.n = A.n := by
 unfold growA at h
 split at h
 ·cases h
 ·cases h; rfl
def Fits (σ : Hp) (F H F' H' : Rg) : Prop := (∀ b, F' b -> Grow F σ b) /\ ∀ b, H' b -> H b
theorem get_ok (h : W2 σ F H Y A T sp) {m a no : Nat} (h1 : 1 <= m) (h2 : m <= 64) (ha : a = 1 ∨ a = 2 ∨ a = 4 ∨ a = 8 ∨ a = 16) (hn1 : 1 <= no) (hn2 : no <= 1000) {R : Int -> Int -> Hp -> Prop}
 (h0 : (getA A sp m a no).1 = none -> ∀ σ', Ext (Both F H) σ σ' -> W2 σ' F H Y (getA A sp m a no).2.1 T (getA A sp m a no).2.2 -> R 0 6 σ')
 (hR : ∀ x, (getA A sp m a no).1 = some x -> x + m <= A.n -> ∀ σ' F' H', Fits σ F H F' H' -> Ext (Both F H) σ σ' -> W2 σ' F' H' Y (getA A sp m a no).2.1 T (getA A sp m a no).2.2 -> R (x : Int) 0 σ') :
 arena_Arena_get.call (some ⟨Y.p, 0, none⟩) (m : Int) (a : Int) (no : Int) σ R := by
 refine arena_Arena_get.of_vc ?_
 unfold arena_Arena_get.vc
 have hok := takeArg_ok h1 h2 ha
 have es : ∀ {a b : Hp}, Ext H a b -> Ext (Both F H) a b := fun e => e.sub fun b hb => .inr hb
 have ea : ∀ {a b : Hp}, Ext F a b -> Ext (Both F H) a b := fun e => e.sub fun b hb => .inl hb
 have fin : ∀ (v : Hp) (x : Nat) (A1 : AR) (sp1 : Sp), Ext (Both F H) σ v -> x + m <= A.n -> W2 v F H Y { A1 with S := Go.Bu.take A1.S x (x + m) } T sp1 -> getA A sp m a no = (some x, useA A1 x m no, sp1) →
  NilP (some ⟨Y.p, 0, none⟩) fun a50 => LdP (a50.add 3) v fun t52 => huge_Tracker_Use.call t52 (x : Int) (m : Int) v fun t55 v2 => NilP (some ⟨Y.p, 0, none⟩) fun a57 => LdP (a57.add 4) v2 fun t59 => pagemap_Map_Set.call t59 (x : Int) (m : Int) (no : Int) v2 fun t63 v3 => R (x : Int) 0 v3 := by
  intro v x A1 sp1 e hxm hW hg
  have hxl : x <= 1000000 := by have := h.a.lay.n2; omega
  refine nilP (hW.a.hd.rP rfl (hW.a.Use _ _ fun v2 t2 e2 hA2 => ?_))
  have hW2 := hW.arena e2 hA2
  refine nilP (hW2.a.hd.rP rfl (hW2.a.Set x m hxl hn1 hn2 fun v3 t3 e3 hA3 => ?_))
  have hW3 := hW2.arenaG e3 hA3
  refine hR x (by rw [hg]) hxm v3 (Grow F v2) (Cut H v2) ⟨fun b hb => ?_, fun b hb => hb.1⟩ ((e.trans (ea e2)).trans (ea e3)) (by rw [hg]; exact hW3)
  rcases hb with hb | hb
  ·exact .inl hb
  ·exact .inr (Nat.le_trans (e.trans (ea e2)).1 hb)
 refine nilP (h.a.hd.rP rfl (h.take hok (fun ht v e hW => ?_) fun x ht hxn v e hW => ?_))
 ·refine Jn.intro (ifT rfl ?_)
  have hmx : (if (a : Int) > (m : Int) then (a : Int) else (m : Int)) = ((max m a : Nat) : Int) := by
   by_cases hgt : (a : Int) > (m : Int)
   ·rw [if_pos hgt]; omega
   ·rw [if_neg hgt]; omega
  rw [hmx]
  refine loop1 (a := .i .i64) (fun (t : Int) w => w = v /\ (t = 16 ∨ t = 32 /\ 16 < max m a ∨ t = 64 /\ 32 < max m a)) (fun t _ => 100 - t.toNat) ⟨rfl, .inl rfl⟩ ?_
  rintro (t : Int) w ⟨rfl, hcase⟩
  have ha16 : a <= 16 := by omega
  refine ifD (fun hlt => ?_) fun hge => ?_
  ·have : t = 16 ∨ t = 32 := by omega
   rcases this with rfl | rfl
   ·exact ar (by omega) (by omega) ⟨⟨rfl, by omega⟩, by decide⟩
   ·exact ar (by omega) (by omega) ⟨⟨rfl, by omega⟩, by decide⟩
  ·have hup : t = ((upSize (max m a) : Nat) : Int) := by
    unfold upSize
    by_cases c1 : max m a <= 16
    ·rw [if_pos c1]; omega
    ·rw [if_neg c1]
     by_cases c2 : max m a <= 32
     ·rw [if_pos c2]; omega
     ·rw [if_neg c2]; omega
   subst hup
   have hsz : upSize (max m a) = 16 ∨ upSize (max m a) = 32 ∨ upSize (max m a) = 64 := by omega
   refine grow_ok' hW hsz (fun hg σ' e' hW' => ?_) fun A' sp' hg σ' e' hW' => ?_
   ·have hga : getA A sp m a no = (none, A, sp) := by unfold getA; rw [ht]; simp only; rw [hg]
    exact ifT rfl (h0 (by rw [hga]) σ' ((ea e).trans e') (by rw [hga]; exact hW'))
   ·refine ifF rfl (nilP (hW'.a.hd.rP rfl (hW'.take hok (fun ht2 v2 e2 hW2 => ?_) fun x ht2 hxn v2 e2 hW2 => ?_)))
    ·have hga : getA A sp m a no = (none, A', sp') := by unfold getA; rw [ht]; simp only; rw [hg]; simp only; rw [ht2]
     exact ifT rfl (h0 (by rw [hga]) v2 (((ea e).trans e').trans (ea e2)) (by rw [hga]; exact hW2))
    ·have hga : getA A sp m a no = (some x, useA A' x m no, sp') := by unfold getA; rw [ht]; simp only; rw [hg]; simp only; rw [ht2]
     exact ifF rfl (fin v2 x A' sp' (((ea e).trans e').trans (ea e2)) (by rw [← growA_n hg]; exact hxn) hW2 hga)
 ·have hga : getA A sp m a no = (some x, useA A x m no, sp) := by unfold getA; rw [ht]
  refine Jn.intro (ifF rfl (ifF rfl (fin v x A sp (ea e) hxn hW hga)))
end Go.Ar
namespace Go.Ar
open Go Go.Vc Go.Proofs
open Go.Bu (runOk giveS takeAt)


variable {σ : Hp} {F H : Rg} {p hs : Nat} {A : AR} {sp : Sp} {Y : Lay} {T : Nat -> Hp -> Rg -> Prop}
theorem Fits.refl : Fits σ F H F H := ⟨fun b hb => .inl hb, fun b hb => hb⟩
theorem W2.mono {F' H' : Rg} (h : W2 σ F H Y A T sp) (hF : Off F') (hF2 : ∀ b, b < σ.size -> F b -> F' b) (hH : ∀ b, H' b -> H b) (hH2 : ∀ b, b < σ.size -> H b -> H' b) (hd : ∀ b, F' b -> ¬ H' b) : W2 σ F' H' Y A T sp :=
 ⟨h.a.mono hF2, Lcl.mono SpH3.loc h.s hH2, hd, h.g, hF, h.o2.sub hH⟩
theorem AGrow_ok (h : W2 σ F H Y A T sp) (k : Int) {R : Int -> Hp -> Prop} (hR : ∀ σ' F' H', Fits σ F H F' H' -> Ext (Both F H) σ σ' -> W2 σ' F' H' Y (growS A sp k).1 T (growS A sp k).2 -> R (growE A sp k) σ') :
 arena_Arena_Grow.call (some ⟨Y.p, 0, none⟩) k σ R := by
 refine arena_Arena_Grow.of_vc ?_
 unfold arena_Arena_Grow.vc
 refine acheck_ok h.a k (fun hk => ?_) fun x hx hlt => ?_
 ·have e1 : growE A sp k = 1 := by unfold growE; rw [hk]; rfl
  have e2 : growS A sp k = (A, sp) := by unfold growS; rw [hk]; rfl
  have := hR σ F H Fits.refl (Ext.refl _ _) (by rw [e2]; exact h)
  rw [e1] at this
  exact ifT rfl this
 ·subst hx
  have hk : A.ck (x : Int) = true := by unfold AR.ck; simp; omega
  obtain ⟨c, ss, q, t, r, hc, hss, hq, _, _, hok⟩ := h.a.at_ hlt
  have ht2 := h.a.lay.tb2
  obtain ⟨_, _, _, hp1, hp4, _⟩ := hok
  refine ifF rfl (nilP (h.a.hd.rS rfl (h.a.tabR (d := 1) hc (by omega) ?_)))
  simp only [if_neg (show ¬ (1 = 0) by omega), if_true]
  refine arN (m := x + 1) (by omega) (by omega) ?_
  have eE : growE A sp x = match (getA A sp c.pages 1 (x + 1)).1 with
   | some y => addSE c ss y
   | none => 6 := by unfold growE; rw [hk, if_pos rfl]; simp only [Int.toNat_natCast]; rw [hc, hss]; rfl
  have eS : growS A sp x = match getA A sp c.pages 1 (x + 1) with
   | (some y, A', sp') => (if addSE c ss y = 0 then { A' with cen := A'.cen.set x (addS c ss y) } else A', sp')
   | (none, A', sp') => (A', sp') := by unfold growS; rw [hk, if_pos rfl]; simp only [Int.toNat_natCast]; rw [hc, hss]; rfl
  refine get_ok (a := 1) h hp1 (by omega) (.inl rfl) (by omega) (by omega) (fun hg σ' e hW => ?_) fun y hg hyn σ' F' H' hfit e hW => ?_
  ·have := hR σ' F H Fits.refl e
   rw [eE, eS, hg] at this
   generalize getA A sp c.pages 1 (x + 1) = g at *
   obtain ⟨g1, g2, g3⟩ := g
   simp only at hg; subst hg
   exact ifT rfl (this hW)
  ·have hfr : (getA A sp c.pages 1 (x + 1)).2.1.tb = A.tb /\ (getA A sp c.pages 1 (x + 1)).2.1.cen = A.cen := by
    unfold getA
    split
    ·exact ⟨rfl, rfl⟩
    ·split
     ·exact ⟨rfl, rfl⟩
     ·rename_i A1 sp1 hga
      have : A1.tb = A.tb /\ A1.cen = A.cen := by
       unfold growA at hga
       split at hga
       ·cases hga
       ·cases hga; exact ⟨rfl, rfl⟩
      split
      ·exact this
      ·exact this
   have hRx := fun σ' F' H' => hR σ' F' H'
   rw [eE, eS] at hRx
   generalize getA A sp c.pages 1 (x + 1) = g at *
   obtain ⟨g1, A', sp'⟩ := g
   simp only at hg hW hfr hRx; subst hg
   simp only at hRx
   have hWc := hW
   obtain ⟨G, hG, ⟨ps, hC⟩, _, hput⟩ := hW.a.cenS hq (by rw [hfr.1]; exact hc) (by rw [hfr.2]; exact hss)
   have hn2 := h.a.lay.n2
   refine ifF rfl (nilP (hW.a.hd.rS rfl (hW.a.crowR hq (CAdd_ok hC (by omega) (fun h9 v e2 => ?_) fun h0 v ps' e2 hC2 => ?_))))
   ·have := hRx v F' H' hfit (e.trans0 e2) (by rw [h9]; exact hW.keep0 e2)
    rw [h9] at this; exact this
   ·have hA2 := hput v _ _ (Grow G σ') _ e2 (fun b hb => hb) hC2 (grow_of hG fun b hb => hb)
    have hW2 := hW.arenaG (e2.sub hG) hA2
    have := hRx v (Grow F' σ') (Cut H' σ') ⟨fun b hb => ?_, fun b hb => hfit.2 b hb.1⟩ (e.newT (e2.sub hG) fun b hb => ?_) (by rw [h0]; exact hW2)
    ·rw [h0] at this; exact this
    ·rcases hb with hb | hb
     ·exact hfit.1 b hb
     ·exact .inr (Nat.le_trans e.1 hb)
    ·rcases hfit.1 b hb with h1 | h1
     ·exact .inl (.inl h1)
     ·exact .inr h1
theorem getA_frame (A : AR) (sp : Sp) (m a no : Nat) : (getA A sp m a no).2.1.tb = A.tb /\ (getA A sp m a no).2.1.cen = A.cen /\ (getA A sp m a no).2.1.tra = A.tra /\ (getA A sp m a no).2.1.room = A.room /\ (getA A sp m a no).2.1.runs = A.runs /\ (getA A sp m a no).2.1.n = A.n := by
 unfold getA
 split
 ·exact ⟨rfl, rfl, rfl, rfl, rfl, rfl⟩
 ·split
  ·exact ⟨rfl, rfl, rfl, rfl, rfl, rfl⟩
  ·rename_i A1 sp1 hga
   have : A1.tb = A.tb /\ A1.cen = A.cen /\ A1.tra = A.tra /\ A1.room = A.room /\ A1.runs = A.runs /\ A1.n = A.n := by
    unfold growA at hga
    split at hga
    ·cases hga
    ·cases hga; exact ⟨rfl, rfl, rfl, rfl, rfl, rfl⟩
   split
   ·exact this
   ·exact this
theorem pow16 : ∀ a : Nat, a < 17 -> 1 <= a -> ((bits .and .i64 (a : Int) ((a : Int) - 1) != 0) = !(a == 1 || (a == 2 || (a == 4 || (a == 8 || a == 16))))) := by decide
theorem ATakePages_ok (h : W2 σ F H Y A T sp) (m a : Int) {R : Int -> Int -> Hp -> Prop} (hR : ∀ σ' F' H', Fits σ F H F' H' -> Ext (Both F H) σ σ' -> W2 σ' F' H' Y (takeAS A sp m a).1 T (takeAS A sp m a).2 -> R ((takeAV A sp m a : Nat) : Int) (takeAE A sp m a) σ') :
 arena_Arena_TakePages.call (some ⟨Y.p, 0, none⟩) m a σ R := by
 refine arena_Arena_TakePages.of_vc ?_
 unfold arena_Arena_TakePages.vc
 have bad : pagesOk m a = false -> R 0 1 σ := fun hk => by
  have e1 : takeAE A sp m a = 1 := by unfold takeAE; rw [hk]; rfl
  have e2 : takeAS A sp m a = (A, sp) := by unfold takeAS; rw [hk]; rfl
  have e3 : takeAV A sp m a = 0 := by unfold takeAV; rw [hk]; rfl
  have := hR σ F H Fits.refl (Ext.refl _ _) (by rw [e2]; exact h)
  rw [e1, e3] at this; exact this
 have badR : ¬ (1 <= m /\ m <= 64 /\ (a = 1 ∨ a = 2 ∨ a = 4 ∨ a = 8 ∨ a = 16)) -> R 0 1 σ := fun hn => bad (by
  rw [← Bool.not_eq_true]
  intro hp
  unfold pagesOk at hp
  simp at hp
  omega)
 refine amade_ok h.a (ifF rfl (JnB.intro (ifD (fun c1 => JnB.intro (ifT rfl (JnB.intro (ifT rfl (JnB.intro (ifT rfl (ifT rfl (badR (by omega))))))))) fun c1 => ?_)))
 refine JnB.intro (ifD (fun c2 => JnB.intro (ifT rfl (JnB.intro (ifT rfl (ifT rfl (badR (by omega))))))) fun c2 => ?_)
 refine JnB.intro (ifD (fun c3 => JnB.intro (ifT rfl (ifT rfl (badR (by omega))))) fun c3 => ?_)
 refine JnB.intro (ifD (fun c4 => ifT rfl (badR (by omega))) fun c4 => ar (by omega) (by omega) ?_)
 obtain ⟨y, rfl⟩ := Int.eq_ofNat_of_zero_le (show 0 <= m by omega)
 obtain ⟨z, rfl⟩ := Int.eq_ofNat_of_zero_le (show 0 <= a by omega)
 rw [pow16 z (by omega) (by omega)]
 refine iff_ (fun c5 => ?_) fun c5 => ?_
 ·refine badR (fun hh => ?_)
  simp at c5
  omega
 ·have hz : z = 1 ∨ z = 2 ∨ z = 4 ∨ z = 8 ∨ z = 16 := by
   simp at c5
   omega
  have hk : pagesOk (y : Int) (z : Int) = true := by
   unfold pagesOk
   simp
   omega
  have eE : takeAE A sp y z = if (getA A sp y z 41).1.isSome then 0 else 6 := by unfold takeAE; rw [hk, if_pos rfl]; rfl
  have eV : takeAV A sp y z = (getA A sp y z 41).1.getD 0 := by unfold takeAV; rw [hk, if_pos rfl]; rfl
  have eS : takeAS A sp y z = match getA A sp y z 41 with
   | (some x, A', sp') => ({ A' with runs := takeAS.mset2 A'.runs x y }, sp')
   | (none, A', sp') => (A', sp') := by unfold takeAS; rw [hk, if_pos rfl]; rfl
  refine get_ok (no := 41) h (by omega) (by omega) hz (by omega) (by omega) (fun hg σ' e hW => ?_) fun x hg hyn σ' F' H' hfit e hW => ?_
  ·have := hR σ' F H Fits.refl e
   rw [eE, eS, eV, hg] at this
   generalize getA A sp y z 41 = g at *
   obtain ⟨g1, g2, g3⟩ := g
   simp only at hg; subst hg
   exact ifT rfl (this hW)
  ·have hRx := fun σ' F' H' => hR σ' F' H'
   rw [eE, eS, eV] at hRx
   generalize getA A sp y z 41 = g at *
   obtain ⟨g1, A', sp'⟩ := g
   simp only at hg hW hRx; subst hg
   simp only at hRx
   obtain ⟨gr, hm, hput⟩ := hW.a.runsS
   refine ifF rfl (nilP (hW.a.hd.rM rfl ⟨_, _, rfl, hm, fun v ho hm' => ?_⟩))
   have hm2 : MapL v Y.rn .i64 (.i .i64) (mset (runI A'.runs) (x : Int) (y : Int)) := hm'
   rw [runI_set] at hm2
   have hA2 := hput v _ ho hm2
   have e2 : Ext F' σ' v := ho.ext.sub fun b hb => by subst hb; exact gr
   have hW2 := hW.arena e2 hA2
   exact hRx v F' H' hfit (e.newT e2 fun b hb => by
    rcases hfit.1 b hb with h1 | h1
    ·exact .inl (.inl h1)
    ·exact .inr h1) hW2
end Go.Ar
namespace Go.Proofs
open Go.Vc

set_option maxRecDepth 100000
end Go.Proofs
namespace Go.Ar
open Go Go.Vc Go.Proofs


variable {σ : Hp} {Q : Rg} {key : Nat -> Nat}
end Go.Ar
namespace Go.Ar
open Go Go.Vc Go.Proofs


variable {σ : Hp} {F : Rg} {p q : Nat} {st : List Nat}
end Go.Ar
namespace Go.Ar
open Go Go.Vc Go.Proofs


variable {σ : Hp} {F : Rg} {p q : Nat} {st : List Nat}
end Go.Ar
namespace Go.Ar
open Go Go.Vc Go.Proofs
open Go.Bu (runOk giveS takeAt)


variable {σ : Hp} {F H : Rg} {p hs : Nat} {A : AR} {sp : Sp} {Y : Lay} {T : Nat -> Hp -> Rg -> Prop}
end Go.Ar
namespace Go.Ar
open Go Go.Vc Go.Proofs
open Go.Bu (runOk giveS takeAt)


variable {σ : Hp} {F H : Rg} {p hs : Nat} {A : AR} {sp : Sp} {Y : Lay} {T : Nat -> Hp -> Rg -> Prop}
def part {α : Type} (f : Cls -> α -> Nat) (tb : List Cls) (l : List α) (i : Nat) : Nat := (((tb.zip l).take i).map fun x => f x.1 x.2).sum
end Go.Ar
namespace Go.Ar
open Go Go.Vc Go.Proofs


variable {σ : Hp}
theorem rising_iff : ∀ (xs : List (Int × Int × Int)), rising xs = true ↔ ∀ (i : Nat) a b, xs[i]? = some a -> xs[i + 1]? = some b -> a.1 < b.1
 | [] => by simp [rising]
 | [x] => by simp [rising]
 | x :: y :: l => by
  have ih := rising_iff (y :: l)
  show (decide (x.1 < y.1) && rising (y :: l)) = true ↔ _
  rw [Bool.and_eq_true, ih, decide_eq_true_eq]
  constructor
  ·rintro ⟨h1, h2⟩ i a b ha hb
   cases i with
   | zero => simp at ha hb; subst ha; subst hb; exact h1
   | succ i => exact h2 i a b (by simpa using ha) (by simpa using hb)
  ·intro h
   exact ⟨h 0 x y rfl rfl, fun i a b ha hb => h (i + 1) a b (by simpa using ha) (by simpa using hb)⟩
theorem validT_iff (xs : List (Int × Int × Int)) : validT xs = true ↔ 1 <= xs.length /\ xs.length <= 40 /\ (∀ (i : Nat) t, xs[i]? = some t -> clsOk t.1 t.2.1 t.2.2 = true) /\ ∀ (i : Nat) a b, xs[i]? = some a -> xs[i + 1]? = some b -> a.1 < b.1 := by
 unfold validT
 simp only [Bool.and_eq_true, decide_eq_true_eq, rising_iff, List.all_eq_true]
 constructor
 ·rintro ⟨h1, h2, h3, h4⟩
  exact ⟨h1, h2, fun i t ht => h3 t (List.mem_of_getElem? ht), h4⟩
 ·rintro ⟨h1, h2, h3, h4⟩
  exact ⟨h1, h2, fun t ht => by obtain ⟨i, hi⟩ := List.getElem?_of_mem ht; exact h3 i t hi, h4⟩
theorem Valid_ok {s : Sl} {xs : List (Int × Int × Int)} (ha : Acts σ s xs) {R : Bool -> Hp -> Prop} (hR : ∀ σ', Ext0 σ σ' -> R (validT xs) σ') : sizes_Valid.call s σ R := by
 refine sizes_Valid.of_vc ?_
 unfold sizes_Valid.vc
 have no : ∀ σ', Ext0 σ σ' -> ¬ (1 <= xs.length /\ xs.length <= 40 /\ (∀ (i : Nat) t, xs[i]? = some t -> clsOk t.1 t.2.1 t.2.2 = true) /\ ∀ (i : Nat) a b, xs[i]? = some a -> xs[i + 1]? = some b -> a.1 < b.1) -> R false σ' := fun σ' e hn => by
  have := hR σ' e
  have hf : validT xs = false := by rw [← Bool.not_eq_true, validT_iff]; exact hn
  rw [hf] at this; exact this
 have hlen := ha.1
 refine JnB.intro (ifD (fun c1 => ifT rfl (no σ (Ext.refl _ _) fun h => by omega)) fun c1 => ?_)
 refine ifD (fun c2 => no σ (Ext.refl _ _) fun h => by omega) fun c2 => ?_
 refine loop1 (a := .i .i64) (fun (t : Int) v => ∃ i : Nat, t = (i : Int) /\ i <= xs.length /\ Ext0 σ v /\ (∀ (j : Nat) t, j < i -> xs[j]? = some t -> clsOk t.1 t.2.1 t.2.2 = true) /\ ∀ (j : Nat) a b, j + 1 < i -> xs[j]? = some a -> xs[j + 1]? = some b -> a.1 < b.1) (fun t _ => xs.length - t.toNat)
  ⟨0, rfl, by omega, Ext.refl _ _, fun j t h => by omega, fun j a b h => by omega⟩ ?_
 rintro t v ⟨i, rfl, hi, e, h1, h2⟩
 have hav := acts_keep0 ha e
 refine ifD (fun hlt => ?_) fun hge => ?_
 ·have hi' : i < xs.length := by omega
  have hx : xs[i]? = some xs[i] := List.getElem?_eq_getElem hi'
  generalize xs[i] = r at hx
  obtain ⟨x, y, z⟩ := r
  refine acts_rd hav hx ?_
  refine nw (cs := [.int .i64 0, .int .i64 0, .int .i64 0]) fun v2 hz2 e2 b2 => b2.s1 (by simp) fun v3 o3 b3 => b3.s1 (by simp) fun v4 o4 b4 => b4.s1 (by simp) fun v5 o5 b5 => ?_
  have e5 : Ext0 v v5 := Ext.fresh (Ext.fresh (Ext.fresh e2 o3.ext fun i hi => by omega) o4.ext fun i hi => by omega) o5.ext fun i hi => by omega
  refine Jn.intro ⟨(· = v5), rfl, ⟨x, fun m hm => by rw [hm, add_lit, b5.cell]; rfl, ⟨y, fun m hm => by rw [hm, add_lit, b5.cell]; rfl, ⟨z, fun m hm => by rw [hm, add_lit, b5.cell]; rfl, ?_⟩⟩⟩⟩
  refine one_ok x y z fun v7 e7 => ?_
  have e07 := (Ext.trans e e5).trans e7
  have bad : (clsOk x y z = false ∨ ∃ a, 0 < i /\ xs[i - 1]? = some a /\ x <= a.1) -> R false v7 := fun hb => no v7 e07 fun hv => by
   rcases hb with hb | ⟨a, hp, hb1, hb2⟩
   ·have := hv.2.2.1 i _ hx; simp only at this; rw [hb] at this; cases this
   ·have := hv.2.2.2 (i - 1) a (x, y, z) hb1 (by rw [show i - 1 + 1 = i by omega]; exact hx)
    simp only at this; omega
  cases hc : clsOk x y z
  ·exact ifT rfl (ifT rfl (bad (.inl hc)))
  ·have next : (∀ a, 0 < i -> xs[i - 1]? = some a -> a.1 < x) -> Ar .i64 ((i : Int) + 1) fun t38 => (∃ i : Nat, t38 = (i : Int) /\ i <= xs.length /\ Ext0 σ v7 /\ (∀ (j : Nat) t, j < i -> xs[j]? = some t -> clsOk t.1 t.2.1 t.2.2 = true) /\ ∀ (j : Nat) a b, j + 1 < i -> xs[j]? = some a -> xs[j + 1]? = some b -> a.1 < b.1) /\ xs.length - t38.toNat < xs.length - (i : Int).toNat := by
    intro hp
    refine arN (m := i + 1) (by omega) (by omega) ⟨⟨i + 1, rfl, by omega, e07, fun j t hj ht => ?_, fun j a b hj hja hjb => ?_⟩, by omega⟩
    ·by_cases hji : j = i
     ·subst hji; rw [hx] at ht; cases ht; exact hc
     ·exact h1 j t (by omega) ht
    ·by_cases hji : j + 1 = i
     ·subst hji
      rw [hx] at hjb; cases hjb
      exact hp a (by omega) hja
     ·exact h2 j a b (by omega) hja hjb
   refine ifF rfl (ifD (fun hp => ?_) fun hp => ifF rfl (next fun a hp2 => by omega))
   have hxp : xs[i - 1]? = some (xs[i - 1]'(by omega)) := List.getElem?_eq_getElem _
   generalize xs[i - 1]'(by omega) = r at hxp
   obtain ⟨x', y', z'⟩ := r
   have hav7 := acts_keep0 ha e07
   obtain ⟨b, o, g1, g2, g3, g4, g5⟩ := hav7.2 (i - 1) x' y' z' hxp
   have b7 := e7.blk b5 id
   refine arN (m := i - 1) (by omega) (by omega) ?_
   rw [g1]
   refine ix (by omega) (by omega) ?_
   have g3' : cell v7 ⟨b, o + (((i - 1 : Nat) : Int)).toNat * 3 + 0, none⟩ = some (.int .i64 x') := by simpa using g3
   have fin : If (decide (x <= x')) (R false v7) (Ar .i64 ((i : Int) + 1) fun t38 => (∃ i : Nat, t38 = (i : Int) /\ i <= xs.length /\ Ext0 σ v7 /\ (∀ (j : Nat) t, j < i -> xs[j]? = some t -> clsOk t.1 t.2.1 t.2.2 = true) /\ ∀ (j : Nat) a b, j + 1 < i -> xs[j]? = some a -> xs[j + 1]? = some b -> a.1 < b.1) /\ xs.length - t38.toNat < xs.length - (i : Int).toNat) := by
    refine ifD (fun hle => bad (.inr ⟨_, by omega, hxp, hle⟩)) fun hgt => next fun a _ ha2 => ?_
    rw [hxp] at ha2; cases ha2
    simp only; omega
   rw [add_lit b o]
   exact ⟨b7.rI rfl (ldI0 g3' fin), ldI0 g3' (b7.rI rfl fin)⟩
 ·have : i = xs.length := by omega
  subst this
  have hv : validT xs = true := (validT_iff xs).2 ⟨by omega, by omega, fun i t ht => h1 i t (List.getElem?_eq_some_iff.1 ht).1 ht, fun i a b hja hjb => h2 i a b (List.getElem?_eq_some_iff.1 hjb).1 hja hjb⟩
  have := hR v e
  rw [hv] at this; exact this
end Go.Ar
namespace Go.Ar
open Go Go.Vc Go.Proofs
open Go.Bu (runOk giveS takeAt)


variable {σ : Hp} {F H : Rg} {p hs : Nat} {A : AR} {sp : Sp} {Y : Lay} {T : Nat -> Hp -> Rg -> Prop}
open Classical in
theorem _root_.Go.Vc.Sep.put {L : Type} {C C' : L -> Hp -> Rg -> Prop} {σ : Hp} {F G : Rg} (hC : ∀ i, Lcl (C i)) (h : Sep C σ F) (i : L) (hd : ∀ b, G b -> ¬ F b) (hj : ∀ j, j ≠ i -> C' j = C j) (hi : C' i σ G) (hL : Lcl (C' i)) : Sep C' σ fun b => F b ∨ G b := by
 obtain ⟨ρ, h⟩ := h
 refine ⟨fun b => if G b then i else ρ b, fun j => ?_⟩
 by_cases hji : j = i
 ·subst hji
  exact hL.mono hi fun b _ hb => ⟨.inr hb, if_pos hb⟩
 ·rw [hj j hji]
  refine (hC j).mono (h j) fun b _ hf => ⟨.inl hf.1, ?_⟩
  show (if G b then i else ρ b) = j
  rw [if_neg fun hg => hd b hg hf.1]; exact hf.2
def ACh (A : AR) (Y : Lay) (T : Nat -> Hp -> Rg -> Prop) (cs : List Value) : Lb -> Hp -> Rg -> Prop
 | .hd => BlkR Y.p cs
 | i => AC A Y T i
theorem ACh.loc {cs : List Value} (hT : ∀ k, Lcl (T k)) : ∀ i, Lcl (ACh A Y T cs i)
 | .hd => BlkR.loc _ _
 | .tab => AC.loc (A := A) (Y := Y) hT .tab
 | .free => AC.loc (A := A) (Y := Y) hT .free
 | .trk => AC.loc (A := A) (Y := Y) hT .trk
 | .own => AC.loc (A := A) (Y := Y) hT .own
 | .crow => AC.loc (A := A) (Y := Y) hT .crow
 | .trow => AC.loc (A := A) (Y := Y) hT .trow
 | .runs => AC.loc (A := A) (Y := Y) hT .runs
 | .cen k => AC.loc (A := A) (Y := Y) hT (.cen k)
 | .tra k => AC.loc (A := A) (Y := Y) hT (.tra k)
theorem ACh_hd : ACh A Y T (hdV Y) = AC A Y T := by
 funext i; cases i <;> rfl
theorem app_crow {cs : List Value} (hT : ∀ k, Lcl (T k)) (h : Sep (ACh A Y T cs) σ F) (hlen : A.cen.length <= Y.cps.length) (hl : Y.cps.length <= 40) {vb cp ty : Nat} (hb : Blk σ vb [.pointer (some ⟨cp, 0, none⟩)]) (hvb : ¬ F vb) {K : Sl -> Hp -> Prop}
 (hK : ∀ s' σ', Ext F σ σ' -> Sep (ACh A { Y with crow := s', cps := Y.cps ++ [cp] } T cs) σ' (Grow F σ) -> K s' σ') : App Y.crow 1 8 ty [.pointer none] ⟨some ⟨vb, 0, none⟩, 1, 1⟩ σ K := by
 obtain ⟨G, hG, hi, _, hput⟩ := h.stepD (ACh.loc hT) .crow
 have hi : RowR Y.crow 1 (ptrV Y.cps) σ G := hi
 have hlc : Y.crow.len = Y.cps.length := by have := hi.1; simp [ptrV] at this; omega
 refine hi.app (ys := [.pointer (some ⟨cp, 0, none⟩)]) rfl rfl ?_ (by simp [one1]) (by simp only; omega) (by simp only; omega) Nat.zero_lt_one fun s' σ' hl' e hr => hK s' σ' (e.sub hG) ?_
 ·intro j u hu
  rw [add_lit, Nat.zero_add, hb.cell]; exact hu
 refine (Sep.loc (ACh.loc hT)).mono (hput σ' (ACh A { Y with crow := s', cps := Y.cps ++ [cp] } T cs) (Grow G σ) (fun j hj => ?_) e (fun b hb => hb) ?_ (ACh.loc hT _)) fun b _ hb => grow_of hG (fun b hb => hb) b hb
 ·cases j <;> first | rfl | exact absurd rfl hj | skip
  rename_i k
  show CenR (Y.cps ++ [cp])[k]? A.tb[k]? A.cen[k]? = CenR Y.cps[k]? A.tb[k]? A.cen[k]?
  rcases Nat.lt_or_ge k Y.cps.length with h1 | h1
  ·rw [List.getElem?_append_left h1]
  ·have : A.cen[k]? = none := List.getElem?_eq_none (by omega)
   rw [this]
   funext σ F
   unfold CenR
   cases (Y.cps ++ [cp])[k]? <;> cases Y.cps[k]? <;> cases A.tb[k]? <;> rfl
 ·show RowR s' 1 (ptrV (Y.cps ++ [cp])) σ' (Grow G σ)
  have : ptrV (Y.cps ++ [cp]) = ptrV Y.cps ++ [.pointer (some ⟨cp, 0, none⟩)] := by simp [ptrV]
  rw [this]; exact hr
theorem traT_more (hlen : A.tra.length <= Y.tps.length) (tp : Nat) (s' : Sl) : traT A { Y with trow := s', tps := Y.tps ++ [tp] } = traT A Y := by
 funext k
 unfold traT
 simp only
 rcases Nat.lt_or_ge k Y.tps.length with h1 | h1
 ·rw [List.getElem?_append_left h1]
 ·have : A.tra[k]? = none := List.getElem?_eq_none (by omega)
  rw [this]
  funext σ F
  unfold TraR
  cases (Y.tps ++ [tp])[k]? <;> cases Y.tps[k]? <;> cases A.tb[k]? <;> rfl
theorem app_trow {cs : List Value} (h : Sep (ACh A Y (traT A Y) cs) σ F) (hlen : A.tra.length <= Y.tps.length) (hl : Y.tps.length <= 40) {vb tp ty : Nat} (hb : Blk σ vb [.pointer (some ⟨tp, 0, none⟩)]) (hvb : ¬ F vb) {K : Sl -> Hp -> Prop}
 (hK : ∀ s' σ', Ext F σ σ' -> Sep (ACh A { Y with trow := s', tps := Y.tps ++ [tp] } (traT A { Y with trow := s', tps := Y.tps ++ [tp] }) cs) σ' (Grow F σ) -> K s' σ') : App Y.trow 1 8 ty [.pointer none] ⟨some ⟨vb, 0, none⟩, 1, 1⟩ σ K := by
 have hT : ∀ k, Lcl (traT A Y k) := fun k => traT.loc k
 obtain ⟨G, hG, hi, _, hput⟩ := h.stepD (ACh.loc hT) .trow
 have hi : RowR Y.trow 1 (ptrV Y.tps) σ G := hi
 have hlc : Y.trow.len = Y.tps.length := by have := hi.1; simp [ptrV] at this; omega
 refine hi.app (ys := [.pointer (some ⟨tp, 0, none⟩)]) rfl rfl ?_ (by simp [one1]) (by simp only; omega) (by simp only; omega) Nat.zero_lt_one fun s' σ' hl' e hr => hK s' σ' (e.sub hG) ?_
 ·intro j u hu
  rw [add_lit, Nat.zero_add, hb.cell]; exact hu
 rw [traT_more hlen]
 refine (Sep.loc (ACh.loc hT)).mono (hput σ' (ACh A { Y with trow := s', tps := Y.tps ++ [tp] } (traT A Y) cs) (Grow G σ) (fun j hj => ?_) e (fun b hb => hb) ?_ (ACh.loc hT _)) fun b _ hb => grow_of hG (fun b hb => hb) b hb
 ·cases j <;> first | rfl | exact absurd rfl hj
 ·show RowR s' 1 (ptrV (Y.tps ++ [tp])) σ' (Grow G σ)
  have : ptrV (Y.tps ++ [tp]) = ptrV Y.tps ++ [.pointer (some ⟨tp, 0, none⟩)] := by simp [ptrV]
  rw [this]; exact hr
theorem st_hd {cs : List Value} (hT : ∀ k, Lcl (T k)) (h : Sep (ACh A Y T cs) σ F) {i : Nat} {v : Value} (hi : i < cs.length) {K : Hp -> Prop} (hK : ∀ σ', Ext F σ σ' -> Sep (ACh A Y T (cs.set i v)) σ' F -> K σ') : St1 (Addr.add ⟨Y.p, 0, none⟩ i) v σ K := by
 obtain ⟨G, hG, hp, _, hput⟩ := h.stepD (ACh.loc hT) .hd
 have hp : BlkR Y.p cs σ G := hp
 refine hp.2.s1 (by omega) fun σ' o b => hK σ' (o.ext.sub fun b hb => by subst hb; exact hG _ hp.1) ?_
 rw [Nat.zero_add] at b
 refine (Sep.loc (ACh.loc hT)).mono (hput σ' (ACh A Y T (cs.set i v)) G (fun j hj => ?_) (o.ext.sub fun b hb => by subst hb; exact hp.1) (fun b hb => .inl hb) ⟨hp.1, b⟩ (ACh.loc hT _)) fun b _ hb => same_of hG (fun b hb => hb) b hb
 cases j <;> first | rfl | exact absurd rfl hj
theorem hdCh {cs : List Value} (h : Sep (ACh A Y T cs) σ F) : Blk σ Y.p cs /\ F Y.p := by
 obtain ⟨G, hG, hp, hb⟩ := h.get .hd
 exact ⟨hb, hG _ hp⟩
theorem put_cls {cs : List Value} {i cp tp : Nat} {c : Cls} {ss : List SpA} {t : TrA} {ps : List (Nat × Nat)} {Gc Gt : Rg} (h : Sep (ACh A Y (traT A Y) cs) σ F) (hlc : A.cen.length = i) (hlt : A.tra.length = i) (hcp : Y.cps[i]? = some cp) (htp : Y.tps[i]? = some tp) (hc : A.tb[i]? = some c)
 (hC : CeH σ Gc cp c ps ss) (hTf : TfH σ Gt tp c.batch A.room t) (d1 : ∀ b, Gc b -> ¬ F b) (d2 : ∀ b, Gt b -> ¬ F b) (d3 : ∀ b, Gc b -> ¬ Gt b) :
 Sep (ACh { A with cen := A.cen ++ [ss], tra := A.tra ++ [t] } Y (traT { A with cen := A.cen ++ [ss], tra := A.tra ++ [t] } Y) cs) σ fun b => (F b ∨ Gc b) ∨ Gt b := by
 have hT : ∀ k, Lcl (traT A Y k) := fun k => traT.loc k
 have h1 : Sep (ACh { A with cen := A.cen ++ [ss] } Y (traT A Y) cs) σ fun b => F b ∨ Gc b := by
  refine h.put (ACh.loc hT) (.cen i) d1 (fun j hj => ?_) ?_ (ACh.loc hT _)
  ·cases j <;> first | rfl | skip
   rename_i k
   have hne : k ≠ i := fun e => hj (by rw [e])
   show CenR Y.cps[k]? A.tb[k]? (A.cen ++ [ss])[k]? = CenR Y.cps[k]? A.tb[k]? A.cen[k]?
   rcases Nat.lt_or_ge k i with h2 | h2
   ·rw [List.getElem?_append_left (by omega)]
   ·have h3 : (A.cen ++ [ss])[k]? = none := List.getElem?_eq_none (by rw [List.length_append, List.length_singleton]; omega)
    have h4 : A.cen[k]? = none := List.getElem?_eq_none (by omega)
    rw [h3, h4]
  ·show CenR Y.cps[i]? A.tb[i]? (A.cen ++ [ss])[i]? σ Gc
   rw [hcp, hc, List.getElem?_append_right (by omega), hlc, Nat.sub_self]
   exact ⟨ps, hC⟩
 refine h1.put (ACh.loc hT) (.tra i) (fun b hb hf => ?_) (fun j hj => ?_) ?_ (ACh.loc (fun k => traT.loc k) _)
 ·rcases hf with hf | hf
  ·exact d2 b hb hf
  ·exact d3 b hf hb
 ·cases j <;> first | rfl | skip
  rename_i k
  have hne : k ≠ i := fun e => hj (by rw [e])
  show TraR Y.tps[k]? A.tb[k]? A.room (A.tra ++ [t])[k]? = TraR Y.tps[k]? A.tb[k]? A.room A.tra[k]?
  rcases Nat.lt_or_ge k i with h2 | h2
  ·rw [List.getElem?_append_left (by omega)]
  ·have h3 : (A.tra ++ [t])[k]? = none := List.getElem?_eq_none (by rw [List.length_append, List.length_singleton]; omega)
   have h4 : A.tra[k]? = none := List.getElem?_eq_none (by omega)
   rw [h3, h4]
 ·show TraR Y.tps[i]? A.tb[i]? A.room (A.tra ++ [t])[i]? σ Gt
  rw [htp, hc, List.getElem?_append_right (by omega), hlt, Nat.sub_self]
  exact hTf
end Go.Ar
namespace Go.Ar
open Go Go.Vc Go.Proofs
open Go.Bu (runOk giveS takeAt)


variable {σ : Hp} {F H : Rg} {p hs : Nat} {A : AR} {sp : Sp} {Y : Lay} {T : Nat -> Hp -> Rg -> Prop}
open Classical in
noncomputable def Prt {L : Type} (C : L -> Hp -> Rg -> Prop) (S : L -> Prop) (i : L) : Hp -> Rg -> Prop := if S i then C i else NoneR
theorem Prt.loc {L : Type} {C : L -> Hp -> Rg -> Prop} {S : L -> Prop} (hC : ∀ i, Lcl (C i)) (i : L) : Lcl (Prt C S i) := by
 unfold Prt; split
 ·exact hC i
 ·exact NoneR.loc
theorem Prt.put {L : Type} {C : L -> Hp -> Rg -> Prop} {S : L -> Prop} {F G : Rg} (hC : ∀ i, Lcl (C i)) (h : Sep (Prt C S) σ F) (i : L) (hd : ∀ b, G b -> ¬ F b) (hi : C i σ G) : Sep (Prt C fun j => S j ∨ j = i) σ fun b => F b ∨ G b := by
 refine h.put (Prt.loc hC) i hd (fun j hj => ?_) ?_ (Prt.loc hC i)
 ·unfold Prt
  by_cases hS : S j
  ·rw [if_pos (.inl hS), if_pos hS]
  ·rw [if_neg (fun h => hS (h.resolve_right hj)), if_neg hS]
 ·unfold Prt
  rw [if_pos (.inr rfl)]; exact hi
theorem Prt.all {L : Type} {C : L -> Hp -> Rg -> Prop} {S : L -> Prop} {F : Rg} (h : Sep (Prt C S) σ F) (hS : ∀ i, S i) : Sep C σ F := by
 have : Prt C S = C := by
  funext i; unfold Prt; rw [if_pos (hS i)]
 rw [this] at h; exact h
theorem Prt.one {L : Type} {C : L -> Hp -> Rg -> Prop} (S : L -> Prop) (l : L) (h : ∀ i, S i -> C i σ fun _ => False) : Sep (Prt C S) σ fun _ => False := by
 refine ⟨fun _ => l, fun i => ?_⟩
 have : (fun (b : Nat) => False /\ l = i) = fun _ => False := by funext b; simp
 rw [this]
 unfold Prt
 by_cases hS : S i
 ·rw [if_pos hS]; exact h i hS
 ·rw [if_neg hS]; trivial
theorem tabV_one {tb : List Cls} : ∀ v ∈ tabV tb, one1 v = true := by
 intro v hv
 simp only [tabV, List.mem_flatMap] at hv
 obtain ⟨c, _, hc⟩ := hv
 simp at hc
 rcases hc with rfl | rfl | rfl <;> rfl
theorem acts_cls {s : Sl} {xs : List (Int × Int × Int)} (ha : Acts σ s xs) (hv : validT xs = true) {i : Nat} {c : Cls} (hc : (xs.map toCls)[i]? = some c) : xs[i]? = some ((c.size : Int), (c.pages : Int), (c.batch : Int)) /\ c.ok := by
 rw [List.getElem?_map, Option.map_eq_some_iff] at hc
 obtain ⟨⟨x, y, z⟩, ht, rfl⟩ := hc
 obtain ⟨c, hok, he, hx, hy, hz⟩ := toCls_eq (((validT_iff xs).1 hv).2.2.1 i _ ht)
 simp only at hx hy hz
 rw [he, ht, hx, hy, hz]
 exact ⟨rfl, hok⟩
theorem tabClone_ok {s : Sl} {xs : List (Int × Int × Int)} (ha : Acts σ s xs) (hv : validT xs = true) {R : Sl -> Hp -> Prop} (hR : ∀ s' σ', Ext0 σ σ' -> SlR s' 3 (tabV (xs.map toCls)) σ' (fun b => σ.size <= b) -> R s' σ') : slices_Clone_api_Class_api_Class.call s σ R := by
 refine slices_Clone_api_Class_api_Class.of_vc ?_
 unfold slices_Clone_api_Class_api_Class.vc
 have hva := (validT_iff xs).1 hv
 have hlen := ha.1
 have hl0 : 0 < (xs.map toCls).length := by rw [List.length_map]; omega
 have h0 : (xs.map toCls)[0]? = some (xs.map toCls)[0] := List.getElem?_eq_getElem hl0
 obtain ⟨bb, oo, hsa, _⟩ := ha.2 0 _ _ _ (acts_cls ha hv h0).1
 refine ifF (by rw [hsa]; rfl) (nw (cs := []) fun v hvz e1 hb1 => ?_)
 have hav := acts_keep0 ha e1
 refine (RowR.nil v (fun b => σ.size <= b) 3 (some ⟨σ.size, 0, none⟩)).app (ys := tabV (xs.map toCls)) rfl (by rw [tabV_len, List.length_map]; omega) ?_ tabV_one (by simp only; omega) (by simp only; omega) (by omega) fun s' h' hl' e' ho' => hR s' h' (Ext.fresh e1 e' fun i hi => hi) ?_
 ·rw [hsa]
  intro j u hu
  have hjl := (List.getElem?_eq_some_iff.1 hu).1
  rw [tabV_len, List.length_map] at hjl
  have hi : j / 3 < (xs.map toCls).length := by rw [List.length_map]; omega
  have hc : (xs.map toCls)[j / 3]? = some (xs.map toCls)[j / 3] := List.getElem?_eq_getElem hi
  generalize (xs.map toCls)[j / 3] = c at hc
  have hg := tabV_get hc
  obtain ⟨b, o, g1, _, g3, g4, g5⟩ := hav.2 (j / 3) _ _ _ (acts_cls ha hv hc).1
  rw [hsa] at g1; cases g1
  rw [add_lit]
  rcases (by omega : j = 3 * (j / 3) ∨ j = 3 * (j / 3) + 1 ∨ j = 3 * (j / 3) + 2) with hj | hj | hj
  ·rw [hj] at hu; rw [hg.1] at hu; cases hu
   rw [show oo + j = oo + j / 3 * 3 by omega]; exact g3
  ·rw [hj] at hu; rw [hg.2.1] at hu; cases hu
   rw [show oo + j = oo + j / 3 * 3 + 1 by omega]; exact g4
  ·rw [hj] at hu; rw [hg.2.2] at hu; cases hu
   rw [show oo + j = oo + j / 3 * 3 + 2 by omega]; exact g5
 ·rw [List.nil_append] at ho'
  refine (SlR.loc _ _ _).mono ho'.slR fun b _ hg => ?_
  rcases hg with h | h
  ·exact h
  ·omega
end Go.Ar
namespace Go.Ar
open Go Go.Vc Go.Proofs
open Go.Bu (runOk giveS takeAt)


variable {σ : Hp} {F H : Rg} {p hs : Nat} {A : AR} {sp : Sp} {Y : Lay} {T : Nat -> Hp -> Rg -> Prop}
def newA (n room : Nat) (tb : List Cls) : AR := { n := n, room := room, tb := tb, S := Go.Bu.emptyS, st := List.replicate n 0, ow := fun _ => 0, cen := List.replicate tb.length [], tra := List.replicate tb.length ⟨0, []⟩, runs := [] }
def newP (n room : Nat) (tb : List Cls) (i : Nat) : AR := { newA n room tb with cen := List.replicate i [], tra := List.replicate i ⟨0, []⟩ }
def newE (xs : List (Int × Int × Int)) (n : Nat) (room : Int) : Int := if validT xs then (if 32 <= n /\ n % 16 = 0 /\ 0 <= room /\ room <= 8 then 0 else 1) else 2
def S0 : Lb -> Prop
 | .crow | .trow | .cen _ | .tra _ => True
 | _ => False
theorem two_rows {i cp tp : Nat} {c : Cls} {ss : List SpA} {t : TrA} {ps : List (Nat × Nat)} {Gc Gt : Rg} {crow trow : Sl} (hpos : Y.cps.length = i /\ Y.tps.length = i)
 (h : Sep (ACh A { Y with crow := crow, trow := trow, cps := Y.cps ++ [cp], tps := Y.tps ++ [tp] } (traT A { Y with crow := crow, trow := trow, cps := Y.cps ++ [cp], tps := Y.tps ++ [tp] }) (hdV Y)) σ F)
 (hlc : A.cen.length = i) (hlt : A.tra.length = i) (hc : A.tb[i]? = some c) (hC : CeH σ Gc cp c ps ss) (hTf : TfH σ Gt tp c.batch A.room t) (d1 : ∀ b, Gc b -> ¬ F b) (d2 : ∀ b, Gt b -> ¬ F b) (d3 : ∀ b, Gc b -> ¬ Gt b) {K : Hp -> Prop}
 (hK : ∀ σ' Y', Ext F σ σ' -> Y'.p = Y.p -> Y'.hs = Y.hs -> Y'.cps.length = i + 1 -> Y'.tps.length = i + 1 -> Sep (ACh { A with cen := A.cen ++ [ss], tra := A.tra ++ [t] } Y' (traT { A with cen := A.cen ++ [ss], tra := A.tra ++ [t] } Y') (hdV Y')) σ' (fun b => (F b ∨ Gc b) ∨ Gt b) -> K σ') :
 NilP (some ⟨Y.p, 0, none⟩) fun a93 => St1 (a93.add 5) (.slice crow.a crow.len crow.cap) σ fun v25 => NilP (some ⟨Y.p, 0, none⟩) fun a95 => St1 (a95.add 6) (.slice trow.a trow.len trow.cap) v25 K := by
 have hT : ∀ k, Lcl (traT A { Y with crow := crow, trow := trow, cps := Y.cps ++ [cp], tps := Y.tps ++ [tp] } k) := fun k => traT.loc k
 refine nilP (st_hd (Y := { Y with crow := crow, trow := trow, cps := Y.cps ++ [cp], tps := Y.tps ++ [tp] }) hT h (i := 5) (by simp [hdV]) fun v1 e1 h1 => nilP (st_hd (Y := { Y with crow := crow, trow := trow, cps := Y.cps ++ [cp], tps := Y.tps ++ [tp] }) hT h1 (i := 6) (by simp [hdV]) fun v2 e2 h2 => ?_))
 have hC2 := (CeH.loc (c := c) (ps := ps) (ss := ss) (p := cp)).keep ((CeH.loc (c := c) (ps := ps) (ss := ss) (p := cp)).keep hC e1 fun b _ hb hf => d1 b hb hf) e2 fun b _ hb hf => d1 b hb hf
 have hT2 := (TfH.loc (p := tp) (batch := c.batch) (room := A.room) (t := t)).keep ((TfH.loc (p := tp) (batch := c.batch) (room := A.room) (t := t)).keep hTf e1 fun b _ hb hf => d2 b hb hf) e2 fun b _ hb hf => d2 b hb hf
 have h3 := put_cls (cp := cp) (tp := tp) h2 hlc hlt (by simp only; rw [List.getElem?_append_right (by omega), hpos.1, Nat.sub_self]; rfl) (by simp only; rw [List.getElem?_append_right (by omega), hpos.2, Nat.sub_self]; rfl) hc hC2 hT2 d1 d2 d3
 exact hK v2 { Y with crow := crow, trow := trow, cps := Y.cps ++ [cp], tps := Y.tps ++ [tp] } (e1.trans e2) rfl rfl (by simp [hpos.1]) (by simp [hpos.2]) h3
theorem chs {cs : List Value} {σ' : Hp} (hT : ∀ k, Lcl (T k)) (h : Sep (ACh A Y T cs) σ F) (e : Ext0 σ σ') : Sep (ACh A Y T cs) σ' F := (Sep.loc (ACh.loc hT)).keep0 h e
theorem chcut {cs : List Value} (hT : ∀ k, Lcl (T k)) (h : Sep (ACh A Y T cs) σ F) : Sep (ACh A Y T cs) σ (Cut F σ) := (Sep.loc (ACh.loc hT)).cut h
end Go.Ar
namespace Go.Ar
open Go Go.Vc Go.Proofs
open Go.Bu (runOk giveS takeAt)


variable {σ : Hp} {F H : Rg} {p hs : Nat} {A : AR} {sp : Sp} {Y : Lay} {T : Nat -> Hp -> Rg -> Prop}
theorem newP_succ (n room : Nat) (tb : List Cls) (i : Nat) : ({ newP n room tb i with cen := (newP n room tb i).cen ++ [[]], tra := (newP n room tb i).tra ++ [⟨0, []⟩] } : AR) = newP n room tb (i + 1) := by
 unfold newP
 simp only [← List.replicate_succ']
theorem newP_all (n room : Nat) (tb : List Cls) : newP n room tb tb.length = newA n room tb := rfl
theorem rows3 {i cp tp : Nat} {c : Cls} {ss : List SpA} {t : TrA} {ps : List (Nat × Nat)} {Gc Gt : Rg} {z : Nat} (hF : ∀ b, F b -> z <= b /\ b < σ.size) (hpos : Y.cps.length = i /\ Y.tps.length = i) (hi : i < 40)
 (h : Sep (ACh A Y (traT A Y) (hdV Y)) σ F) (hlc : A.cen.length = i) (hlt : A.tra.length = i) (hc : A.tb[i]? = some c) (hC : CeH σ Gc cp c ps ss) (hTf : TfH σ Gt tp c.batch A.room t) (d1 : ∀ b, Gc b -> ¬ F b /\ z <= b /\ b < σ.size) (d2 : ∀ b, Gt b -> ¬ F b /\ z <= b /\ b < σ.size) (d3 : ∀ b, Gc b -> ¬ Gt b) {J4 : Hp -> Prop}
 (hK : ∀ σ' Y', Ext F σ σ' -> Y'.p = Y.p -> Y'.hs = Y.hs -> Y'.cps.length = i + 1 -> Y'.tps.length = i + 1 -> Sep (ACh { A with cen := A.cen ++ [ss], tra := A.tra ++ [t] } Y' (traT { A with cen := A.cen ++ [ss], tra := A.tra ++ [t] } Y') (hdV Y')) σ' (fun b => z <= b) -> J4 σ') :
 Held σ fun S => NilP (some ⟨Y.p, 0, none⟩) fun a80 => LdH S .s (a80.add 5) fun (t82 : Sl) => NilP (some ⟨Y.p, 0, none⟩) fun a87 => LdH S .s (a87.add 6) fun (t89 : Sl) =>
  (Nw (.cells #[.pointer (some ⟨cp, 0, none⟩)] 152 (0, 0)) σ fun n84 v21 => And (S v21) <|
   (App t82 1 8 152 [.pointer none] ⟨(some n84), 1, 1⟩ v21 fun t85 v22 => And (S v22) <| Nw (.cells #[.pointer (some ⟨tp, 0, none⟩)] 154 (0, 0)) v22 fun n91 v23 => And (S v23) <| App t89 1 8 154 [.pointer none] ⟨(some n91), 1, 1⟩ v23 fun t92 v24 => And (S v24) <|
   NilP (some ⟨Y.p, 0, none⟩) fun a93 => St1 (a93.add 5) (.slice t85.a t85.len t85.cap) v24 fun v25 => NilP (some ⟨Y.p, 0, none⟩) fun a95 => St1 (a95.add 6) (.slice t92.a t92.len t92.cap) v25 fun v26 => J4 v26) ∧
   (Nw (.cells #[.pointer (some ⟨tp, 0, none⟩)] 154 (0, 0)) v21 fun n911 v27 => And (S v27) <| App t82 1 8 152 [.pointer none] ⟨(some n84), 1, 1⟩ v27 fun t851 v28 => And (S v28) <| App t89 1 8 154 [.pointer none] ⟨(some n911), 1, 1⟩ v28 fun t921 v29 => And (S v29) <|
   NilP (some ⟨Y.p, 0, none⟩) fun a931 => St1 (a931.add 5) (.slice t851.a t851.len t851.cap) v29 fun v30 => NilP (some ⟨Y.p, 0, none⟩) fun a951 => St1 (a951.add 6) (.slice t921.a t921.len t921.cap) v30 fun v31 => J4 v31)) ∧
  (Nw (.cells #[.pointer (some ⟨tp, 0, none⟩)] 154 (0, 0)) σ fun n912 v32 => And (S v32) <| Nw (.cells #[.pointer (some ⟨cp, 0, none⟩)] 152 (0, 0)) v32 fun n841 v33 => And (S v33) <|
  App t82 1 8 152 [.pointer none] ⟨(some n841), 1, 1⟩ v33 fun t852 v34 => And (S v34) <| App t89 1 8 154 [.pointer none] ⟨(some n912), 1, 1⟩ v34 fun t922 v35 => And (S v35) <|
  NilP (some ⟨Y.p, 0, none⟩) fun a932 => St1 (a932.add 5) (.slice t852.a t852.len t852.cap) v35 fun v36 => NilP (some ⟨Y.p, 0, none⟩) fun a952 => St1 (a952.add 6) (.slice t922.a t922.len t922.cap) v36 fun v37 => J4 v37) := by
 have hT : ∀ k, Lcl (traT A Y k) := fun k => traT.loc k
 have hlC := CeH.loc (c := c) (ps := ps) (ss := ss) (p := cp)
 have hlT := TfH.loc (p := tp) (batch := c.batch) (room := A.room) (t := t)
 refine ⟨fun m => Blk m Y.p (hdV Y), (hdCh h).1, nilP ⟨Y.crow, fun m hm => by rw [add_lit, hm.cell]; rfl, nilP ⟨Y.trow, fun m hm => by rw [add_lit, hm.cell]; rfl, ?_⟩⟩⟩
 have app2 : ∀ (w : Hp) (F1 : Rg) (b1 b2 : Nat), Ext0 σ w -> (∀ b, F1 b -> F b) -> Sep (ACh A Y (traT A Y) (hdV Y)) w F1 -> Blk w b1 [.pointer (some ⟨cp, 0, none⟩)] -> Blk w b2 [.pointer (some ⟨tp, 0, none⟩)] -> σ.size <= b1 -> σ.size <= b2 →
  App Y.crow 1 8 152 [.pointer none] ⟨some ⟨b1, 0, none⟩, 1, 1⟩ w fun t85 v28 => And (Blk v28 Y.p (hdV Y)) <| App Y.trow 1 8 154 [.pointer none] ⟨some ⟨b2, 0, none⟩, 1, 1⟩ v28 fun t92 v29 => And (Blk v29 Y.p (hdV Y)) <|
   NilP (some ⟨Y.p, 0, none⟩) fun a93 => St1 (a93.add 5) (.slice t85.a t85.len t85.cap) v29 fun v30 => NilP (some ⟨Y.p, 0, none⟩) fun a95 => St1 (a95.add 6) (.slice t92.a t92.len t92.cap) v30 fun v31 => J4 v31 := by
  intro w F1 b1 b2 ew hF1 hw hb1 hb2 hz1 hz2
  have hFw : ∀ b, F1 b -> z <= b /\ b < σ.size := fun b hb => hF b (hF1 b hb)
  have hsw := ew.1
  refine app_crow hT hw (by omega) (by omega) hb1 (fun hf => by have := hFw _ hf; omega) fun s1 v28 e28 h28 => ?_
  have h28b := (hdCh h28).1
  have h28' : Sep (ACh A { Y with crow := s1, cps := Y.cps ++ [cp] } (traT A { Y with crow := s1, cps := Y.cps ++ [cp] }) (hdV Y)) v28 (Grow F1 w) := h28
  refine ⟨h28b, ?_⟩
  have c28 : Sep (ACh A { Y with crow := s1, cps := Y.cps ++ [cp] } (traT A { Y with crow := s1, cps := Y.cps ++ [cp] }) (hdV Y)) v28 (fun b => F1 b ∨ w.size <= b) := h28'
  have hb2' := e28.blk hb2 fun hf => by have := hFw _ hf; omega
  have hb2lt := hb2.lt
  refine app_trow c28 (by simp only; omega) (by simp only; omega) hb2' (fun hf => by
   rcases hf with hf | hf
   ·have := hFw _ hf; omega
   ·omega) fun s2 v29 e29 h29 => ?_
  refine ⟨(hdCh h29).1, ?_⟩
  have sub29 : ∀ b, (F1 b ∨ w.size <= b) -> F b ∨ σ.size <= b := fun b hb => by
   rcases hb with hb | hb
   ·exact .inl (hF1 b hb)
   ·exact .inr (by omega)
  have eAll : Ext F σ v29 := ((Ext0.to ew).trans (e28.sub hF1)).newT e29 sub29
  have hC29 := hlC.keep hC eAll fun b _ hb hf => (d1 b hb).1 hf
  have hT29 := hlT.keep hTf eAll fun b _ hb hf => (d2 b hb).1 hf
  have hs28 := e28.1
  refine two_rows (F := Grow (fun b => F1 b ∨ w.size <= b) v28) hpos h29 hlc hlt hc hC29 hT29 (fun b hb hf => ?_) (fun b hb hf => ?_) d3 fun w2 Y' e2 p1 p2 p3 p4 h2 => ?_
  ·have := d1 b hb
   rcases hf with (hf | hf) | hf
   ·exact this.1 (hF1 b hf)
   ·omega
   ·omega
  ·have := d2 b hb
   rcases hf with (hf | hf) | hf
   ·exact this.1 (hF1 b hf)
   ·omega
   ·omega
  ·refine hK w2 Y' (eAll.newT e2 fun b hb => ?_) p1 p2 p3 p4 ((Sep.loc (ACh.loc (fun k => traT.loc k))).mono h2 fun b _ hb => ?_)
   ·rcases hb with (hb | hb) | hb
    ·exact .inl (hF1 b hb)
    ·exact .inr (by omega)
    ·exact .inr (by omega)
   ·have hz0 : z <= σ.size := by have := (d1 _ hC.fp); omega
    rcases hb with (((hb | hb) | hb) | hb) | hb
    ·exact (hFw b hb).1
    ·omega
    ·omega
    ·exact (d1 b hb).2.1
    ·exact (d2 b hb).2.1
 have S0 : ∀ {w : Hp}, Ext0 σ w -> Blk w Y.p (hdV Y) := fun e => e.blk (hdCh h).1 id
 refine ⟨nw (cs := [.pointer (some ⟨cp, 0, none⟩)]) fun v21 z21 e21 b21 => ⟨S0 e21, ?_, ?_⟩, nw (cs := [.pointer (some ⟨tp, 0, none⟩)]) fun v32 z32 e32 b32 => ⟨S0 e32, nw (cs := [.pointer (some ⟨cp, 0, none⟩)]) fun v33 z33 e33 b33 => ⟨S0 (Ext.trans e32 e33), ?_⟩⟩⟩
 ·-- row, box, row
  have h21 := chs hT h e21
  refine app_crow hT h21 (by omega) (by omega) b21 (fun hf => by have := hF _ hf; omega) fun s1 v22 e22 h22 => ⟨(hdCh h22).1, ?_⟩
  have h22' : Sep (ACh A { Y with crow := s1, cps := Y.cps ++ [cp] } (traT A { Y with crow := s1, cps := Y.cps ++ [cp] }) (hdV Y)) v22 (Grow F v21) := h22
  have c22 := chcut (fun k => traT.loc k) h22'
  refine nw (cs := [.pointer (some ⟨tp, 0, none⟩)]) fun v23 z23 e23 b23 => ?_
  have h23 := chs (fun k => traT.loc k) c22 e23
  refine ⟨(hdCh h23).1, app_trow h23 (by simp only; omega) (by simp only; omega) b23 (fun hf => by have := hf.2; omega) fun s2 v24 e24 h24 => ⟨(hdCh h24).1, ?_⟩⟩
  have hs22 := e22.1
  have hs23 := e23.1
  have sub24 : ∀ b, Cut (Grow F v21) v22 b -> F b ∨ σ.size <= b := fun b hb => by
   rcases hb.1 with h | h
   ·exact .inl h
   ·exact .inr (by omega)
  have eAll : Ext F σ v24 := ((((Ext0.to e21).trans e22).trans0 e23)).newT e24 sub24
  have hC24 := hlC.keep hC eAll fun b _ hb hf => (d1 b hb).1 hf
  have hT24 := hlT.keep hTf eAll fun b _ hb hf => (d2 b hb).1 hf
  refine two_rows (F := Grow (Cut (Grow F v21) v22) v23) hpos h24 hlc hlt hc hC24 hT24 (fun b hb hf => ?_) (fun b hb hf => ?_) d3 fun w2 Y' e2 p1 p2 p3 p4 h2 => ?_
  ·have := d1 b hb
   rcases hf with hf | hf
   ·rcases hf.1 with hf | hf
    ·exact this.1 hf
    ·omega
   ·omega
  ·have := d2 b hb
   rcases hf with hf | hf
   ·rcases hf.1 with hf | hf
    ·exact this.1 hf
    ·omega
   ·omega
  ·refine hK w2 Y' (eAll.newT e2 fun b hb => ?_) p1 p2 p3 p4 ((Sep.loc (ACh.loc (fun k => traT.loc k))).mono h2 fun b _ hb => ?_)
   ·rcases hb with hb | hb
    ·exact sub24 b hb
    ·exact .inr (by omega)
   ·have hz0 : z <= σ.size := by have := (d1 _ hC.fp); omega
    rcases hb with ((hb | hb) | hb) | hb
    ·rcases sub24 b hb with h | h
     ·exact (hF b h).1
     ·omega
    ·omega
    ·exact (d1 b hb).2.1
    ·exact (d2 b hb).2.1
 ·-- box, row, row
  refine nw (cs := [.pointer (some ⟨tp, 0, none⟩)]) fun v27 z27 e27 b27 => ⟨S0 (Ext.trans e21 e27), ?_⟩
  exact app2 v27 F σ.size v21.size (Ext.trans e21 e27) (fun b hb => hb) (chs hT (chs hT h e21) e27) (e27.blk b21 id) b27 (Nat.le_refl _) (by omega)
 ·exact app2 v33 F v32.size σ.size (Ext.trans e32 e33) (fun b hb => hb) (chs hT (chs hT h e32) e33) b33 (e33.blk b32 id) (by omega) (Nat.le_refl _)
end Go.Ar
namespace Go.Ar
open Go Go.Vc Go.Proofs
open Go.Bu (runOk giveS takeAt)


variable {σ : Hp} {F H : Rg} {p hs : Nat} {A : AR} {sp : Sp} {Y : Lay} {T : Nat -> Hp -> Rg -> Prop}
theorem iv_cut {P : Hp -> Rg -> Prop} (hl : Lcl P) {a : Nat} (h : P σ fun b => a <= b) : P σ fun b => a <= b /\ b < σ.size := hl.mono h fun b hb hf => ⟨hf, hb⟩
theorem newLay {n room : Nat} {tb : List Cls} (h1 : 32 <= n) (h2 : n <= 1024) (h3 : n % 16 = 0) (h4 : room <= 8) (h5 : 1 <= tb.length) (h6 : tb.length <= 40) (h7 : ∀ c ∈ tb, c.ok) (hc : Y.cps.length = tb.length) (ht : Y.tps.length = tb.length) : LayOk (newA n room tb) Y :=
 ⟨hc, ht, by simp [newA], by simp [newA], h5, h6, h1, h2, h3, by simp [newA], h4, h7⟩
theorem ANew_ok {s : Sl} {xs : List (Int × Int × Int)} (ha : Acts σ s xs) (hS : SpH3 σ H hs sp) (room : Int) {R : Option Addr -> Int -> Hp -> Prop}
 (h0 : newE xs sp.st.length room ≠ 0 -> ∀ σ', Ext0 σ σ' -> R none (newE xs sp.st.length room) σ')
 (h1 : newE xs sp.st.length room = 0 -> ∀ σ' Y, Ext0 σ σ' -> Y.hs = hs -> AHY σ' (fun b => σ.size <= b) Y (newA sp.st.length room.toNat (xs.map toCls)) (traT (newA sp.st.length room.toNat (xs.map toCls)) Y) -> R (some ⟨Y.p, 0, none⟩) 0 σ') :
 arena_New.call s (some ⟨hs, 0, none⟩) room σ R := by
 refine arena_New.of_vc ?_
 unfold arena_New.vc
 have hn2 : sp.st.length <= 1024 := by obtain ⟨q, r, l, B, h⟩ := hS; exact h.n2
 refine Valid_ok ha fun v e => ?_
 cases hv : validT xs
 ·have e1 : newE xs sp.st.length room = 2 := by unfold newE; rw [hv]; rfl
  have := h0 (by rw [e1]; decide) v e
  rw [e1] at this
  exact ifT rfl this
 have eE : newE xs sp.st.length room = if 32 <= sp.st.length /\ sp.st.length % 16 = 0 /\ 0 <= room /\ room <= 8 then 0 else 1 := by unfold newE; rw [hv, if_pos rfl]
 refine ifF rfl (Pages_ok (hS.keep0 e) ?_)
 have bad : ¬ (32 <= sp.st.length /\ sp.st.length % 16 = 0 /\ 0 <= room /\ room <= 8) -> R none 1 v := fun hn => by
  rw [if_neg hn] at eE
  have := h0 (by rw [eE]; decide) v e
  rw [eE] at this; exact this
 have tm : (((sp.st.length : Nat) : Int).tmod 16) = ((sp.st.length % 16 : Nat) : Int) := by rw [tmod_nn (by omega)]; simp
 refine JnB.intro (ifD (fun c1 => JnB.intro (ifT rfl (JnB.intro (ifT rfl (ifT rfl (bad (by omega))))))) fun c1 => nz (by decide) ?_)
 rw [tm, bneN0]
 refine JnB.intro (iff_ (fun c2 => JnB.intro (ifT rfl (ifT rfl (bad (fun h => by have := h.2.1; simp [this] at c2))))) fun c2 => ?_)
 have c2' : sp.st.length % 16 = 0 := by simpa using c2
 refine JnB.intro (ifD (fun c3 => ifT rfl (bad (by omega))) fun c3 => ifD (fun c4 => bad (by omega)) fun c4 => ?_)
 obtain ⟨rm, rfl⟩ := Int.eq_ofNat_of_zero_le (show 0 <= room by omega)
 rw [if_pos (by omega)] at eE
 have h1 := h1 eE
 simp only [Int.toNat_natCast] at h1
 have hva := (validT_iff xs).1 hv
 have hav := acts_keep0 ha e
 have hn1 : 32 <= sp.st.length := by omega
 generalize sp.st.length = n at *
 have hlen : s.len = (xs.map toCls).length := by rw [List.length_map]; exact ha.1
 have hcl : ∀ {σ' : Hp} {i : Nat} {c : Cls}, Acts σ' s xs -> (xs.map toCls)[i]? = some c -> xs[i]? = some ((c.size : Int), (c.pages : Int), (c.batch : Int)) /\ c.ok := fun h hc => acts_cls h hv hc
 have htb1 : 1 <= (xs.map toCls).length /\ (xs.map toCls).length <= 40 := by rw [List.length_map]; omega
 refine tabClone_ok hav hv fun tab v5 e5 htab => PNew_ok fun v6 op e6 hop hP => nwMap fun v7 z7 e7 hm => ?_
 generalize htbd : xs.map toCls = tb at *
 refine nw (cs := [.slice tab.a tab.len tab.cap, .pointer (some ⟨hs, 0, none⟩), .pointer none, .pointer none, .pointer (some ⟨op, 0, none⟩), .slice none 0 0, .slice none 0 0, .map (some v6.size)]) fun v8 z8 e8 b8 => ?_
 refine Go.Bu.New_ok _ (fun hb => absurd ⟨by omega, by omega⟩ hb) fun n' hn' _ _ v9 sb ms e9 hB hfp => ?_
 have hnn : n = n' := by omega
 subst hnn
 have b9 := e9.blk b8 id
 refine nilP (b9.s1 (by simp) fun v10 o10 b10 => TNew_ok (by omega) (by omega) c2' fun v11 tp tq e11 htp htq hTk => nilP ((e11.blk b10 id).s1 (by simp) fun v12 o12 b12 => ?_))
 have s5 := e5.1; have s6 := e6.1; have s9 := e9.1; have s10 := o10.1; have s11 := e11.1; have s12 := o12.1
 have hb8 := b8.lt
 have x9 : Ext (· = v7.size) v9 v12 := (o10.ext.trans (Ext0.to e11)).trans o12.ext
 have x5 : Ext (· = v7.size) v5 v12 := (Ext0.to (Ext.trans (Ext.trans (Ext.trans e6 e7) e8) e9)).trans x9
 have x6 : Ext (· = v7.size) v6 v12 := (Ext0.to (Ext.trans (Ext.trans e7 e8) e9)).trans x9
 have x7 : Ext (· = v7.size) v7 v12 := (Ext0.to (Ext.trans e8 e9)).trans x9
 have x11 : Ext (· = v7.size) v11 v12 := o12.ext
 have p1 := (SlR.loc _ _ _).keep (iv_cut (SlR.loc _ _ _) htab) x5 fun b _ hb hf => by omega
 have p2 := (PmH.loc (p := op) (ow := fun _ => 0)).keep (iv_cut PmH.loc hP) x6 fun b _ hb hf => by omega
 have p3 : MapL v12 v6.size .i64 (.i .i64) [] := x7.mapL (hm _ _) (by omega)
 have p5 : FreeR v8.size n Go.Bu.emptyS v12 (fun b => v8.size <= b /\ b < v9.size) := (FreeR.loc _ _ _).keep (iv_cut (FreeR.loc _ _ _) ⟨sb, ms, hB, hfp⟩) x9 fun b _ hb hf => by omega
 have p6 : TrkR tp (List.replicate n 0) v12 (fun b => v10.size <= b /\ b < v11.size) := (TrkR.loc _ _).keep (iv_cut (TrkR.loc _ _) ⟨tq, hTk, htp, htq⟩) x11 fun b _ hb hf => by omega
 let Y0 : Lay := { p := v7.size, hs := hs, fr := v8.size, tr := tp, op := op, rn := v6.size, tab := tab, crow := ⟨none, 0, 0⟩, trow := ⟨none, 0, 0⟩, cps := [], tps := [] }
 have b12' : Blk v12 v7.size (hdV Y0) := b12
 let Cf := ACh (newP n rm tb 0) Y0 (traT (newP n rm tb 0) Y0) (hdV Y0)
 have hCf : ∀ i, Lcl (Cf i) := ACh.loc fun k => traT.loc k
 have q0 : Sep (Prt Cf S0) v12 fun _ => False := Prt.one S0 .hd fun i hi => by
  cases i <;> first | exact hi.elim | exact RowR.nil _ _ _ _ | exact trivial
 have q1 := Prt.put hCf q0 .tab (G := fun b => v.size <= b /\ b < v5.size) (fun b hb hf => hf) p1
 have q2 := Prt.put hCf q1 .own (G := fun b => v5.size <= b /\ b < v6.size) (fun b hb hf => by
  rcases hf with hf | hf
  ·exact hf
  ·omega) p2
 have q3 := Prt.put hCf q2 .runs (G := fun b => b = v6.size) (fun b hb hf => by
  rcases hf with (hf | hf) | hf
  ·exact hf
  ·omega
  ·omega) ⟨rfl, p3⟩
 have q4 := Prt.put hCf q3 .hd (G := fun b => b = v7.size) (fun b hb hf => by
  rcases hf with ((hf | hf) | hf) | hf
  ·exact hf
  ·omega
  ·omega
  ·omega) ⟨rfl, b12'⟩
 have q5 := Prt.put hCf q4 .free (G := fun b => v8.size <= b /\ b < v9.size) (fun b hb hf => by
  rcases hf with (((hf | hf) | hf) | hf) | hf
  ·exact hf
  ·omega
  ·omega
  ·omega
  ·omega) p5
 have q6 := Prt.put hCf q5 .trk (G := fun b => v10.size <= b /\ b < v11.size) (fun b hb hf => by
  rcases hf with ((((hf | hf) | hf) | hf) | hf) | hf
  ·exact hf
  ·omega
  ·omega
  ·omega
  ·omega
  ·omega) p6
 have q7 : Sep Cf v12 fun b => v.size <= b := by
  refine (Sep.loc hCf).mono (Prt.all q6 fun i => ?_) fun b _ hf => ?_
  ·cases i <;> simp [S0]
  ·rcases hf with (((((hf | hf) | hf) | hf) | hf) | hf) | hf
   ·exact hf.elim
   ·omega
   ·omega
   ·omega
   ·omega
   ·omega
   ·omega
 have e12 : Ext0 v v12 := Ext.fresh e5 x5 fun i hi => by omega
 have szv := e.1
 refine loop1 (a := .i .i64) (fun (t : Int) w => ∃ (i : Nat) (Y : Lay), t = (i : Int) /\ i <= tb.length /\ Y.p = v7.size /\ Y.hs = hs /\ Y.cps.length = i /\ Y.tps.length = i /\ Ext0 v w /\ Sep (ACh (newP n rm tb i) Y (traT (newP n rm tb i) Y) (hdV Y)) w (fun b => v.size <= b)) (fun t _ => tb.length - t.toNat)
  ⟨0, Y0, rfl, by omega, rfl, rfl, rfl, rfl, e12, q7⟩ ?_
 rintro t w ⟨i, Y, rfl, hi, hYp, hYh, hYc, hYt, ew, hsep⟩
 refine ifD (fun hlt => ?_) fun hge => ?_
 ·have hi' : i < tb.length := by omega
  have hc : tb[i]? = some tb[i] := List.getElem?_eq_getElem hi'
  generalize tb[i] = c at hc
  have haw := acts_keep0 hav ew
  obtain ⟨hxi, hok⟩ := hcl haw hc
  refine acts_rd haw hxi ?_
  refine nw (cs := [.int .i64 0, .int .i64 0, .int .i64 0]) fun v14 hz14 e14 b14 => b14.s1 (by simp) fun v15 o15 b15 => b15.s1 (by simp) fun v16 o16 b16 => b16.s1 (by simp) fun v17 o17 b17 => ?_
  have e17 : Ext0 w v17 := Ext.fresh (Ext.fresh (Ext.fresh e14 o15.ext fun i hi => by omega) o16.ext fun i hi => by omega) o17.ext fun i hi => by omega
  have b17' : Blk v17 w.size [.int .i64 (c.size : Int), .int .i64 (c.pages : Int), .int .i64 (c.batch : Int)] := b17
  refine b17'.rI rfl (b17'.rI rfl (b17'.rI rfl (CNew_ok hok fun v18 cp e18 hcp1 hcp2 hCe => ?_)))
  have b18 := e18.blk b17' id
  obtain ⟨_, _, _, _, _, _, hbt1, hbt2⟩ := id hok
  refine b18.rI rfl (FNew_ok hbt1 hbt2 (by omega) fun v19 tp2 e19 htp1 htp2 hTf => Jn.intro ?_)
  have s14 := e17.1; have s18 := e18.1; have s19 := e19.1; have sw := ew.1
  have hT : ∀ k, Lcl (traT (newP n rm tb i) Y k) := fun k => traT.loc k
  have h19 := chs hT (chs hT (chs hT (chcut hT hsep) e17) e18) e19
  have hCe19 := hCe.keep0 e19
  rw [← hYp]
  refine rows3 (F := Cut (fun b => v.size <= b) w) (z := v.size) (ss := []) (t := ⟨0, []⟩) (fun b hb => ⟨hb.1, by have := hb.2; omega⟩) ⟨hYc, hYt⟩ (by omega) h19 (by simp [newP]) (by simp [newP]) hc hCe19 hTf (fun b hb => ?_) (fun b hb => ?_) (fun b hb hb2 => by omega) fun w2 Y' e2 y1 y2 y3 y4 h2 => ?_
  ·subst hb; exact ⟨fun hf => by have := hf.2; omega, by omega, by omega⟩
  ·subst hb; exact ⟨fun hf => by have := hf.2; omega, by omega, by omega⟩
  ·rw [newP_succ] at h2
   exact arN (m := i + 1) (by omega) (by omega) ⟨⟨i + 1, Y', rfl, by omega, y1, y2.trans hYh, y3, y4, Ext.fresh (Ext.trans (Ext.trans (Ext.trans ew e17) e18) e19) e2 fun b hb => hb.1, h2⟩, by omega⟩
 ·have : i = tb.length := by omega
  subst this
  rw [newP_all, ACh_hd] at hsep
  have hl : LayOk (newA n rm tb) Y := newLay hn1 hn2 c2' (by omega) htb1.1 htb1.2 (fun c hc => by
   obtain ⟨j, hj⟩ := List.getElem?_of_mem hc
   exact (hcl hav hj).2) hYc hYt
  have := h1 w Y (Ext.trans e ew) hYh ⟨hl, fun k => traT.loc k, (Sep.loc (AC.loc fun k => traT.loc k)).mono hsep fun b _ hb => Nat.le_trans szv hb⟩
  rw [hYp] at this
  exact this
end Go.Ar
namespace Go.Vc
open Go


variable {σ : Hp} {F : Rg} {s : Sl} {sz : Nat} {xs : List Value}
def RowO (s : Sl) (sz : Nat) (xs : List Value) : Hp -> Rg -> Prop := fun h F => xs.length = s.len * sz /\ (s.len = 0 /\ s.cap = 0 ∨ ∃ b o cs, F b /\ s.a = some ⟨b, o, none⟩ /\ Blk h b cs /\ s.len <= s.cap /\ cs.length = o + s.cap * sz /\ (cs.drop o).take xs.length = xs)
theorem RowO.loc (s : Sl) (sz : Nat) (xs : List Value) : Lcl (RowO s sz xs) := fun σ σ' F G h hz hs => by
 refine ⟨h.1, h.2.imp id ?_⟩
 rintro ⟨b, o, cs, hq, ha, ⟨e, he⟩, r⟩
 have := hs b (Blk.lt ⟨e, he⟩) hq
 exact ⟨b, o, cs, this.1, ha, ⟨e, this.2.trans he⟩, r⟩
theorem RowO.nil (h : Hp) (F : Rg) (sz : Nat) (a : Option Addr) : RowO ⟨a, 0, 0⟩ sz [] h F := ⟨by simp, .inl ⟨rfl, rfl⟩⟩
theorem RowR.o (h : RowR s sz xs σ F) : RowO s sz xs σ F := ⟨h.1, h.2.imp id fun ⟨b, cs, hq, ha, hb, hle, hcl, ht⟩ => ⟨b, 0, cs, hq, ha, hb, hle, by omega, by simpa using ht⟩⟩
theorem RowO.slR (h : RowO s sz xs σ F) : SlR s sz xs σ F := by
 refine ⟨h.1, ?_⟩
 rcases h.2 with ⟨hl, _⟩ | ⟨b, o, cs, hq, ha, hb, _, _, ht⟩
 ·left; have := h.1; rw [hl] at this; simpa using this
 ·refine .inr ⟨b, o, cs, hq, ha, hb.q, fun j hj => ?_⟩
  rw [← ht, List.getElem?_take, List.getElem?_drop, if_pos hj]
theorem RowO.cap (h : RowO s sz xs σ F) : s.len <= s.cap := by
 rcases h.2 with ⟨q1, q2⟩ | ⟨_, _, _, _, _, _, q, _⟩
 ·omega
 ·exact q
theorem RowO.app {x : Sl} {bytes e : Nat} {zs ys : List Value} {K : Sl -> Hp -> Prop} (ho : RowO s sz xs σ F) (hz : zs.length = sz)
 (hy : ys.length = x.len * sz) (hr : Rd σ x.a ys) (h1 : ∀ v ∈ ys, one1 v = true) (hb : (s.len + x.len) * bytes <= 2 ^ 46) (hc : s.len + x.len <= 2 ^ 62)
 (hx : 0 < x.len) (hK : ∀ s' h', s'.len = s.len + x.len -> Ext F σ h' -> RowO s' sz (xs ++ ys) h' (Grow F σ) -> K s' h') : App s sz bytes e zs x σ K := by
 refine ⟨xs, ys, ho.1, hy, ho.slR.rd, hr, h1, hb, hc, fun hin => ?_, fun hout c hcc => ?_⟩
 ·rcases ho.2 with ⟨hl, hcap⟩ | ⟨b, o, cs, hQ, ha, hk, hle, hcl, ht⟩
  ·omega
  ·rw [ha]
   simp only
   rw [add_lit]
   have hm : (s.len + x.len) * sz <= s.cap * sz := Nat.mul_le_mul_right _ hin
   rw [Nat.add_mul] at hm
   have hxl := ho.1
   refine stN_blk hk (by omega) fun h' ho' hb' => hK _ h' rfl (Ext.of_only ho' hQ) ⟨?_, .inr ⟨b, o, _, .inl hQ, rfl, hb', hin, ?_, ?_⟩⟩
   ·simp [hxl, hy, Nat.add_mul]
   ·simp; omega
   ·rw [List.length_append, hxl, Nat.add_zero]
    have e1 : (cs.take (o + s.len * sz) ++ ys ++ cs.drop (o + s.len * sz + ys.length)).drop o = (cs.drop o).take (s.len * sz) ++ (ys ++ cs.drop (o + s.len * sz + ys.length)) := by
     rw [List.append_assoc, List.drop_append_of_le_length (by rw [List.length_take]; omega), List.drop_take]
     congr 2; omega
    have ht' : (cs.drop o).take (s.len * sz) = xs := by rw [← hxl]; exact ht
    rw [e1, ht', ← List.append_assoc, List.take_append_of_le_length (by simp; omega), List.take_of_length_le (by simp; omega)]
 ·refine hK _ _ rfl (Ext.push _ _ _) ⟨by simp [ho.1, hy, Nat.add_mul], .inr ⟨σ.size, 0, xs ++ ys ++ (List.replicate (c - (s.len + x.len)) zs).flatten, .inr (Nat.le_refl _), rfl, ⟨e, by simp⟩, hcc, ?_, ?_⟩⟩
  ·simp only [List.length_append, List.length_flatten, List.map_replicate, List.sum_replicate_nat, ho.1, hy, hz, ← Nat.add_mul]
   rw [Nat.zero_add]; congr 1; omega
  ·rw [List.drop_zero, List.take_append_of_le_length (by simp), List.take_of_length_le (by simp)]
theorem RowO.app0 {x : Sl} {bytes e : Nat} {zs : List Value} {K : Sl -> Hp -> Prop} (ho : RowO s sz xs σ F) (hx : x.len = 0) (hb : s.len * bytes <= 2 ^ 46) (hc : s.len <= 2 ^ 62) (hK : RowO ⟨s.a, s.len, s.cap⟩ sz xs σ F -> K ⟨s.a, s.len, s.cap⟩ σ) : App s sz bytes e zs x σ K := by
 have hcap := ho.cap
 refine ⟨xs, [], ho.1, by simp [hx], ho.slR.rd, by cases x.a <;> simp [Rd], by simp, by rw [hx]; exact hb, by omega, fun hin => ?_, fun hout => absurd (by omega) hout⟩
 rw [hx]
 have := hK ho
 cases ha : s.a <;> (rw [ha] at this; exact this)
theorem RowO.from (h : RowO s sz xs σ F) {lo : Nat} (h1 : lo <= s.len) : RowO ⟨if s.cap = lo then s.a else s.a.map (·.add (lo * sz)), s.len - lo, s.cap - lo⟩ sz (xs.drop (lo * sz)) σ F := by
 have hl := h.1
 refine ⟨by rw [List.length_drop, hl, Nat.sub_mul], ?_⟩
 rcases h.2 with ⟨q1, q2⟩ | ⟨b, o, cs, hq, ha, hb, hle, hcl, ht⟩
 ·left; simp only; omega
 ·by_cases hm : s.cap = lo
  ·left; simp only; omega
  ·refine .inr ⟨b, o + lo * sz, cs, hq, by simp only [if_neg hm, ha, Option.map_some, add_lit], hb, by simp only; omega, ?_, ?_⟩
   ·have : lo * sz <= s.cap * sz := Nat.mul_le_mul_right _ (by omega)
    rw [hcl, Nat.sub_mul]; omega
   ·rw [List.length_drop]
    conv => rhs; rw [← ht]
    rw [List.drop_take, List.drop_drop]
end Go.Vc
namespace Go.Ar
open Go Go.Vc Go.Proofs


variable {σ : Hp} {F G : Rg} {Y : LayC} {tb : List Cls} {bud : Nat} {ls : List Li} {b k : Nat} {l : Li} {c : Cls}
theorem KNew_ok {s : Sl} {xs : List (Int × Int × Int)} (ha : Acts σ s xs) (budget : Int) {R : Option Addr -> Int -> Hp -> Prop} (h0 : validT xs = false -> ∀ σ', Ext0 σ σ' -> R none 2 σ')
 (h1 : validT xs = true -> ¬ (0 <= budget /\ budget <= 65536) -> ∀ σ', Ext0 σ σ' -> R none 1 σ')
 (h2 : validT xs = true -> 0 <= budget -> budget <= 65536 -> ∀ σ' Y, Ext0 σ σ' -> CaY σ' (fun q => σ.size <= q) Y (xs.map toCls) budget.toNat (List.replicate (xs.map toCls).length liN) -> R (some ⟨Y.p, 0, none⟩) 0 σ') :
 cache_New.call s budget σ R := by
 refine cache_New.of_vc ?_
 unfold cache_New.vc
 refine Valid_ok ha fun v e => ?_
 cases hv : validT xs
 ·exact ifT rfl (h0 hv v e)
 refine ifF rfl (JnB.intro (ifD (fun c1 => ifT rfl (h1 hv (by omega) v e)) fun c1 => ifD (fun c2 => h1 hv (by omega) v e) fun c2 => ?_))
 have hav := acts_keep0 ha e
 have hva := (validT_iff xs).1 hv
 refine tabClone_ok hav hv fun tab v1 e1 htab => nwMap fun v2 z2 e2 hm => nw (cs := [.slice tab.a tab.len tab.cap, .int .i64 budget, .map (some v1.size)]) fun v3 z3 e3 hb => ?_
 have s1 := e1.1
 have s0 := e.1
 refine h2 hv (by omega) (by omega) v3 ⟨v2.size, v1.size, tab, []⟩ (((e.trans e1).trans e2).trans e3) ⟨by rw [List.length_map]; omega, fun c hc => ?_, by simp, by simp, ?_⟩
 ·obtain ⟨i, hi⟩ := List.getElem?_of_mem hc
  exact (acts_cls hav hv hi).2
 ·refine ⟨fun q => if q = v2.size then .hd else if q = v1.size then .mp else .tab, fun i => ?_⟩
  cases i with
  | hd =>
   refine ⟨⟨by show σ.size <= v2.size; omega, by simp⟩, ?_⟩
   have : ((budget.toNat : Nat) : Int) = budget := by omega
   simp only [hdC, this]
   exact hb
  | mp =>
   refine ⟨⟨by show σ.size <= v1.size; omega, ?_⟩, e3.mapL (hm .i64 .p) id⟩
   show (if v1.size = v2.size then LbC.hd else if v1.size = v1.size then LbC.mp else LbC.tab) = .mp
   rw [if_neg (by omega), if_pos rfl]
  | tab =>
   have h3 := (SlR.loc _ _ _).keep0 ((SlR.loc _ _ _).keep0 ((SlR.loc _ _ _).mono htab (G := fun q => v.size <= q /\ q < v1.size) fun q hq hf => ⟨hf, hq⟩) e2) e3
   refine (SlR.loc _ _ _).mono h3 fun q _ hq => ⟨by omega, ?_⟩
   show (if q = v2.size then LbC.hd else if q = v1.size then LbC.mp else LbC.tab) = .tab
   rw [if_neg (by omega), if_neg (by omega)]
  | li k =>
   simp only [CC, LiK, lkp, List.find?_nil, Option.map_none]
   cases hk : (List.replicate (xs.map toCls).length liN)[k]? with
   | none => trivial
   | some l => simp only [List.getElem?_replicate] at hk; split at hk <;> simp_all
def sumK (f : Nat -> Nat) (l : List (Int × Option Addr)) : Nat := (l.map fun x => f x.1.toNat).sum
theorem sumK_del (f : Nat -> Nat) : ∀ {l : List (Int × Option Addr)} {n : Int} {x : Option Addr}, (l.map (·.1)).Nodup -> (n, x) ∈ l -> sumK f l = f n.toNat + sumK f (l.filter fun y => !(y.1 == n))
 | [], _, _, _, h => by simp at h
 | y :: l, n, x, hn, h => by
  simp only [List.map_cons, List.nodup_cons] at hn
  rcases List.mem_cons.1 h with h1 | h1
  ·subst h1
   have : l.filter (fun y => !(y.1 == n)) = l := by
    rw [List.filter_eq_self]
    intro z hz
    have : z.1 ≠ n := fun e => hn.1 (List.mem_map.2 ⟨z, hz, e⟩)
    simpa using this
   rw [List.filter_cons_of_neg (by simp), this]
   simp [sumK]
  ·have hne : y.1 ≠ n := fun e => hn.1 (List.mem_map.2 ⟨_, h1, e.symm⟩)
   rw [List.filter_cons_of_pos (by simpa using hne)]
   have := sumK_del f hn.2 h1
   simp only [sumK, List.map_cons, List.sum_cons] at *
   omega
theorem sum_one (n a v : Nat) : ((List.range n).map fun j => if j = a then v else 0).sum = if a < n then v else 0 := by
 induction n with
 | zero => simp
 | succ n ih =>
  rw [List.range_succ, List.map_append, List.sum_append, ih]
  by_cases h : a = n
  ·subst h; simp
  ·by_cases h2 : a < n
   ·rw [if_pos h2, if_pos (by omega)]; simp [Ne.symm h]
   ·rw [if_neg h2, if_neg (by omega)]; simp [Ne.symm h]
theorem sum_add (l : List Nat) (f g : Nat -> Nat) : (l.map fun j => f j + g j).sum = (l.map f).sum + (l.map g).sum := by
 induction l with
 | nil => rfl
 | cons x l ih => simp only [List.map_cons, List.sum_cons, ih]; omega
theorem sum_pick (f : Nat -> Nat) (n : Nat) : ∀ (ps : List (Nat × Nat)), (ps.map (·.1)).Nodup -> (∀ x ∈ ps, x.1 < n) -> (ps.map fun x => f x.1).sum = ((List.range n).map fun j => if j ∈ ps.map (·.1) then f j else 0).sum
 | [], _, _ => by
  have : ((List.range n).map fun j => if j ∈ ([] : List (Nat × Nat)).map (·.1) then f j else 0) = (List.range n).map fun _ => 0 := by simp
  rw [this]
  induction n with
  | zero => rfl
  | succ n ih => rw [List.range_succ, List.map_append, List.sum_append]; simp at *; exact ih
 | x :: ps, hn, hl => by
  simp only [List.map_cons, List.nodup_cons] at hn
  have ih := sum_pick f n ps hn.2 fun y hy => hl y (by simp [hy])
  rw [List.map_cons, List.sum_cons, ih]
  have e : ((List.range n).map fun j => if j ∈ (x :: ps).map (·.1) then f j else 0) = (List.range n).map fun j => (if j = x.1 then f x.1 else 0) + (if j ∈ ps.map (·.1) then f j else 0) := by
   apply List.map_congr_left
   intro j _
   by_cases hj : j = x.1
   ·subst hj
    rw [if_pos (by simp), if_pos rfl, if_neg hn.1]; rfl
   ·rw [if_neg hj, Nat.zero_add]
    by_cases hm : j ∈ ps.map (·.1)
    ·rw [if_pos hm, if_pos (by simp only [List.map_cons, List.mem_cons]; exact .inr hm)]
    ·rw [if_neg hm, if_neg (by simp only [List.map_cons, List.mem_cons, not_or]; exact ⟨hj, hm⟩)]
  rw [e, sum_add, sum_one, if_pos (hl x (by simp))]
def byK (tb : List Cls) (ls : List Li) (k : Nat) : Nat := match tb[k]?, ls[k]? with
 | some c, some l => c.size * l.os.length
 | _, _ => 0
theorem bytes_range : ∀ (tb : List Cls) (ls : List Li), ls.length = tb.length -> bytesF tb ls = ((List.range tb.length).map (byK tb ls)).sum
 | [], [], _ => rfl
 | c :: tb, l :: ls, h => by
  have ih := bytes_range tb ls (by simpa using h)
  simp only [bytesF] at ih
  simp only [bytesF, List.zip_cons_cons, List.map_cons, List.sum_cons, List.length_cons, ih, List.range_succ_eq_map, List.map_map]
  rfl
 | [], _ :: _, h => by simp at h
 | _ :: _, [], h => by simp at h
theorem CaY.nil (h : CaY σ F Y tb bud ls) (hf : lkp Y.ps k = none) (hl : ls[k]? = some l) : l = liN := by
 obtain ⟨G, _, hi⟩ := h.sep.get (.li k)
 simp only [CC, LiK, hf, hl] at hi
 exact hi
theorem CaY.keysN (h : CaY σ F Y tb bud ls) : (Y.ps.map (·.1)).Nodup := by
 have := h.map.nodup
 have e : (ptI Y.ps).map (·.1) = (Y.ps.map (·.1)).map fun (n : Nat) => (n : Int) := by simp [ptI]
 rw [e] at this
 exact List.Pairwise.of_map (fun (n : Nat) => (n : Int)) (fun a b hab e => hab (by rw [e])) this
theorem CaY.bytes (h : CaY σ F Y tb bud ls) : sumK (byK tb ls) (ptI Y.ps) = bytesF tb ls := by
 have e1 : sumK (byK tb ls) (ptI Y.ps) = (Y.ps.map fun x => byK tb ls x.1).sum := by simp [sumK, ptI, Function.comp_def]
 rw [e1, sum_pick _ tb.length _ h.keysN h.keys, bytes_range _ _ h.len]
 congr 1
 apply List.map_congr_left
 intro j hj
 have hj' := List.mem_range.1 hj
 by_cases hm : j ∈ Y.ps.map (·.1)
 ·rw [if_pos hm]
 ·rw [if_neg hm]
  have hf : lkp Y.ps j = none := by
   unfold lkp
   simp only [Option.map_eq_none_iff, List.find?_eq_none, beq_iff_eq]
   exact fun x hx e => hm (List.mem_map.2 ⟨x, hx, e⟩)
  have hl : ls[j]? = some (ls[j]'(by rw [h.len]; exact hj')) := List.getElem?_eq_getElem _
  have := h.nil hf hl
  unfold byK
  rw [List.getElem?_eq_getElem hj', hl, this]
  rfl
theorem bytes_key : ∀ (tb : List Cls) (ls : List Li), (∀ c ∈ tb, c.ok) -> (∀ l ∈ ls, LiOk l) -> bytesF tb ls <= tb.length * 131072
 | [], _, _, _ => by simp [bytesF]
 | _ :: _, [], _, _ => by simp [bytesF]
 | c :: tb, l :: ls, h1, h2 => by
  have ih := bytes_key tb ls (fun c hc => h1 c (by simp [hc])) (fun l hl => h2 l (by simp [hl]))
  simp only [bytesF] at ih
  simp only [bytesF, List.zip_cons_cons, List.map_cons, List.sum_cons, List.length_cons]
  have hc := h1 c (by simp)
  unfold Cls.ok at hc
  have h3 := (h2 l (by simp)).many
  have h4 : c.size * l.os.length <= 512 * 256 := Nat.mul_le_mul (by omega) h3
  omega
theorem bytesF_le (h : CaY σ F Y tb bud ls) (hok : ∀ l ∈ ls, LiOk l) : bytesF tb ls <= 5242880 := by
 have h1 := bytes_key tb ls h.ok hok
 have h2 := h.tb1
 omega
theorem CaY.lok (h : CaY σ F Y tb bud ls) : ∀ l ∈ ls, LiOk l := by
 intro l hl
 obtain ⟨k, hk⟩ := List.getElem?_of_mem hl
 cases hf : lkp Y.ps k with
 | none => rw [h.nil hf hk]; exact LiOk.nil
 | some b =>
  obtain ⟨G, _, hL, _⟩ := h.liS hf hk
  exact hL.2.1
theorem Bytes_ok (h : CaY σ F Y tb bud ls) {R : Int -> Hp -> Prop} (hR : ∀ σ', Ext0 σ σ' -> R ((bytesF tb ls : Nat) : Int) σ') : cache_Cache_Bytes.call (some ⟨Y.p, 0, none⟩) σ R := by
 refine cache_Cache_Bytes.of_vc ?_
 unfold cache_Cache_Bytes.vc
 have hle := bytesF_le h h.lok
 have hT := h.bytes
 refine kmade_ok h (ifF rfl (nilP (h.hd.rM rfl ?_)))
 refine rng1 (a := .i .i64) h.map (fun todo (z : Int) v => ∃ n : Nat, z = (n : Int) /\ n + sumK (byK tb ls) todo = bytesF tb ls /\ (∀ e ∈ todo, e ∈ ptI Y.ps) /\ (todo.map (·.1)).Nodup /\ Ext0 σ v) ?_ ?_ ?_
 ·intro v hz e
  exact ⟨0, rfl, by rw [hT]; omega, fun e he => he, h.map.nodup, e⟩
 ·rintro z v ⟨n, rfl, hs, _, _, e⟩
  simp only [sumK, List.map_nil, List.sum_nil, Nat.add_zero] at hs
  rw [hs]; exact hR v e
 ·rintro todo n x z v v' J ⟨m, rfl, hs, hsub, hnd, e⟩ hx ho hlt hJ
  have e' : Ext0 σ v' := e.only ho (.inr (Nat.le_refl _))
  have h' := h.keep0 e'
  have hmem := hsub _ hx
  simp only [ptI, List.mem_map, Prod.mk.injEq] at hmem
  obtain ⟨⟨k, b⟩, hkb, hk1, hx1⟩ := hmem
  simp only at hk1 hx1
  subst hk1
  subst hx1
  have hk := h.keys _ hkb
  simp only at hk
  have hc : tb[k]? = some tb[k] := List.getElem?_eq_getElem hk
  have hl : ls[k]? = some (ls[k]'(by rw [h.len]; exact hk)) := List.getElem?_eq_getElem _
  generalize tb[k] = c at hc
  generalize (ls[k]'(by rw [h.len]; exact hk)) = l at hl
  have hlk : lkp Y.ps k = some b := lkp_of h.map.nodup hkb
  obtain ⟨G, hG, hL, _⟩ := h'.liS hlk hl
  obtain ⟨_, hok, s, hbk, hss, hcap⟩ := hL
  have hsl : s.len = l.os.length := by have := hss.1; simp [intsI] at this; omega
  have hb : byK tb ls k = c.size * l.os.length := by unfold byK; rw [hc, hl]
  have hdel := sumK_del (byK tb ls) hnd hx
  simp only [Int.toNat_natCast] at hdel
  refine nilP (h'.hd.rS rfl (tab_rd h'.tabS hc (d := 0) (by omega) ?_))
  simp only [if_true]
  refine nilP (hbk.rS rfl ?_)
  have hfin : m + c.size * l.os.length + sumK (byK tb ls) (List.filter (fun y => !(y.1 == (k : Int))) todo) = bytesF tb ls := by
   have h3 := hdel
   rw [hb] at h3
   rw [← hs, h3, Nat.add_assoc]
  refine arN (m := c.size * l.os.length) (by simp only [hsl]; simp) (by omega) (arN (m := m + c.size * l.os.length) (by omega) (by omega) (hJ _ v' rfl rfl ⟨_, rfl, hfin, fun y hy => hsub y (List.mem_filter.1 hy).1, hnd.sublist (List.filter_sublist.map _), e'⟩))
theorem Over_ok (h : CaY σ F Y tb bud ls) {R : Bool -> Hp -> Prop} (hR : ∀ σ', Ext0 σ σ' -> R (decide (bud < bytesF tb ls)) σ') : cache_Cache_Over.call (some ⟨Y.p, 0, none⟩) σ R := by
 refine cache_Cache_Over.of_vc ?_
 unfold cache_Cache_Over.vc
 have e : decide (((bytesF tb ls : Nat) : Int) > (bud : Int)) = decide (bud < bytesF tb ls) := by rw [decide_eq_decide]; omega
 refine Jn.intro (kmade_ok h (ifT rfl (nilP ⟨Bytes_ok h fun σ' e' => (e'.blk h.hd id).rI rfl ?_, h.hd.rI rfl (Bytes_ok h fun σ' e' => ?_)⟩)))
 ·rw [e]; exact hR σ' e'
 ·rw [e]; exact hR σ' e'
def RemOk (f : Cls -> Li -> List Int × Li) (fn : Nat) : Prop := ∀ {σ : Hp} {G : Rg} {b : Nat} {l : Li} {c : Cls}, LiR b l σ G -> c.ok -> ∀ {R : Sl -> Hp -> Prop},
 (∀ s z σ', Ext (· = b) σ σ' -> σ.size <= z -> RowR s 1 (intsI (f c l).1) σ' (fun q => σ.size <= q /\ q < z) -> LiR b (f c l).2 σ' (fun q => q = b ∨ z <= q) -> R s σ') →
 CallF Tryz.prog ⟨fn, #[], #[]⟩ [.pointer (some ⟨b, 0, none⟩), .int .i64 (c.batch : Int)] [.one .s] σ R
theorem drain1_ok : RemOk drainL 175 := by
 intro σ G b l c h hc R hR
 refine callF (all := #[.pointer (some ⟨b, 0, none⟩), .int .i64 (c.batch : Int)]) (by kernel_rfl) (by simp) ?_
 refine cache_Cache_Drain_L1.of_vc ?_
 unfold cache_Cache_Drain_L1.vc
 have hL := h
 obtain ⟨_, hok, s, hbk, hss, hcap⟩ := h
 have hsl : s.len = l.os.length := by have := hss.1; simp [intsI] at this; omega
 refine nilP (hbk.rS rfl ?_)
 simp only [hsl]
 exact koldest_ok hL (Nat.le_refl _) hR
theorem scav1_ok : RemOk scavL 173 := by
 intro σ G b l c h hc R hR
 refine callF (all := #[.pointer (some ⟨b, 0, none⟩), .int .i64 (c.batch : Int)]) (by kernel_rfl) (by simp) ?_
 refine cache_Cache_Scavenge_L1.of_vc ?_
 unfold cache_Cache_Scavenge_L1.vc
 have hL := h
 obtain ⟨_, hok, s, hbk, hss, hcap⟩ := h
 have o1 := hok.low; have o2 := hok.many; have o3 := hok.lim
 have hok' := scavL_ok hc hok
 unfold Cls.ok at hc
 refine nilP (hbk.rI rfl (arN (m := l.low + 1) (by omega) (by omega) (nz (by decide) (arN (m := (l.low + 1) / 2) (by rw [tdiv_nn (by omega)]; omega) (by omega) ?_))))
 refine koldest_ok hL (by omega) fun out z v e hz hr hL1 => ?_
 have hL1' := hL1
 obtain ⟨_, ok1, s1, hb1, hs1, hc1⟩ := hL1
 have hs1l : s1.len = (oldL ((l.low + 1) / 2) l).2.os.length := by have := hs1.1; simp [intsI] at this; omega
 refine Jn.intro ?_
 have rest : ∀ (v1 : Hp) (lim : Nat), Ext (· = b) v v1 -> lim = (if l.lim > c.batch then max (l.lim - c.batch) c.batch else l.lim) -> Blk v1 b (liV s1 { (oldL ((l.low + 1) / 2) l).2 with lim := lim }) →
  NilP (some ⟨b, 0, none⟩) fun a33 => LdS (a33.add 0) v1 fun t35 => NilP (some ⟨b, 0, none⟩) fun a37 => St1 (a37.add 2) (.int .i64 ((t35.len : Nat) : Int)) v1 fun v2 => R out v2 := by
  intro v1 lim e1 hlim hbk1
  refine nilP (hbk1.rS rfl (nilP (hbk1.s1 (by simp [liV]) fun v2 o2 hb2 => ?_)))
  have e2 := e1.trans o2.ext
  have hbl := hb1.lt
  refine hR out z v2 (e.trans e2) hz ((RowR.loc _ _ _).keep hr e2 fun q _ hq he => ?_) ?_
  ·have := hbk.lt; omega
  ·refine ⟨.inl rfl, hok', s1, ?_, (SlR.loc _ _ _).keep hs1 e2 fun q _ hq he => hq.2 he, hc1⟩
   simp only [hs1l] at hb2
   subst hlim
   exact hb2
 refine nilP (hb1.rI rfl ?_)
 refine ifD (fun c1 => ?_) fun c1 => ?_
 ·have c1' : l.lim > c.batch := by simp only [oldL] at c1; omega
  refine nilP (hb1.rI rfl (arN (m := l.lim - c.batch) (by simp only [oldL]; omega) (by omega) (nilP (hb1.s1 (by simp [liV]) fun v1 o1 hbk1 => rest v1 (max (l.lim - c.batch) c.batch) o1.ext (by rw [if_pos c1']) ?_))))
  have : (if (c.batch : Int) > ((l.lim - c.batch : Nat) : Int) then (c.batch : Int) else ((l.lim - c.batch : Nat) : Int)) = ((max (l.lim - c.batch) c.batch : Nat) : Int) := by split <;> omega
  rw [this] at hbk1
  exact hbk1
 ·have c1' : ¬ l.lim > c.batch := by simp only [oldL] at c1; omega
  exact rest v l.lim (Ext.refl _ _) (by rw [if_neg c1']) hb1
end Go.Ar
namespace Go.Ar
open Go Go.Vc Go.Proofs


variable {σ : Hp} {F G : Rg} {Y : LayC} {tb : List Cls} {bud : Nat} {ls : List Li} {b k : Nat} {l : Li} {c : Cls}
def btV (x : Nat × Sl) : List Value := [.int .i64 (x.1 : Int), .slice x.2.a x.2.len x.2.cap]
def btsV (l : List (Nat × Sl)) : List Value := l.flatMap btV
theorem btsV_len (l : List (Nat × Sl)) : (btsV l).length = l.length * 2 := by
 induction l with
 | nil => rfl
 | cons x l ih =>
  have e : btsV (x :: l) = btV x ++ btsV l := rfl
  have e2 : (btV x).length = 2 := rfl
  rw [e, List.length_append, ih, e2, List.length_cons]; omega
theorem btsV_append (a b : List (Nat × Sl)) : btsV (a ++ b) = btsV a ++ btsV b := by simp [btsV]
theorem btsV_one1 {l : List (Nat × Sl)} : ∀ v ∈ btsV l, one1 v = true := by
 intro v hv
 obtain ⟨p, _, hp⟩ := List.mem_flatMap.1 hv
 simp only [btV, List.mem_cons, List.not_mem_nil, or_false] at hp
 rcases hp with rfl | rfl <;> rfl
theorem btsV_get {l : List (Nat × Sl)} {i : Nat} {p : Nat × Sl} (h : l[i]? = some p) {d : Nat} (hd : d < 2) : (btsV l)[2 * i + d]? = (btV p)[d]? := by
 induction l generalizing i with
 | nil => simp at h
 | cons x l ih =>
  have e : btsV (x :: l) = btV x ++ btsV l := rfl
  have e2 : (btV x).length = 2 := rfl
  rw [e]
  cases i with
  | zero =>
   simp at h; subst h
   rw [List.getElem?_append_left (by omega)]; congr 1; omega
  | succ i =>
   rw [List.getElem?_append_right (by omega), e2, show 2 * (i + 1) + d - 2 = 2 * i + d by omega]
   exact ih (by simpa using h)
def BtO (ps : List (Nat × Sl)) (bs : List Bt) (σ : Hp) (D : Rg) : Prop := ps.length = bs.length /\ ∀ (i : Nat) p x, ps[i]? = some p -> bs[i]? = some x -> p.1 = x.1 /\ SlR p.2 1 (intsI x.2) σ D /\ p.2.len <= p.2.cap
theorem BtO.loc (ps : List (Nat × Sl)) (bs : List Bt) : Lcl (BtO ps bs) := fun σ σ' F G h hz hs => ⟨h.1, fun i p x h1 h2 => ⟨(h.2 i p x h1 h2).1, SlR.loc _ _ _ _ _ _ _ (h.2 i p x h1 h2).2.1 hz hs, (h.2 i p x h1 h2).2.2⟩⟩
def Djp (ps : List (Nat × Sl)) : Prop := ps.Pairwise fun p q => ∀ a a', p.2.a = some a -> q.2.a = some a' -> a.block ≠ a'.block
theorem Djp.snoc {ps : List (Nat × Sl)} {bs : List Bt} {σ v : Hp} {D X : Rg} {s : Sl} {xs : List Int} (h : Djp ps) (hB : BtO ps bs σ D) (hne : ∀ x ∈ bs, x.2 ≠ []) (hs : SlR s 1 (intsI xs) v X) (hx : xs ≠ []) (hd : ∀ b, b < σ.size -> D b -> ¬ X b) (k : Nat) : Djp (ps ++ [(k, s)]) := by
 refine List.pairwise_append.2 ⟨h, List.pairwise_singleton _ _, fun p hp q hq => ?_⟩
 rw [List.mem_singleton] at hq; subst hq
 intro a a' h1 h2 e
 obtain ⟨i, hi⟩ := List.getElem?_of_mem hp
 have hil := (List.getElem?_eq_some_iff.1 hi).1
 have hy : bs[i]? = some (bs[i]'(by rw [← hB.1]; exact hil)) := List.getElem?_eq_getElem _
 generalize (bs[i]'(by rw [← hB.1]; exact hil)) = y at hy
 obtain ⟨_, hs1, _⟩ := hB.2 i p y hi hy
 have b1 := hs1.blk (by simpa [intsI] using hne y (List.mem_of_getElem? hy)) ⟨a, h1, rfl⟩
 have b2 := hs.blk (by simpa [intsI] using hx) ⟨a', h2, rfl⟩
 rw [e] at b1
 exact hd _ b1.2 b1.1 b2.1
def BtR (s : Sl) (bs : List Bt) : Hp -> Rg -> Prop := fun σ F => ∃ (ps : List (Nat × Sl)) (D : Rg), RowO s 2 (btsV ps) σ (fun q => F q /\ ¬ D q) /\ BtO ps bs σ D /\ (∀ q, D q -> F q) /\ Djp ps /\ ∀ x ∈ bs, x.2 ≠ []
theorem BtR.loc (s : Sl) (bs : List Bt) : Lcl (BtR s bs) := fun σ σ' F G ⟨ps, D, hr, hB, hD, hj⟩ hz hs =>
 ⟨ps, fun q => D q /\ q < σ.size, RowO.loc _ _ _ _ _ _ _ hr hz fun q hq hf => ⟨⟨(hs q hq hf.1).1, fun hd => hf.2 hd.1⟩, (hs q hq hf.1).2⟩, BtO.loc _ _ _ _ _ _ hB hz fun q hq hd => ⟨⟨hd, hq⟩, (hs q hq (hD q hd)).2⟩, fun q hq => (hs q hq.2 (hD q hq.1)).1, hj⟩
theorem BtR.nil (σ : Hp) (F : Rg) (a : Option Addr) : BtR ⟨a, 0, 0⟩ [] σ F := ⟨[], fun _ => False, RowO.nil _ _ _ _, ⟨rfl, fun i p x h => by simp at h⟩, fun q h => h.elim, List.Pairwise.nil, by simp⟩
theorem BtR.len {s : Sl} {bs : List Bt} (h : BtR s bs σ F) : s.len = bs.length := by
 obtain ⟨ps, D, hr, hB, _⟩ := h
 have := hr.1
 rw [btsV_len] at this
 have := hB.1
 omega
theorem BtR.cap {s : Sl} {bs : List Bt} (h : BtR s bs σ F) : s.len <= s.cap := by
 obtain ⟨ps, D, hr, _⟩ := h
 exact hr.cap
def SortB : Prop := ∀ {σ : Hp} {F : Rg} {s : Sl} {xs : List (Nat × Sl)}, RowR s 2 (btsV xs) σ F -> (∀ x ∈ xs, x.1 < 64) -> xs.length <= 1000 -> ∀ {R : Hp -> Prop},
 (∀ xs' σ', xs'.Perm xs -> xs'.Pairwise (fun a b => a.1 <= b.1) -> Ext F σ σ' -> RowR s 2 (btsV xs') σ' F -> R σ') -> slices_SortFunc_api_Batch_api_Batch.call s ⟨230, #[], #[]⟩ σ R
theorem inc_eq : ∀ {a b : List Nat}, a.Pairwise (· < ·) -> b.Pairwise (· < ·) -> (∀ x, x ∈ a ↔ x ∈ b) -> a = b
 | [], [], _, _, _ => rfl
 | [], y :: b, _, _, h => by have := (h y).2 (by simp); simp at this
 | x :: a, [], _, _, h => by have := (h x).1 (by simp); simp at this
 | x :: a, y :: b, ha, hb, h => by
  rw [List.pairwise_cons] at ha hb
  have e : x = y := by
   rcases List.mem_cons.1 ((h x).1 (by simp)) with h1 | h1
   ·exact h1
   ·rcases List.mem_cons.1 ((h y).2 (by simp)) with h2 | h2
    ·exact h2.symm
    ·have := ha.1 y h2; have := hb.1 x h1; omega
  subst e
  congr 1
  refine inc_eq ha.2 hb.2 fun z => ?_
  have hz := h z
  simp only [List.mem_cons] at hz
  constructor
  ·intro hza
   have := ha.1 z hza
   rcases hz.1 (.inr hza) with h1 | h1
   ·omega
   ·exact h1
  ·intro hzb
   have := hb.1 z hzb
   rcases hz.2 (.inr hzb) with h1 | h1
   ·omega
   ·exact h1
theorem outsF_mem {f : Cls -> Li -> List Int × Li} {x : Bt} : x ∈ outsF f tb ls ↔ ∃ c l, tb[x.1]? = some c /\ ls[x.1]? = some l /\ x.2 = (f c l).1 /\ x.2 ≠ [] := by
 unfold outsF
 rw [List.mem_filterMap]
 constructor
 ·rintro ⟨k, hk, h⟩
  split at h
  ·rename_i c l hc hl
   split at h
   ·cases h
   ·rename_i hne
    cases h
    exact ⟨c, l, hc, hl, rfl, hne⟩
  ·cases h
 ·rintro ⟨c, l, hc, hl, e, hne⟩
  refine ⟨x.1, List.mem_range.2 (List.getElem?_eq_some_iff.1 hc).1, ?_⟩
  rw [hc, hl]
  simp only
  rw [if_neg (by rw [← e]; exact hne), ← e]
theorem outsF_inc {f : Cls -> Li -> List Int × Li} : ((outsF f tb ls).map (·.1)).Pairwise (· < ·) := by
 unfold outsF
 have key : ∀ (n : Nat), (((List.range n).filterMap fun k => match tb[k]?, ls[k]? with
  | some c, some l => if (f c l).1 = [] then none else some ((k, (f c l).1) : Bt)
  | _, _ => none).map (·.1)).Pairwise (· < ·) /\ ∀ x ∈ ((List.range n).filterMap fun k => match tb[k]?, ls[k]? with
  | some c, some l => if (f c l).1 = [] then none else some ((k, (f c l).1) : Bt)
  | _, _ => none), x.1 < n := by
  intro n
  induction n with
  | zero => simp
  | succ n ih =>
   rw [List.range_succ, List.filterMap_append, List.map_append]
   refine ⟨List.pairwise_append.2 ⟨ih.1, ?_, ?_⟩, ?_⟩
   ·simp only [List.filterMap_cons, List.filterMap_nil]
    split <;> simp
   ·intro a ha b hb
    obtain ⟨x, hx, rfl⟩ := List.mem_map.1 ha
    obtain ⟨y, hy, rfl⟩ := List.mem_map.1 hb
    have h1 := ih.2 x hx
    obtain ⟨m, hm, hy2⟩ := List.mem_filterMap.1 hy
    clear hy hb ha
    simp only [List.mem_singleton] at hm
    subst hm
    split at hy2
    ·split at hy2
     ·cases hy2
     ·cases hy2; exact h1
    ·cases hy2
   ·intro x hx
    rcases List.mem_append.1 hx with hx | hx
    ·have := ih.2 x hx; omega
    ·obtain ⟨m, hm, hy⟩ := List.mem_filterMap.1 hx
     simp only [List.mem_singleton] at hm
     subst hm
     split at hy
     ·split at hy
      ·cases hy
      ·cases hy; omega
     ·cases hy
 exact (key tb.length).1
def inT (todo : List (Int × Option Addr)) (k : Nat) : Prop := ((k : Nat) : Int) ∈ todo.map (·.1)
instance (todo : List (Int × Option Addr)) (k : Nat) : Decidable (inT todo k) := by unfold inT; infer_instance
theorem inT_del {todo : List (Int × Option Addr)} {m k : Nat} : inT (todo.filter fun y => !(y.1 == (m : Int))) k ↔ inT todo k /\ k ≠ m := by
 unfold inT
 simp only [List.mem_map, List.mem_filter, Bool.not_eq_true', beq_eq_false_iff_ne]
 constructor
 ·rintro ⟨y, ⟨h1, h2⟩, h3⟩; exact ⟨⟨y, h1, h3⟩, fun e => h2 (by omega)⟩
 ·rintro ⟨⟨y, h1, h3⟩, h2⟩; exact ⟨y, ⟨h1, fun e => h2 (by omega)⟩, h3⟩
structure BtI (f : Cls -> Li -> List Int × Li) (tb : List Cls) (ls : List Li) (todo : List (Int × Option Addr)) (ls' : List Li) (outs : List Bt) : Prop where
 l : ∀ k c l, tb[k]? = some c -> ls[k]? = some l -> ls'[k]? = some (if inT todo k then l else (f c l).2)
 n : (outs.map (·.1)).Nodup
 o : ∀ x : Bt, x ∈ outs ↔ ∃ c l, tb[x.1]? = some c /\ ls[x.1]? = some l /\ ¬ inT todo x.1 /\ x.2 = (f c l).1 /\ x.2 ≠ []
theorem BtI.step {f : Cls -> Li -> List Int × Li} {todo : List (Int × Option Addr)} {ls' : List Li} {outs : List Bt} (h : BtI f tb ls todo ls' outs) (hc : tb[k]? = some c) (hl : ls[k]? = some l) (hk : inT todo k) :
 BtI f tb ls (todo.filter fun y => !(y.1 == (k : Int))) (ls'.set k (f c l).2) (if (f c l).1 = [] then outs else outs ++ [(k, (f c l).1)]) := by
 have hlk := h.l k c l hc hl
 have hlt := (List.getElem?_eq_some_iff.1 hlk).1
 have hno : ∀ x ∈ outs, x.1 ≠ k := fun x hx e => by
  obtain ⟨_, _, _, _, h3, _⟩ := (h.o x).1 hx
  rw [e] at h3; exact h3 hk
 refine ⟨fun j d m hd hm => ?_, ?_, fun x => ?_⟩
 ·by_cases hj : j = k
  ·subst hj
   rw [hc] at hd; cases hd
   rw [hl] at hm; cases hm
   rw [List.getElem?_set_self hlt, if_neg (by rw [inT_del]; exact fun hx => hx.2 rfl)]
  ·rw [List.getElem?_set_ne (Ne.symm hj), h.l j d m hd hm]
   congr 1
   by_cases hi : inT todo j
   ·rw [if_pos hi, if_pos (inT_del.2 ⟨hi, hj⟩)]
   ·rw [if_neg hi, if_neg fun hx => hi (inT_del.1 hx).1]
 ·split
  ·exact h.n
  ·rw [List.map_append, List.nodup_append]
   refine ⟨h.n, by simp, fun a ha b hb e => ?_⟩
   simp only [List.map_cons, List.map_nil, List.mem_singleton] at hb
   subst hb
   obtain ⟨x, hx, e2⟩ := List.mem_map.1 ha
   exact hno x hx (e2.trans e)
 ·have old : (∃ d m, tb[x.1]? = some d /\ ls[x.1]? = some m /\ ¬ inT (todo.filter fun y => !(y.1 == (k : Int))) x.1 /\ x.2 = (f d m).1 /\ x.2 ≠ []) ↔ x ∈ outs ∨ (x = (k, (f c l).1) /\ (f c l).1 ≠ []) := by
   constructor
   ·rintro ⟨d, m, hd, hm, hi, e, hne⟩
    by_cases hj : x.1 = k
    ·right
     rw [hj] at hd hm
     rw [hc] at hd; cases hd
     rw [hl] at hm; cases hm
     exact ⟨Prod.ext hj e, by rw [← e]; exact hne⟩
    ·left
     exact (h.o x).2 ⟨d, m, hd, hm, fun hx => hi (inT_del.2 ⟨hx, hj⟩), e, hne⟩
   ·rintro (hx | ⟨rfl, hne⟩)
    ·obtain ⟨d, m, hd, hm, hi, e, hne⟩ := (h.o x).1 hx
     exact ⟨d, m, hd, hm, fun hy => hi (inT_del.1 hy).1, e, hne⟩
    ·exact ⟨c, l, hc, hl, fun hy => (inT_del.1 hy).2 rfl, rfl, hne⟩
  rw [old]
  split
  ·rename_i he
   constructor
   ·exact .inl
   ·rintro (hx | ⟨_, hne⟩)
    ·exact hx
    ·exact absurd he hne
  ·rename_i he
   rw [List.mem_append, List.mem_singleton]
   constructor
   ·rintro (hx | hx)
    ·exact .inl hx
    ·exact .inr ⟨hx, he⟩
   ·rintro (hx | hx)
    ·exact .inl hx
    ·exact .inr hx.1
set_option maxRecDepth 4000 in
theorem batches_ok (hso : SortB) {f : Cls -> Li -> List Int × Li} {fn : Nat} (hf : RemOk f fn) (hnil : ∀ c, c.ok -> f c liN = ([], liN)) (h : CaY σ F Y tb bud ls) {R : Sl -> Hp -> Prop}
 (hR : ∀ σ' s (Q : Rg), Ext F σ σ' -> (∀ q, Q q -> σ.size <= q) -> CaY σ' (fun q => Grow F σ q /\ ¬ Q q) Y tb bud (leftF f tb ls) -> BtR s (outsF f tb ls) σ' Q -> R s σ') :
 cache_Cache_batches.call (some ⟨Y.p, 0, none⟩) ⟨fn, #[], #[]⟩ σ R := by
 refine cache_Cache_batches.of_vc ?_
 unfold cache_Cache_batches.vc
 refine kmade_ok h (ifF rfl (nilP (h.hd.rM rfl ?_)))
 have htb := h.tb1
 refine rng1 (a := .s) h.map (fun todo (out : Sl) v => ∃ (ls' : List Li) (outs : List Bt) (Q D : Rg) (ps : List (Nat × Sl)), Ext F σ v /\ (∀ q, Q q -> σ.size < q) /\ CaY v (fun q => (Cut F σ q ∨ σ.size < q) /\ ¬ Q q) Y tb bud ls' ∧
  RowR out 2 (btsV ps) v (fun q => Q q /\ ¬ D q) /\ BtO ps outs v D /\ (∀ q, D q -> Q q) /\ BtI f tb ls todo ls' outs /\ (∀ e ∈ todo, e ∈ ptI Y.ps) /\ (todo.map (·.1)).Nodup /\ Djp ps) ?_ ?_ ?_
 ·intro v hz e
  refine ⟨ls, [], fun _ => False, fun _ => False, [], Ext0.to e, fun q hq => hq.elim, ((CaY.loc.keep0 h.cut e).mono fun q _ hq => ⟨.inl hq, id⟩), RowR.nil _ _ _ _, ⟨rfl, fun i p x hp => by simp at hp⟩, fun q hq => hq.elim, ⟨fun k c l hc hl => ?_, by simp, fun x => ?_⟩, fun e he => he, h.map.nodup, List.Pairwise.nil⟩
  ·by_cases hi : inT (ptI Y.ps) k
   ·rw [if_pos hi, hl]
   ·rw [if_neg hi]
    have hf0 : lkp Y.ps k = none := by
     unfold lkp
     simp only [Option.map_eq_none_iff, List.find?_eq_none, beq_iff_eq]
     exact fun x hx e => hi (List.mem_map.2 ⟨((x.1 : Int), some ⟨x.2, 0, none⟩), List.mem_map.2 ⟨x, hx, rfl⟩, by rw [e]⟩)
    have := h.nil hf0 hl
    rw [hl, this, hnil c (h.ok c (List.mem_of_getElem? hc))]
  ·simp only [List.not_mem_nil, false_iff]
   rintro ⟨c, l, hc, hl, hi, e, hne⟩
   have hf0 : lkp Y.ps x.1 = none := by
    unfold lkp
    simp only [Option.map_eq_none_iff, List.find?_eq_none, beq_iff_eq]
    exact fun y hy e => hi (List.mem_map.2 ⟨((y.1 : Int), some ⟨y.2, 0, none⟩), List.mem_map.2 ⟨y, hy, rfl⟩, by rw [e]⟩)
   have := h.nil hf0 hl
   rw [this, hnil c (h.ok c (List.mem_of_getElem? hc))] at e
   exact hne e
 ·rintro out v ⟨ls', outs, Q, D, ps, e, hQ, hC, hrow, hB, hD, hI, _, _, hj⟩
  have hno : ∀ k, ¬ inT [] k := fun k hk => by simp [inT] at hk
  have hls : ls' = leftF f tb ls := by
   apply List.ext_getElem?
   intro k
   by_cases hk : k < tb.length
   ·have hc : tb[k]? = some tb[k] := List.getElem?_eq_getElem hk
    have hl : ls[k]? = some (ls[k]'(by rw [h.len]; exact hk)) := List.getElem?_eq_getElem _
    rw [hI.l k _ _ hc hl, if_neg (hno k)]
    simp [leftF, List.getElem?_zipWith, hc, hl]
   ·rw [List.getElem?_eq_none (by rw [hC.len]; omega), List.getElem?_eq_none (by simp [leftF, h.len]; omega)]
  subst hls
  have hk1 : ∀ (i : Nat) p, ps[i]? = some p -> ∃ x, outs[i]? = some x /\ p.1 = x.1 /\ SlR p.2 1 (intsI x.2) v D /\ p.2.len <= p.2.cap := fun i p hp => by
   have hi := (List.getElem?_eq_some_iff.1 hp).1
   have hx : outs[i]? = some (outs[i]'(by rw [← hB.1]; exact hi)) := List.getElem?_eq_getElem _
   exact ⟨_, hx, hB.2 i p _ hp hx⟩
  have hkeys : ps.map (·.1) = outs.map (·.1) := by
   apply List.ext_getElem?
   intro i
   simp only [List.getElem?_map]
   cases hp : ps[i]? with
   | none =>
    have : outs[i]? = none := by
     rw [List.getElem?_eq_none_iff] at hp ⊢
     rw [← hB.1]; exact hp
    rw [this]; rfl
   | some p =>
    obtain ⟨x, hx, e1, _⟩ := hk1 i p hp
    rw [hx]; simp [e1]
  have hbound : ∀ x ∈ outs, x.1 < 40 := fun x hx => by
   obtain ⟨c, l, hc, _⟩ := (hI.o x).1 hx
   have := (List.getElem?_eq_some_iff.1 hc).1; omega
  have hlen : ps.length <= 40 := by
   have hn := hI.n
   rw [← hkeys] at hn
   have := hn.length_le_of_subset (l₂ := List.range 40) fun j hj => by
    rw [hkeys] at hj
    obtain ⟨x, hx, rfl⟩ := List.mem_map.1 hj
    exact List.mem_range.2 (hbound x hx)
   simpa using this
  refine hso hrow (fun p hp => ?_) (by omega) fun ps' v' hperm hsort e' hrow' => ?_
  ·have : p.1 ∈ outs.map (·.1) := by rw [← hkeys]; exact List.mem_map.2 ⟨p, hp, rfl⟩
   obtain ⟨x, hx, e1⟩ := List.mem_map.1 this
   have := hbound x hx; omega
  ·have hnd : (ps'.map (·.1)).Nodup := (hperm.map _).nodup_iff.2 (by rw [hkeys]; exact hI.n)
   have hinc : (ps'.map (·.1)).Pairwise (· < ·) := by
    refine List.Pairwise.map (R := fun a b : Nat × Sl => a.1 < b.1) _ (fun a b hab => hab) ?_
    have h1 : ps'.Pairwise fun a b => a.1 ≠ b.1 := List.pairwise_map.1 hnd
    exact (hsort.and h1).imp fun {a b} hab => by have := hab.1; have := hab.2; omega
   have hkk : ps'.map (·.1) = (outsF f tb ls).map (·.1) := by
    refine inc_eq hinc outsF_inc fun j => ?_
    rw [(hperm.map _).mem_iff, hkeys]
    constructor
    ·intro hj
     obtain ⟨x, hx, rfl⟩ := List.mem_map.1 hj
     obtain ⟨c, l, hc, hl, _, e1, e2⟩ := (hI.o x).1 hx
     exact List.mem_map.2 ⟨x, outsF_mem.2 ⟨c, l, hc, hl, e1, e2⟩, rfl⟩
    ·intro hj
     obtain ⟨x, hx, rfl⟩ := List.mem_map.1 hj
     obtain ⟨c, l, hc, hl, e1, e2⟩ := outsF_mem.1 hx
     exact List.mem_map.2 ⟨x, (hI.o x).2 ⟨c, l, hc, hl, hno _, e1, e2⟩, rfl⟩
   have eQ : Ext F σ v' := e.newT e' fun q hq => .inr (Nat.le_of_lt (hQ q hq.1))
   refine hR v' out Q eQ (fun q hq => Nat.le_of_lt (hQ q hq)) ?_ ⟨ps', D, hrow'.o, ⟨?_, fun i p x hp hx => ?_⟩, hD, (hperm.pairwise_iff fun {a b} hab x y h1 h2 e => hab y x h2 h1 e.symm).2 hj, fun x hx => by
    obtain ⟨_, _, _, _, _, h2⟩ := outsF_mem.1 hx
    exact h2⟩
   ·refine (CaY.loc.keep hC e' fun q _ hq hq2 => hq.2 hq2.1).mono fun q _ hq => ⟨?_, hq.2⟩
    rcases hq.1 with hx | hx
    ·exact .inl hx.1
    ·exact .inr (Nat.le_of_lt hx)
   ·have := congrArg List.length hkk
    simpa using this
   ·have e1 : p.1 = x.1 := by
     have := congrArg (fun l => l[i]?) hkk
     simp only [List.getElem?_map, hp, hx, Option.map_some, Option.some.injEq] at this
     exact this
    obtain ⟨j, hj⟩ := List.getElem?_of_mem (hperm.mem_iff.1 (List.mem_of_getElem? hp))
    obtain ⟨y, hy, e2, hs, hcap⟩ := hk1 j p hj
    have e3 : x.2 = y.2 := by
     obtain ⟨c, l, hc, hl, _, h1, _⟩ := (hI.o y).1 (List.mem_of_getElem? hy)
     obtain ⟨c', l', hc', hl', h2, _⟩ := outsF_mem.1 (List.mem_of_getElem? hx)
     rw [← e1, e2, hc] at hc'; cases hc'
     rw [← e1, e2, hl] at hl'; cases hl'
     rw [h1, h2]
    rw [e3]
    exact ⟨e1, (SlR.loc _ _ _).keep hs e' fun q _ hq hq2 => hq2.2 hq, hcap⟩
 ·rintro todo n x out v v' J ⟨ls', outs, Q, D, ps, e, hQ, hC, hrow, hB, hD, hI, hsub, hnd, hj⟩ hx ho hlt hJ
  have e1 : Ext F σ v' := e.only ho (.inr (Nat.le_refl _))
  have hC1 : CaY v' (fun q => (Cut F σ q ∨ σ.size < q) /\ ¬ Q q) Y tb bud ls' := CaY.loc.keep hC ho.ext fun q _ hq he => by
   rcases hq.1 with h1 | h1
   ·have := h1.2; omega
   ·omega
  have hrow1 : RowR out 2 (btsV ps) v' (fun q => (Q q /\ ¬ D q) /\ q < v'.size) := (RowR.loc _ _ _).cut ((RowR.loc _ _ _).keep hrow ho.ext fun q _ hq he => by have := hQ q hq.1; omega)
  have hB1 : BtO ps outs v' (fun q => D q /\ q < v'.size) := (BtO.loc _ _).cut ((BtO.loc _ _).keep hB ho.ext fun q _ hq he => by have := hQ q (hD q hq); omega)
  have hmem := hsub _ hx
  simp only [ptI, List.mem_map, Prod.mk.injEq] at hmem
  obtain ⟨⟨k, b⟩, hkb, hk1, hx1⟩ := hmem
  simp only at hk1 hx1
  subst hk1
  subst hx1
  have hk := h.keys _ hkb
  simp only at hk
  have hc : tb[k]? = some tb[k] := List.getElem?_eq_getElem hk
  have hl : ls[k]? = some (ls[k]'(by rw [h.len]; exact hk)) := List.getElem?_eq_getElem _
  generalize tb[k] = c at hc
  generalize (ls[k]'(by rw [h.len]; exact hk)) = l at hl
  have hcok := h.ok c (List.mem_of_getElem? hc)
  have hlk : lkp Y.ps k = some b := lkp_of h.map.nodup hkb
  have hin : inT todo k := List.mem_map.2 ⟨_, hx, rfl⟩
  have hl' : ls'[k]? = some l := by rw [hI.l k c l hc hl, if_pos hin]
  have hstep := hI.step hc hl hin
  have hmF : (fun q => (Cut F σ q ∨ σ.size < q) /\ ¬ Q q) Y.m := by
   obtain ⟨H, hH, hm⟩ := hC1.sep.get .mp
   exact hH _ hm.1
  obtain ⟨G, hG, hL, hGm, hput⟩ := hC1.liS hlk hl'
  have hbF := hG b hL.1
  have hbm : b ≠ Y.m := fun e => hGm (e ▸ hL.1)
  have hbs : b ≠ σ.size := fun e => by
   subst e
   rcases hbF.1 with h1 | h1
   ·have := h1.2; omega
   ·omega
  have hblt : b < v'.size := by obtain ⟨_, _, s, hbk, _⟩ := hL; exact hbk.lt
  have hsz1 := ho.1
  refine nilP (hC1.hd.rS rfl (tab_rd hC1.tabS hc (d := 2) (by omega) ?_))
  simp only [if_neg (show ¬ (2 = 0) by omega), if_neg (show ¬ (2 = 1) by omega)]
  refine hf hL hcok fun s z v5 e5 hz hr hL5 => ?_
  have hs5 := e5.1
  obtain ⟨eF, h5⟩ := hput v5 _ (fun q => q = b ∨ z <= q) (e5.sub fun q hq => by rw [hq]; exact hL.1) (fun q hq => hq.imp (fun (hx : q = b) => by rw [hx]; exact hL.1) fun (hx : z <= q) => by omega) hL5
  have h5 := h5.cut
  have eF5 : Ext F σ v5 := e1.newT eF fun q hq => by
   rcases hq.1 with h1 | h1
   ·exact .inl h1.1
   ·exact .inr (Nat.le_of_lt h1)
  have hnb : ∀ q, Q q -> q ≠ b := fun q hq hqb => hbF.2 (hqb ▸ hq)
  have hrow5 := (RowR.loc _ _ _).keep hrow1 e5 fun q _ hq he => hnb q hq.1.1 he
  have hB5 := (BtO.loc _ _).keep hB1 e5 fun q _ hq he => hnb q (hD q hq.1) he
  have hsl : s.len = (f c l).1.length := by have := hr.1; simp [intsI] at this; omega
  have hsub' : ∀ y ∈ todo.filter (fun y => !(y.1 == (k : Int))), y ∈ ptI Y.ps := fun y hy => hsub y (List.mem_filter.1 hy).1
  have hnd' : ((todo.filter fun y => !(y.1 == (k : Int))).map (·.1)).Nodup := hnd.sublist (List.filter_sublist.map _)
  by_cases hemp : (f c l).1 = []
  ·rw [if_pos hemp] at hstep
   refine ifDF (by rw [hsl, hemp]; simp) (hJ out v5 (e5.2 _ (by omega) fun he => hbs he.symm) (e5.2 _ hC1.map.lt fun he => hbm he.symm) ?_)
   refine ⟨_, outs, fun q => Q q /\ q < v'.size, fun q => D q /\ q < v'.size, ps, eF5, fun q hq => hQ q hq.1, h5.mono fun q _ hq => ?_, (RowR.loc _ _ _).mono hrow5 fun q _ hq => ⟨⟨hq.1.1, hq.2⟩, fun hd => hq.1.2 hd.1⟩, hB5, fun q hq => ⟨hD q hq.1, hq.2⟩, hstep, hsub', hnd', hj⟩
   rcases hq.1 with h1 | h1 | h1
   ·exact ⟨h1.1.1, fun hx => h1.1.2 hx.1⟩
   ·subst h1; exact ⟨hbF.1, fun hx => hbF.2 hx.1⟩
   ·exact ⟨.inr (by omega), fun hx => by omega⟩
  ·rw [if_neg hemp] at hstep
   have hpos := List.length_pos_iff.2 hemp
   refine ifDT (by rw [hsl]; omega) (nw (cs := btV (k, s)) fun v6 hz6 e6 hb6 => ?_)
   have hrow6 := (RowR.loc _ _ _).keep0 hrow5 e6
   have hB6 := (BtO.loc _ _).keep0 hB5 e6
   have hr6 := (RowR.loc _ _ _).keep0 ((RowR.loc _ _ _).cut hr) e6
   have hpl : out.len = ps.length := by have := hrow.1; rw [btsV_len] at this; omega
   have hol : ps.length <= 40 := by
    have hkeys : outs.map (·.1) ⊆ List.range 40 := fun j hj => by
     obtain ⟨x, hx, rfl⟩ := List.mem_map.1 hj
     obtain ⟨c, l, hc, _⟩ := (hI.o x).1 hx
     have := (List.getElem?_eq_some_iff.1 hc).1
     exact List.mem_range.2 (by omega)
    have := hI.n.length_le_of_subset hkeys
    rw [hB.1]; simpa using this
   refine hrow6.app (ys := btV (k, s)) rfl rfl ?_ (fun v hv => btsV_one1 (l := [(k, s)]) v (by simpa [btsV] using hv)) ?_ ?_ Nat.zero_lt_one fun s' v7 hl7 e7 hr7 => ?_
   ·intro j u hu
    rw [add_lit, Nat.zero_add, hb6.cell]; exact hu
   ·simp only
    have : (out.len + 1) * 32 <= 41 * 32 := Nat.mul_le_mul (by omega) (by omega)
    omega
   ·simp only; omega
   have hs7 := e7.1
   have e57 : Ext (fun q => (Q q /\ ¬ D q) /\ q < v'.size) v5 v7 := (Ext0.to e6).trans e7
   refine hJ s' v7 ?_ ?_ ?_
   ·rw [e57.2 _ (by omega) fun hx => by have := hQ _ hx.1.1; omega]
    exact e5.2 _ (by omega) fun he => hbs he.symm
   ·rw [e57.2 _ (by have := hC1.map.lt; omega) fun hx => hmF.2 hx.1.1]
    exact e5.2 _ hC1.map.lt fun he => hbm he.symm
   refine ⟨_, _, fun q => Q q /\ q < v'.size ∨ (v'.size <= q /\ q < z) ∨ v5.size <= q, fun q => D q /\ q < v'.size ∨ (v'.size <= q /\ q < z) /\ q < v5.size, ps ++ [(k, s)], eF5.newT e57 fun q hq => .inr (Nat.le_of_lt (hQ q hq.1.1)), fun q hq => ?_, (CaY.loc.keep h5 e57 fun q hq5 hq hx => ?_).mono fun q _ hq => ?_, ?_, ⟨?_, fun i p y hp hy => ?_⟩, fun q hq => ?_, hstep, hsub', hnd', hj.snoc hB1 (fun x hx => by
    obtain ⟨_, _, _, _, _, _, h2⟩ := (hI.o x).1 hx
    exact h2) hr.slR hemp (fun b hb hx hy => by have := hx.2; have := hy.1; omega) k⟩
   ·rcases hq with hq | hq | hq
    ·exact hQ q hq.1
    ·omega
    ·omega
   ·rcases hq.1 with h1 | h1 | h1
    ·exact h1.1.2 hx.1.1
    ·exact hnb q hx.1.1 h1
    ·have := hx.2; omega
   ·have hq5 := hq.2
    rcases hq.1 with h1 | h1 | h1
    ·exact ⟨h1.1.1, fun hx => by
      rcases hx with hx | hx | hx
      ·exact h1.1.2 hx.1
      ·have := h1.2.1; omega
      ·omega⟩
    ·subst h1
     exact ⟨hbF.1, fun hx => by
      rcases hx with hx | hx | hx
      ·exact hbF.2 hx.1
      ·omega
      ·omega⟩
    ·exact ⟨.inr (by omega), fun hx => by
      rcases hx with hx | hx | hx <;> omega⟩
   ·rw [btsV_append]
    have : btsV [(k, s)] = btV (k, s) := by simp [btsV]
    rw [this]
    refine (RowR.loc _ _ _).mono hr7 fun q _ hq => ?_
    rcases hq with hq | hq
    ·exact ⟨.inl ⟨hq.1.1, hq.2⟩, fun hd => by
      rcases hd with hd | hd
      ·exact hq.1.2 hd.1
      ·omega⟩
    ·exact ⟨.inr (.inr (by omega)), fun hd => by
      rcases hd with hd | hd <;> omega⟩
   ·rw [List.length_append, List.length_append, hB.1]; rfl
   ·rcases Nat.lt_or_ge i ps.length with hi | hi
    ·rw [List.getElem?_append_left hi] at hp
     rw [List.getElem?_append_left (by rw [← hB.1]; exact hi)] at hy
     obtain ⟨a1, a2, a3⟩ := hB6.2 i p y hp hy
     exact ⟨a1, (SlR.loc _ _ _).mono ((SlR.loc _ _ _).keep a2 e7 fun q _ hq hx => hx.1.2 hq.1) fun q _ hq => .inl hq, a3⟩
    ·rw [List.getElem?_append_right hi] at hp
     rw [List.getElem?_append_right (by rw [← hB.1]; exact hi)] at hy
     have hi0 : i - ps.length = 0 := by
      have := (List.getElem?_eq_some_iff.1 hp).1
      simp at this; omega
     rw [hi0] at hp
     rw [show i - outs.length = 0 by rw [← hB.1]; exact hi0] at hy
     simp at hp hy; subst hp; subst hy
     exact ⟨rfl, (SlR.loc _ _ _).mono ((SlR.loc _ _ _).keep hr6.slR e7 fun q _ hq hx => by have := hx.2; have := hq.1; omega) fun q _ hq => .inr hq, RowR.capO hr⟩
   ·rcases hq with hq | hq
    ·exact .inl ⟨hD q hq.1, hq.2⟩
    ·exact .inr (.inl hq.1)
theorem Drain_ok (hso : SortB) (h : CaY σ F Y tb bud ls) {R : Sl -> Hp -> Prop}
 (hR : ∀ σ' s (Q : Rg), Ext F σ σ' -> (∀ q, Q q -> σ.size <= q) -> CaY σ' (fun q => Grow F σ q /\ ¬ Q q) Y tb bud (leftF drainL tb ls) -> BtR s (outsF drainL tb ls) σ' Q -> R s σ') : cache_Cache_Drain.call (some ⟨Y.p, 0, none⟩) σ R := by
 refine cache_Cache_Drain.of_vc ?_
 unfold cache_Cache_Drain.vc
 exact batches_ok hso drain1_ok (fun c _ => drainL_nil c) h hR
theorem Scavenge_ok (hso : SortB) (h : CaY σ F Y tb bud ls) {R : Sl -> Hp -> Prop}
 (hR : ∀ σ' s (Q : Rg), Ext F σ σ' -> (∀ q, Q q -> σ.size <= q) -> CaY σ' (fun q => Grow F σ q /\ ¬ Q q) Y tb bud (leftF scavL tb ls) -> BtR s (outsF scavL tb ls) σ' Q -> R s σ') : cache_Cache_Scavenge.call (some ⟨Y.p, 0, none⟩) σ R := by
 refine cache_Cache_Scavenge.of_vc ?_
 unfold cache_Cache_Scavenge.vc
 exact batches_ok hso scav1_ok scavL_nil h hR
end Go.Ar
namespace Go.Proofs
open Go.Vc

set_option maxRecDepth 100000
def heap_Heap_Usable.hint : Hn := .seq (.o 2) (.seq (.seq (.o 3) (.cond (.seq (.o 2) (.leaf)) (.leaf))) (.seq (.o 12) (.seq (.seq (.o 2) (.cond (.seq (.o 2) (.leaf)) (.leaf))) (.seq (.o 4) (.leaf)))))
def heap_Heap_Usable.vc (vh : Option Addr) (addr : Int) (σ : Hp) (R : Int -> Int -> Hp -> Prop) : Prop :=
 heap_Heap_made.call vh σ fun t9 v =>
 If (!t9) (R 0 5 v)
 (NilP vh fun a13 =>
 LdM (a13.add 9) v fun t15 =>
 Lk .i64 (.ag 4) t15 addr v fun t17 =>
 Nw (.cells #[.int .i64 0, .int .i64 0, .int .i64 0, .int .i64 0] 65 (0, 0)) v fun n6 v1 =>
 St1 (n6.add 0) (.int .i64 ((t17.getD (0, 0, 0, 0)).1)) v1 fun v2 =>
 St1 (n6.add 1) (.int .i64 ((t17.getD (0, 0, 0, 0)).2.1)) v2 fun v3 =>
 St1 (n6.add 2) (.int .i64 ((t17.getD (0, 0, 0, 0)).2.2.1)) v3 fun v4 =>
 St1 (n6.add 3) (.int .i64 ((t17.getD (0, 0, 0, 0)).2.2.2)) v4 fun v5 =>
 If (!t17.isSome) (R 0 8 v5)
 (LdI .i64 (n6.add 1) v5 fun t23 =>
 R t23 0 v5))
theorem heap_Heap_Usable.of_vc {vh : Option Addr} {addr : Int} {σ : Hp} {R : Int -> Int -> Hp -> Prop} (hv : heap_Heap_Usable.vc vh addr σ R) : heap_Heap_Usable.call vh addr σ R :=
 fnK_sound Tryz.func23 (x := heap_Heap_Usable.hint) (args := [.pointer vh, .int .i64 addr]) (rs := [.one (.i .i64), .one (.i .i64)]) (R := R) (Eq.mpr (by kernel_rfl) hv)
def heap_Heap_Malloc.hint : Hn := .seq (.o 2) (.seq (.o 10) (.leaf))
def heap_Heap_Malloc.vc (vh : Option Addr) (thread : Int) (size : Int) (align : Int) (σ : Hp) (R : Int -> Int -> Hp -> Prop) : Prop :=
 heap_Heap_whole.call vh thread 0 size align 0 σ fun t15 t151 v =>
 R t15 t151 v
theorem heap_Heap_Malloc.of_vc {vh : Option Addr} {thread : Int} {size : Int} {align : Int} {σ : Hp} {R : Int -> Int -> Hp -> Prop} (hv : heap_Heap_Malloc.vc vh thread size align σ R) : heap_Heap_Malloc.call vh thread size align σ R :=
 fnK_sound Tryz.func25 (x := heap_Heap_Malloc.hint) (args := [.pointer vh, .int .i64 thread, .int .i64 size, .int .i64 align]) (rs := [.one (.i .i64), .one (.i .i64)]) (R := R) (Eq.mpr (by kernel_rfl) hv)
def heap_Heap_Read.hint : Hn := .seq (.o 2) (.seq (.o 8) (.leaf))
def heap_Heap_Read.vc (vh : Option Addr) (addr : Int) (σ : Hp) (R : Int -> Int -> Hp -> Prop) : Prop :=
 heap_Heap_Space.call vh σ fun t7 v =>
 space_Space_Read.call t7 addr v fun t9 t91 v1 =>
 R t9 t91 v1
theorem heap_Heap_Read.of_vc {vh : Option Addr} {addr : Int} {σ : Hp} {R : Int -> Int -> Hp -> Prop} (hv : heap_Heap_Read.vc vh addr σ R) : heap_Heap_Read.call vh addr σ R :=
 fnK_sound Tryz.func35 (x := heap_Heap_Read.hint) (args := [.pointer vh, .int .i64 addr]) (rs := [.one (.i .i64), .one (.i .i64)]) (R := R) (Eq.mpr (by kernel_rfl) hv)
def heap_Heap_Table.hint : Hn := .seq (.o 1) (.seq (.seq (.o 3) (.cond (.seq (.o 1) (.leaf)) (.leaf))) (.seq (.o 6) (.leaf)))
def heap_Heap_Table.vc (vh : Option Addr) (σ : Hp) (R : Sl -> Hp -> Prop) : Prop :=
 heap_Heap_made.call vh σ fun t4 v =>
 If (!t4) (R ⟨none, 0, 0⟩ v)
 (NilP vh fun a7 =>
 LdS (a7.add 0) v fun t9 =>
 slices_Clone_api_Class_api_Class.call t9 v fun t10 v1 =>
 R t10 v1)
theorem heap_Heap_Table.of_vc {vh : Option Addr} {σ : Hp} {R : Sl -> Hp -> Prop} (hv : heap_Heap_Table.vc vh σ R) : heap_Heap_Table.call vh σ R :=
 fnK_sound Tryz.func37 (x := heap_Heap_Table.hint) (args := [.pointer vh]) (rs := [.one .s]) (R := R) (Eq.mpr (by kernel_rfl) hv)
def heap_Heap_Free.hint : Hn := .seq (.o 1) (.seq (.o 10) (.seq (.o 2) (.leaf)))
def heap_Heap_Free.vc (vh : Option Addr) (thread : Int) (addr : Int) (σ : Hp) (R : Int -> Hp -> Prop) : Prop :=
 heap_Heap_whole.call vh thread 1 0 0 addr σ fun t14 t141 v =>
 R t141 v
theorem heap_Heap_Free.of_vc {vh : Option Addr} {thread : Int} {addr : Int} {σ : Hp} {R : Int -> Hp -> Prop} (hv : heap_Heap_Free.vc vh thread addr σ R) : heap_Heap_Free.call vh thread addr σ R :=
 fnK_sound Tryz.func39 (x := heap_Heap_Free.hint) (args := [.pointer vh, .int .i64 thread, .int .i64 addr]) (rs := [.one (.i .i64)]) (R := R) (Eq.mpr (by kernel_rfl) hv)
def heap_Heap_Write.hint : Hn := .seq (.o 1) (.seq (.o 6) (.leaf))
def heap_Heap_Write.vc (vh : Option Addr) (addr : Int) (value : Int) (σ : Hp) (R : Int -> Hp -> Prop) : Prop :=
 heap_Heap_Space.call vh σ fun t8 v =>
 space_Space_Write.call t8 addr value v fun t11 v1 =>
 R t11 v1
theorem heap_Heap_Write.of_vc {vh : Option Addr} {addr : Int} {value : Int} {σ : Hp} {R : Int -> Hp -> Prop} (hv : heap_Heap_Write.vc vh addr value σ R) : heap_Heap_Write.call vh addr value σ R :=
 fnK_sound Tryz.func42 (x := heap_Heap_Write.hint) (args := [.pointer vh, .int .i64 addr, .int .i64 value]) (rs := [.one (.i .i64)]) (R := R) (Eq.mpr (by kernel_rfl) hv)
def heap_Heap_Config.hint : Hn := .seq (.o 1) (.seq (.seq (.o 3) (.cond (.seq (.o 2) (.leaf)) (.leaf))) (.seq (.o 5) (.leaf)))
def heap_Heap_Config.vc (vh : Option Addr) (σ : Hp) (R : Int -> Int -> Int -> Int -> Int -> Hp -> Prop) : Prop :=
 Nw (.cells #[.int .i64 0, .int .i64 0, .int .i64 0, .int .i64 0, .int .i64 0] 26 (0, 0)) σ fun n2 v =>
 heap_Heap_made.call vh v fun t4 v1 =>
 If (!t4) (St1 (n2.add 0) (.int .i64 0) v1 fun v2 =>
 St1 (n2.add 1) (.int .i64 0) v2 fun v3 =>
 St1 (n2.add 2) (.int .i64 0) v3 fun v4 =>
 St1 (n2.add 3) (.int .i64 0) v4 fun v5 =>
 St1 (n2.add 4) (.int .i64 0) v5 fun v6 =>
 LdI .i64 (n2.add 0) v6 fun res =>
 LdI .i64 (n2.add 1) v6 fun res1 =>
 LdI .i64 (n2.add 2) v6 fun res2 =>
 LdI .i64 (n2.add 3) v6 fun res3 =>
 LdI .i64 (n2.add 4) v6 fun res4 =>
 R res res1 res2 res3 res4 v6)
 (NilP vh fun a8 =>
 LdI .i64 ((a8.add 1).add 0) v1 fun t10 =>
 LdI .i64 ((a8.add 1).add 1) v1 fun t101 =>
 LdI .i64 ((a8.add 1).add 2) v1 fun t102 =>
 LdI .i64 ((a8.add 1).add 3) v1 fun t103 =>
 LdI .i64 ((a8.add 1).add 4) v1 fun t104 =>
 St1 (n2.add 0) (.int .i64 t10) v1 fun v7 =>
 St1 (n2.add 1) (.int .i64 t101) v7 fun v8 =>
 St1 (n2.add 2) (.int .i64 t102) v8 fun v9 =>
 St1 (n2.add 3) (.int .i64 t103) v9 fun v10 =>
 St1 (n2.add 4) (.int .i64 t104) v10 fun v11 =>
 LdI .i64 (n2.add 0) v11 fun res5 =>
 LdI .i64 (n2.add 1) v11 fun res6 =>
 LdI .i64 (n2.add 2) v11 fun res7 =>
 LdI .i64 (n2.add 3) v11 fun res8 =>
 LdI .i64 (n2.add 4) v11 fun res9 =>
 R res5 res6 res7 res8 res9 v11)
theorem heap_Heap_Config.of_vc {vh : Option Addr} {σ : Hp} {R : Int -> Int -> Int -> Int -> Int -> Hp -> Prop} (hv : heap_Heap_Config.vc vh σ R) : heap_Heap_Config.call vh σ R :=
 fnK_sound Tryz.func48 (x := heap_Heap_Config.hint) (args := [.pointer vh]) (rs := [.agg [(.i .i64), (.i .i64), (.i .i64), (.i .i64), (.i .i64)]]) (R := R) (Eq.mpr (by kernel_rfl) hv)
def heap_Heap_Phase.hint : Hn := .seq (.o 1) (.seq (.seq (.reg (.seq [.op, .op, .op, .op, .grd false 4 [.op, .op, .op, .op], .op, .grd false 9 [.op, .op, .op, .op, .op, .op, .op, .op, .op]])) (.cond (.seq (.o 1) (.leaf)) (.leaf))) (.seq (.o 10) (.leaf)))
def heap_Heap_Phase.vc (vh : Option Addr) (thread : Int) (σ : Hp) (R : ByteArray -> Hp -> Prop) : Prop :=
 heap_Heap_made.call vh σ fun t6 v =>
 JnB (fun r v1 =>
 JnB (fun r1 v2 =>
 If r1 (R (ByteArray.mk #[]) v2)
 (NilP vh fun a26 =>
 LdS (a26.add 8) v2 fun t28 =>
 Ix t28.a t28.len thread 3 fun a30 =>
 LdR (a30.add 2) v2 fun t32 =>
 InvK Tryz.prog t32 "freehold/heap.name" [] [.one .str] v2 fun t33 v3 =>
 R t33 v3)) fun J1 =>
 If r (J1 true v1)
 (NilP vh fun a16 =>
 LdS (a16.add 8) v1 fun t18 =>
 Ix t18.a t18.len thread 3 fun a20 =>
 LdR (a20.add 2) v1 fun t22 =>
 And (IsIf t22) <|
 J1 (nilI t22) v1)) fun J =>
 If (!t6) (J true v)
 (heap_Heap_there.call vh thread v fun t11 v4 =>
 J (!t11) v4)
theorem heap_Heap_Phase.of_vc {vh : Option Addr} {thread : Int} {σ : Hp} {R : ByteArray -> Hp -> Prop} (hv : heap_Heap_Phase.vc vh thread σ R) : heap_Heap_Phase.call vh thread σ R :=
 fnK_sound Tryz.func49 (x := heap_Heap_Phase.hint) (args := [.pointer vh, .int .i64 thread]) (rs := [.one .str]) (R := R) (Eq.mpr (by kernel_rfl) hv)
def heap_Heap_made.hint : Hn := .seq (.o 1) (.seq (.reg (.seq [.op, .op, .op, .grd true 6 [.op, .op, .op, .op, .op, .op], .op])) (.leaf))
def heap_Heap_made.vc (vh : Option Addr) (σ : Hp) (R : Bool -> Hp -> Prop) : Prop :=
 JnB (fun r v =>
 R r v) fun J =>
 If (!vh.isNone) (NilP vh fun a7 =>
 LdS (a7.add 8) σ fun t9 =>
 J (decide (((t9.len : Nat) : Int) > 0)) σ)
 (J false σ)
theorem heap_Heap_made.of_vc {vh : Option Addr} {σ : Hp} {R : Bool -> Hp -> Prop} (hv : heap_Heap_made.vc vh σ R) : heap_Heap_made.call vh σ R :=
 fnK_sound Tryz.func50 (x := heap_Heap_made.hint) (args := [.pointer vh]) (rs := [.one .b]) (R := R) (Eq.mpr (by kernel_rfl) hv)
def heap_Heap_Start.hint : Hn := .seq (.o 2) (.seq (.block (.seq (.o 4) (.cond (.seq (.o 1) (.leaf)) (.seq (.o 5) (.cond (.seq (.o 1) (.leaf)) (.seq (.o 10) (.cond (.seq (.o 1) (.leaf)) (.leaf)))))))) (.seq (.o 4) (.seq (.seq (.o 2) (.cond (.seq (.o 1) (.leaf)) (.leaf))) (.seq (.o 9) (.seq (.o 1) (.leaf))))))
def heap_Heap_Start.vc (vh : Option Addr) (thread : Int) (op : Int) (op1 : Int) (op2 : Int) (op3 : Int) (σ : Hp) (R : Int -> Hp -> Prop) : Prop :=
 Nw (.cells #[.int .i64 op, .int .i64 op1, .int .i64 op2, .int .i64 op3] 95 (0, 0)) σ fun n5 v =>
 heap_Heap_made.call vh v fun t10 v1 =>
 If (!t10) (R 5 v1)
 (heap_Heap_there.call vh thread v1 fun t15 v2 =>
 If (!t15) (R 1 v2)
 (NilP vh fun a19 =>
 LdS (a19.add 8) v2 fun t21 =>
 Ix t21.a t21.len thread 3 fun a23 =>
 LdR (a23.add 2) v2 fun t25 =>
 And (IsIf t25) <|
 If (!(nilI t25)) (R 5 v2)
 (LdI .i64 (n5.add 0) v2 fun t28 =>
 LdI .i64 (n5.add 1) v2 fun t281 =>
 LdI .i64 (n5.add 2) v2 fun t282 =>
 LdI .i64 (n5.add 3) v2 fun t283 =>
 heap_Heap_request.call vh t28 t281 t282 t283 v2 fun p v3 =>
 And (IsIf p) <|
 If (nilI p) (R 1 v3)
 (NilP vh fun a33 =>
 LdS (a33.add 8) v3 fun t35 =>
 Ix t35.a t35.len thread 3 fun a38 =>
 And (IsIf p) <|
 St1 (a38.add 2) (p) v3 fun v4 =>
 R 0 v4))))
theorem heap_Heap_Start.of_vc {vh : Option Addr} {thread : Int} {op : Int} {op1 : Int} {op2 : Int} {op3 : Int} {σ : Hp} {R : Int -> Hp -> Prop} (hv : heap_Heap_Start.vc vh thread op op1 op2 op3 σ R) : heap_Heap_Start.call vh thread op op1 op2 op3 σ R :=
 fnK_sound Tryz.func52 (x := heap_Heap_Start.hint) (args := [.pointer vh, .int .i64 thread, .agg #[.int .i64 op, .int .i64 op1, .int .i64 op2, .int .i64 op3]]) (rs := [.one (.i .i64)]) (R := R) (Eq.mpr (by kernel_rfl) hv)
def heap_Heap_Step.hint : Hn := .seq (.o 3) (.seq (.block (.seq (.o 4) (.cond (.seq (.o 4) (.leaf)) (.seq (.o 5) (.cond (.seq (.o 4) (.leaf)) (.seq (.o 10) (.cond (.seq (.o 4) (.leaf)) (.leaf)))))))) (.seq (.o 17) (.seq (.o 9) (.seq (.reg (.tail 4 [.op, .op, .op, .op] [.op, .op])) (.leaf)))))
def heap_Heap_Step.vc (vh : Option Addr) (thread : Int) (σ : Hp) (R : Bool -> Int -> Int -> Int -> Hp -> Prop) : Prop :=
 Nw (.cells #[.int .i64 0, .int .i64 0] 97 (0, 0)) σ fun n5 v =>
 heap_Heap_made.call vh v fun t11 v1 =>
 If (!t11) (St1 (n5.add 0) (.int .i64 0) v1 fun v2 =>
 St1 (n5.add 1) (.int .i64 0) v2 fun v3 =>
 LdI .i64 (n5.add 0) v3 fun res =>
 LdI .i64 (n5.add 1) v3 fun res1 =>
 R false res res1 5 v3)
 (heap_Heap_there.call vh thread v1 fun t17 v4 =>
 If (!t17) (St1 (n5.add 0) (.int .i64 0) v4 fun v5 =>
 St1 (n5.add 1) (.int .i64 0) v5 fun v6 =>
 LdI .i64 (n5.add 0) v6 fun res2 =>
 LdI .i64 (n5.add 1) v6 fun res3 =>
 R false res2 res3 1 v6)
 (NilP vh fun a22 =>
 LdS (a22.add 8) v4 fun t24 =>
 Ix t24.a t24.len thread 3 fun a26 =>
 LdR (a26.add 2) v4 fun t28 =>
 And (IsIf t28) <|
 If (nilI t28) (St1 (n5.add 0) (.int .i64 0) v4 fun v7 =>
 St1 (n5.add 1) (.int .i64 0) v7 fun v8 =>
 LdI .i64 (n5.add 0) v8 fun res4 =>
 LdI .i64 (n5.add 1) v8 fun res5 =>
 R false res4 res5 5 v8)
 (NilP vh fun a35 =>
 LdS (a35.add 8) v4 fun t37 =>
 Ix t37.a t37.len thread 3 fun a39 =>
 LdR (a39.add 2) v4 fun t41 =>
 heap_Heap_step.call vh thread (t41) v4 fun t42 t421 t422 v9 =>
 Nw (.cells #[.int .i64 0, .int .i64 0] 97 (0, 0)) v9 fun n8 v10 =>
 St1 (n8.add 0) (.int .i64 t421) v10 fun v11 =>
 St1 (n8.add 1) (.int .i64 t422) v11 fun v12 =>
 NilP vh fun a46 =>
 LdS (a46.add 8) v12 fun t48 =>
 Ix t48.a t48.len thread 3 fun a51 =>
 And (IsIf t42) <|
 St1 (a51.add 2) (t42) v12 fun v13 =>
 And (IsIf t42) <|
 LdI .i64 (n8.add 0) v13 fun t55 =>
 LdI .i64 (n8.add 1) v13 fun t551 =>
 St1 (n5.add 0) (.int .i64 t55) v13 fun v14 =>
 St1 (n5.add 1) (.int .i64 t551) v14 fun v15 =>
 LdI .i64 (n5.add 0) v15 fun res6 =>
 LdI .i64 (n5.add 1) v15 fun res7 =>
 R (nilI t42) res6 res7 0 v15)))
theorem heap_Heap_Step.of_vc {vh : Option Addr} {thread : Int} {σ : Hp} {R : Bool -> Int -> Int -> Int -> Hp -> Prop} (hv : heap_Heap_Step.vc vh thread σ R) : heap_Heap_Step.call vh thread σ R :=
 fnK_sound Tryz.func53 (x := heap_Heap_Step.hint) (args := [.pointer vh, .int .i64 thread]) (rs := [.one .b, .agg [(.i .i64), (.i .i64)], .one (.i .i64)]) (R := R) (Eq.mpr (by kernel_rfl) hv)
def heap_Heap_whole.hint : Hn := .seq (.o 3) (.seq (.seq (.o 5) (.seq (.o 2) (.cond (.seq (.o 3) (.leaf)) (.leaf)))) (.block (.loop [] (.block (.seq (.o 11) (.seq (.o 1) (.cond (.seq (.oq 6) (.leaf)) (.leaf))))))))
def heap_Heap_whole.vc (vh : Option Addr) (thread : Int) (op : Int) (op1 : Int) (op2 : Int) (op3 : Int) (σ : Hp) (R : Int -> Int -> Hp -> Prop) : Prop :=
 Nw (.cells #[.int .i64 op, .int .i64 op1, .int .i64 op2, .int .i64 op3] 95 (0, 0)) σ fun n5 v =>
 LdI .i64 (n5.add 0) v fun t14 =>
 LdI .i64 (n5.add 1) v fun t141 =>
 LdI .i64 (n5.add 2) v fun t142 =>
 LdI .i64 (n5.add 3) v fun t143 =>
 heap_Heap_Start.call vh thread t14 t141 t142 t143 v fun ve v1 =>
 If (ve != 0) (R 0 ve v1)
 (LoopK [] (fun I => I v1) fun J v2 =>
 heap_Heap_Step.call vh thread v2 fun t22 t221 t222 t223 v3 =>
 Nw (.cells #[.int .i64 0, .int .i64 0] 97 (0, 0)) v3 fun n10 v4 =>
 St1 (n10.add 0) (.int .i64 t221) v4 fun v5 =>
 St1 (n10.add 1) (.int .i64 t222) v5 fun v6 =>
 If t22 (LdI .i64 (n10.add 0) v6 fun t28 =>
 LdI .i64 (n10.add 1) v6 fun t30 =>
 R t28 t30 v6)
 (J v6))
theorem heap_Heap_whole.of_vc {vh : Option Addr} {thread : Int} {op : Int} {op1 : Int} {op2 : Int} {op3 : Int} {σ : Hp} {R : Int -> Int -> Hp -> Prop} (hv : heap_Heap_whole.vc vh thread op op1 op2 op3 σ R) : heap_Heap_whole.call vh thread op op1 op2 op3 σ R :=
 fnK_sound Tryz.func57 (x := heap_Heap_whole.hint) (args := [.pointer vh, .int .i64 thread, .agg #[.int .i64 op, .int .i64 op1, .int .i64 op2, .int .i64 op3]]) (rs := [.one (.i .i64), .one (.i .i64)]) (R := R) (Eq.mpr (by kernel_rfl) hv)
def heap_Heap_Space.hint : Hn := .seq (.o 1) (.seq (.seq (.o 3) (.cond (.seq (.o 1) (.leaf)) (.leaf))) (.seq (.o 5) (.leaf)))
def heap_Heap_Space.vc (vh : Option Addr) (σ : Hp) (R : Option Addr -> Hp -> Prop) : Prop :=
 heap_Heap_made.call vh σ fun t4 v =>
 If (!t4) (R none v)
 (NilP vh fun a7 =>
 LdP (a7.add 6) v fun t9 =>
 R t9 v)
theorem heap_Heap_Space.of_vc {vh : Option Addr} {σ : Hp} {R : Option Addr -> Hp -> Prop} (hv : heap_Heap_Space.vc vh σ R) : heap_Heap_Space.call vh σ R :=
 fnK_sound Tryz.func66 (x := heap_Heap_Space.hint) (args := [.pointer vh]) (rs := [.one .p]) (R := R) (Eq.mpr (by kernel_rfl) hv)
def heap_New.hint : Hn := .seq (.o 3) (.seq (.block (.seq (.o 4) (.cond (.seq (.o 2) (.leaf)) (.seq (.o 4) (.cond (.seq (.o 2) (.leaf)) (.leaf)))))) (.seq (.reg (.heldJ true [] [(6, .one .p)] (.take 0 (.take 2 (.all [(1, .all [(3, .take 4 (.all [(5, .take 6 (.done))]))]), (3, .all [(1, .take 4 (.all [(5, .take 6 (.done))]))])]))))) (.seq (.o 10) (.seq (.seq (.o 3) (.block (.loop [(36, .one (.i .i64))] (.seq (.o 1) (.seq (.cond (.leaf) (.leaf)) (.seq (.block (.seq (.reg (.held true [7] (.take 0 (.take 1 (.take 2 (.take 3 (.take 4 (.take 5 (.take 6 (.all [(7, .take 8 (.take 9 (.take 10 (.take 11 (.take 12 (.done))))))])))))))))) (.o 11))) (.o 2))))))) (.seq (.seq (.o 3) (.block (.loop [(62, .one (.i .i64))] (.seq (.o 1) (.seq (.cond (.leaf) (.leaf)) (.seq (.block (.seq (.o 9) (.o 12))) (.o 2))))))) (.seq (.o 3) (.leaf)))))))
def heap_New.vc (table : Sl) (cfg : Int) (cfg1 : Int) (cfg2 : Int) (cfg3 : Int) (cfg4 : Int) (σ : Hp) (R : Option Addr -> Int -> Hp -> Prop) : Prop :=
 Nw (.cells #[.int .i64 cfg, .int .i64 cfg1, .int .i64 cfg2, .int .i64 cfg3, .int .i64 cfg4] 26 (0, 0)) σ fun n3 v =>
 sizes_Valid.call table v fun t13 v1 =>
 If (!t13) (R none 2 v1)
 (LdI .i64 (n3.add 0) v1 fun t16 =>
 LdI .i64 (n3.add 1) v1 fun t161 =>
 LdI .i64 (n3.add 2) v1 fun t162 =>
 LdI .i64 (n3.add 3) v1 fun t163 =>
 LdI .i64 (n3.add 4) v1 fun t164 =>
 heap_valid.call t16 t161 t162 t163 t164 v1 fun t17 v2 =>
 If (!t17) (R none 1 v2)
 (Jn [.p] (fun (vh : Option Addr) v3 =>
 LdI .i64 (n3.add 0) v3 fun t28 =>
 space_New.call t28 v3 fun t29 t291 v4 =>
 NilP vh fun a32 =>
 St1 (a32.add 6) (.pointer t29) v4 fun v5 =>
 LdI .i64 (n3.add 1) v5 fun t35 =>
 LoopK [(.i .i64)] (fun I => I 0 v5) fun J1 (t36 : Int) v6 =>
 If (decide (t36 < t35)) (Held v6 fun S1 =>
 NilP vh fun a41 =>
 LdH S1 .p (a41.add 6) fun (t43 : Option Addr) =>
 LdH S1 (.i .i64) (n3.add 4) fun (t45 : Int) =>
 arena_New.call table t43 t45 v6 fun t46 t461 v7 =>
 NilP vh fun a51 =>
 LdS (a51.add 7) v7 fun t53 =>
 Nw (.cells #[.pointer t46] 109 (0, 0)) v7 fun n55 v8 =>
 App t53 1 8 109 [.pointer none] ⟨(some n55), 1, 1⟩ v8 fun t56 v9 =>
 NilP vh fun a57 =>
 St1 (a57.add 7) (.slice t56.a t56.len t56.cap) v9 fun v10 =>
 Ar .i64 (t36 + 1) fun t59 =>
 J1 t59 v10)
 (LdI .i64 (n3.add 2) v6 fun t61 =>
 LoopK [(.i .i64)] (fun I1 => I1 0 v6) fun J2 (t62 : Int) v11 =>
 If (decide (t62 < t61)) (LdI .i64 (n3.add 3) v11 fun t67 =>
 cache_New.call table t67 v11 fun t68 t681 v12 =>
 NilP vh fun a73 =>
 LdS (a73.add 8) v12 fun t75 =>
 Nw (.cells #[.pointer t68, .slice none 0 0, .nilIface] 116 (0, 0)) v12 fun n78 v13 =>
 App t75 3 48 116 [.pointer none, .slice none 0 0, .nilIface] ⟨(some n78), 1, 1⟩ v13 fun t79 v14 =>
 NilP vh fun a80 =>
 St1 (a80.add 8) (.slice t79.a t79.len t79.cap) v14 fun v15 =>
 Ar .i64 (t62 + 1) fun t82 =>
 J2 t82 v15)
 (R vh 0 v11))) fun J =>
 Held v2 fun S =>
 LdH S (.i .i64) (n3.add 0) fun (t21 : Int) =>
 LdH S (.i .i64) (n3.add 1) fun (t211 : Int) =>
 LdH S (.i .i64) (n3.add 2) fun (t212 : Int) =>
 LdH S (.i .i64) (n3.add 3) fun (t213 : Int) =>
 LdH S (.i .i64) (n3.add 4) fun (t214 : Int) =>
 (slices_Clone_api_Class_api_Class.call table v2 fun t20 v16 =>
 And (S v16) <|
 Nw (.map #[] 0) v16 fun n22 v17 =>
 And (S v17) <|
 Nw (.cells #[.slice t20.a t20.len t20.cap, .int .i64 t21, .int .i64 t211, .int .i64 t212, .int .i64 t213, .int .i64 t214, .pointer none, .slice none 0 0, .slice none 0 0, .map (some n22.block)] 32 (0, 0)) v17 fun n24 v18 =>
 And (S v18) <|
 J (some n24) v18) ∧
 (Nw (.map #[] 0) v2 fun n221 v19 =>
 And (S v19) <|
 slices_Clone_api_Class_api_Class.call table v19 fun t201 v20 =>
 And (S v20) <|
 Nw (.cells #[.slice t201.a t201.len t201.cap, .int .i64 t21, .int .i64 t211, .int .i64 t212, .int .i64 t213, .int .i64 t214, .pointer none, .slice none 0 0, .slice none 0 0, .map (some n221.block)] 32 (0, 0)) v20 fun n241 v21 =>
 And (S v21) <|
 J (some n241) v21)))
theorem heap_New.of_vc {table : Sl} {cfg : Int} {cfg1 : Int} {cfg2 : Int} {cfg3 : Int} {cfg4 : Int} {σ : Hp} {R : Option Addr -> Int -> Hp -> Prop} (hv : heap_New.vc table cfg cfg1 cfg2 cfg3 cfg4 σ R) : heap_New.call table cfg cfg1 cfg2 cfg3 cfg4 σ R :=
 fnK_sound Tryz.func76 (x := heap_New.hint) (args := [.slice table.a table.len table.cap, .agg #[.int .i64 cfg, .int .i64 cfg1, .int .i64 cfg2, .int .i64 cfg3, .int .i64 cfg4]]) (rs := [.one .p, .one (.i .i64)]) (R := R) (Eq.mpr (by kernel_rfl) hv)
def heap_Heap_there.hint : Hn := .seq (.o 1) (.seq (.reg (.seq [.op, .op, .op, .grd true 7 [.op, .op, .op, .op, .op, .op, .op], .op])) (.leaf))
def heap_Heap_there.vc (vh : Option Addr) (thread : Int) (σ : Hp) (R : Bool -> Hp -> Prop) : Prop :=
 JnB (fun r v =>
 R r v) fun J =>
 If (decide (thread ≥ 0)) (NilP vh fun a10 =>
 LdS (a10.add 8) σ fun t12 =>
 J (decide (thread < ((t12.len : Nat) : Int))) σ)
 (J false σ)
theorem heap_Heap_there.of_vc {vh : Option Addr} {thread : Int} {σ : Hp} {R : Bool -> Hp -> Prop} (hv : heap_Heap_there.vc vh thread σ R) : heap_Heap_there.call vh thread σ R :=
 fnK_sound Tryz.func77 (x := heap_Heap_there.hint) (args := [.pointer vh, .int .i64 thread]) (rs := [.one .b]) (R := R) (Eq.mpr (by kernel_rfl) hv)
def heap_Heap_request.hint : Hn := .seq (.o 2) (.seq (.seq (.o 2) (.block (.seq (.o 2) (.cond (.seq (.seq (.reg (.seq [.op, .op, .op, .op, .grd false 3 [.op, .op, .op]])) (.cond (.seq (.o 1) (.leaf)) (.leaf))) (.seq (.reg (.held true [8] (.take 0 (.take 1 (.take 2 (.take 3 (.take 4 (.take 5 (.take 6 (.take 7 (.all [(8, .take 9 (.take 10 (.take 11 (.take 12 (.take 13 (.done))))))]))))))))))) (.seq (.o 1) (.block (.seq (.o 2) (.cond (.seq (.o 4) (.leaf)) (.seq (.o 2) (.cond (.seq (.o 8) (.leaf)) (.leaf))))))))) (.seq (.o 2) (.cond (.seq (.o 5) (.leaf)) (.seq (.o 2) (.cond (.seq (.o 3) (.leaf)) (.leaf))))))))) (.seq (.o 1) (.leaf)))
def heap_Heap_request.vc (vh : Option Addr) (op : Int) (op1 : Int) (op2 : Int) (op3 : Int) (σ : Hp) (R : Value -> Hp -> Prop) : Prop :=
 Nw (.cells #[.int .i64 op, .int .i64 op1, .int .i64 op2, .int .i64 op3] 95 (0, 0)) σ fun n3 v =>
 LdI .i64 (n3.add 0) v fun t8 =>
 If (t8 == 0) (LdI .i64 (n3.add 1) v fun t12 =>
 JnB (fun r v1 =>
 If r (R (.nilIface) v1)
 (Held v1 fun S =>
 NilP vh fun a21 =>
 LdH S .s (a21.add 0) fun (t23 : Sl) =>
 LdH S (.i .i64) (n3.add 1) fun (t25 : Int) =>
 LdH S (.i .i64) (n3.add 2) fun (t27 : Int) =>
 sizes_Class.call t23 t25 t27 v1 fun t28 t281 v2 =>
 If (t281 == 0) (R (.iface 176 (.agg #[.int .i64 t28])) v2)
 (If (t281 == 4) (LdI .i64 (n3.add 1) v2 fun t40 =>
 Ar .i64 (t40 + 256) fun t41 =>
 Ar .i64 (t41 - 1) fun t42 =>
 Nz 256 <| Ar .i64 (t42.tdiv 256) fun t43 =>
 R (.iface 178 (.agg #[.int .i64 t43])) v2)
 (R (.nilIface) v2)))) fun J =>
 If (decide (t12 < 1)) (J true v)
 (LdI .i64 (n3.add 1) v fun t16 =>
 J (decide (t16 > 16384)) v))
 (If (t8 == 1) (LdI .i64 (n3.add 3) v fun t49 =>
 R (.iface 180 (.agg #[.int .i64 t49])) v)
 (If (t8 == 2) (R (.iface 182 (.agg #[])) v)
 (R (.nilIface) v)))
theorem heap_Heap_request.of_vc {vh : Option Addr} {op : Int} {op1 : Int} {op2 : Int} {op3 : Int} {σ : Hp} {R : Value -> Hp -> Prop} (hv : heap_Heap_request.vc vh op op1 op2 op3 σ R) : heap_Heap_request.call vh op op1 op2 op3 σ R :=
 fnK_sound Tryz.func78 (x := heap_Heap_request.hint) (args := [.pointer vh, .agg #[.int .i64 op, .int .i64 op1, .int .i64 op2, .int .i64 op3]]) (rs := [.one .raw]) (R := R) (Eq.mpr (by kernel_rfl) hv)
def heap_Heap_step.hint : Hn := .seq (.o 2) (.seq (.o 7) (.seq (.reg (.held true [] (.take 0 (.take 1 (.take 2 (.take 3 (.take 4 (.take 5 (.all [(6, .take 7 (.all [(8, .take 9 (.done))]))]))))))))) (.sjn [] (.seq (.o 1) (.block (.seq (.o 3) (.cond (.seq (.o 2) (.seq (.seq (.reg (.held true [6] (.take 0 (.take 1 (.take 2 (.take 3 (.take 4 (.take 5 (.all [(6, .take 7 (.take 8 (.take 9 (.take 10 (.take 11 (.done))))))]))))))))) (.seq (.o 2) (.cond (.seq (.reg (.held true [17] (.take 0 (.take 1 (.take 2 (.take 3 (.take 4 (.take 5 (.take 6 (.take 7 (.take 8 (.take 9 (.take 10 (.take 11 (.take 12 (.all [(13, .take 14 (.take 15 (.take 16 (.all [(17, .done)]))))])))))))))))))))) (.leaf)) (.leaf)))) (.seq (.reg (.held true [6] (.take 0 (.take 1 (.take 2 (.take 3 (.take 4 (.take 5 (.all [(6, .take 7 (.take 8 (.take 9 (.take 10 (.take 11 (.done))))))]))))))))) (.seq (.o 8) (.leaf))))) (.seq (.o 3) (.cond (.seq (.o 2) (.sjn [] (.seq (.oq 12) (.cond (.seq (.o 9) (.seq (.o 2) (.cond (.seq (.o 6) (.seq (.o 5) (.leaf))) (.leaf)))) (.leaf))) (.seq (.o 5) (.leaf)))) (.seq (.o 3) (.cond (.seq (.o 2) (.seq (.seq (.o 11) (.seq (.o 3) (.cond (.seq (.o 6) (.seq (.o 5) (.leaf))) (.leaf)))) (.seq (.o 5) (.leaf)))) (.seq (.o 3) (.cond (.seq (.o 2) (.seq (.seq (.o 5) (.seq (.o 2) (.cond (.seq (.o 4) (.leaf)) (.leaf)))) (.seq (.o 5) (.leaf)))) (.seq (.o 3) (.cond (.seq (.o 2) (.seq (.o 8) (.seq (.o 4) (.seq (.reg (.tail 9 [.op, .op, .op, .op, .op, .op, .op, .op, .op] [.op])) (.seq (.reg (.held true [20] (.take 0 (.take 1 (.take 2 (.take 3 (.take 4 (.take 5 (.take 6 (.take 7 (.take 8 (.take 9 (.take 10 (.take 11 (.take 12 (.take 13 (.take 14 (.take 15 (.all [(16, .take 17 (.take 18 (.take 19 (.all [(20, .done)]))))]))))))))))))))))))) (.leaf)))))) (.seq (.o 3) (.cond (.seq (.o 2) (.seq (.o 9) (.seq (.seq (.o 2) (.cond (.seq (.o 4) (.leaf)) (.leaf))) (.seq (.o 11) (.leaf))))) (.seq (.o 3) (.cond (.seq (.o 2) (.seq (.o 9) (.leaf))) (.seq (.o 3) (.cond (.seq (.o 2) (.sjn [] (.seq (.reg (.held true [8] (.take 0 (.take 1 (.take 2 (.take 3 (.take 4 (.take 5 (.take 6 (.take 7 (.all [(8, .take 9 (.take 10 (.take 11 (.take 12 (.take 13 (.done))))))]))))))))))) (.seq (.o 3) (.cond (.o 6) (.leaf)))) (.seq (.o 9) (.sjn [] (.seq (.o 5) (.cond (.reg (.held true [13] (.take 0 (.take 1 (.take 2 (.take 3 (.take 4 (.take 5 (.take 6 (.take 7 (.take 8 (.all [(9, .all [(10, .take 11 (.take 12 (.all [(13, .done)])))])])))))))))))) (.leaf))) (.seq (.o 6) (.leaf)))))) (.seq (.o 3) (.cond (.seq (.o 2) (.seq (.o 8) (.seq (.o 10) (.seq (.reg (.held true [5] (.take 0 (.take 1 (.take 2 (.take 4 (.all [(3, .all [(5, .done)])]))))))) (.seq (.o 6) (.leaf)))))) (.seq (.o 3) (.cond (.seq (.o 2) (.reg (.tail 10 [.op, .op, .op, .op, .op, .op, .op, .op, .op, .op] [.op]))) (.seq (.o 3) (.cond (.seq (.o 2) (.seq (.o 9) (.seq (.o 6) (.leaf)))) (.leaf))))))))))))))))))))))))) (.seq (.o 3) (.leaf)))))
def heap_Heap_step.vc (vh : Option Addr) (thread : Int) (p : Value) (σ : Hp) (R : Value -> Int -> Int -> Hp -> Prop) : Prop :=
 Nw (.cells #[.int .i64 0, .int .i64 0] 97 (0, 0)) σ fun n7 v =>
 NilP vh fun a37 =>
 LdS (a37.add 8) v fun t39 =>
 Ix t39.a t39.len thread 3 fun a41 =>
 Held v fun S =>
 NilP vh fun a43 =>
 LdH S .s (a43.add 7) fun (t45 : Sl) =>
 heap_Heap_own.call vh thread v fun t48 v1 =>
 And (S v1) <|
 Ix t45.a t45.len t48 1 fun a49 =>
 LdP a49 v1 fun a =>
 And (S v1) <|
 Jn [] (fun v2 =>
 St1 (n7.add 0) (.int .i64 0) v2 fun v3 =>
 St1 (n7.add 1) (.int .i64 0) v3 fun v4 =>
 LdI .i64 (n7.add 0) v4 fun res =>
 LdI .i64 (n7.add 1) v4 fun res1 =>
 R (.nilIface) res res1 v4) fun J =>
 ∃ t52 : Int, ∃ is : Bool, AsB p 176 [.int .i64 t52] [.int .i64 0] is ∧
 (If is (Nw (.cells #[.int .i64 0] 176 (0, 0)) v1 fun n10 v5 =>
 St1 n10 (.int .i64 t52) v5 fun v6 =>
 Held v6 fun S1 =>
 NilP (some a41) fun a57 =>
 LdH S1 .p (a57.add 0) fun (t59 : Option Addr) =>
 LdH S1 (.i .i64) (n10.add 0) fun (t61 : Int) =>
 cache_Cache_Take.call t59 t61 v6 fun t62 t621 v7 =>
 If (t621 == 0) (Held v7 fun S2 =>
 NilP vh fun a70 =>
 LdH S2 .s (a70.add 0) fun (t72 : Sl) =>
 LdH S2 (.i .i64) (n10.add 0) fun (t74 : Int) =>
 Ix t72.a t72.len t74 3 fun a75 =>
 LdH S2 (.i .i64) (a75.add 0) fun (t77 : Int) =>
 LdH S2 (.i .i64) (n10.add 0) fun (t79 : Int) =>
 heap_Heap_born.call vh t62 t77 t79 v7 fun t80 t801 t802 v8 =>
 And (S2 v8) <|
 St1 (n7.add 0) (.int .i64 t801) v8 fun v9 =>
 St1 (n7.add 1) (.int .i64 t802) v9 fun v10 =>
 LdI .i64 (n7.add 0) v10 fun res2 =>
 LdI .i64 (n7.add 1) v10 fun res3 =>
 R (t80) res2 res3 v10)
 (Held v7 fun S3 =>
 NilP (some a41) fun a85 =>
 LdH S3 .p (a85.add 0) fun (t87 : Option Addr) =>
 LdH S3 (.i .i64) (n10.add 0) fun (t89 : Int) =>
 cache_Cache_Want.call t87 t89 v7 fun t90 t901 v11 =>
 LdI .i64 (n10.add 0) v11 fun t94 =>
 St1 (n7.add 0) (.int .i64 0) v11 fun v12 =>
 St1 (n7.add 1) (.int .i64 0) v12 fun v13 =>
 LdI .i64 (n7.add 0) v13 fun res4 =>
 LdI .i64 (n7.add 1) v13 fun res5 =>
 R (.iface 186 (.agg #[.int .i64 t94, .int .i64 t90])) res4 res5 v13))
 (∃ t99 : Int, ∃ t991 : Int, ∃ is1 : Bool, AsB p 186 [.int .i64 t99, .int .i64 t991] [.int .i64 0, .int .i64 0] is1 ∧
 (If is1 (Nw (.cells #[.int .i64 0, .int .i64 0] 186 (0, 0)) v1 fun n15 v14 =>
 St1 (n15.add 0) (.int .i64 t99) v14 fun v15 =>
 St1 (n15.add 1) (.int .i64 t991) v15 fun v16 =>
 Jn [] (fun v17 =>
 LdI .i64 (n15.add 0) v17 fun t132 =>
 LdI .i64 (n15.add 1) v17 fun t1321 =>
 St1 (n7.add 0) (.int .i64 0) v17 fun v18 =>
 St1 (n7.add 1) (.int .i64 0) v18 fun v19 =>
 LdI .i64 (n7.add 0) v19 fun res6 =>
 LdI .i64 (n7.add 1) v19 fun res7 =>
 R (.iface 190 (.agg #[.int .i64 t132, .int .i64 t1321])) res6 res7 v19) fun J1 =>
 LdI .i64 (n15.add 1) v16 fun t103 =>
 NilP vh fun a105 =>
 LdS (a105.add 0) v16 fun t107 =>
 LdI .i64 (n15.add 0) v16 fun t109 =>
 Ix t107.a t107.len t109 3 fun a110 =>
 LdI .i64 (a110.add 2) v16 fun t112 =>
 If (t103 == t112) (LdI .i64 (n15.add 0) v16 fun t117 =>
 arena_Arena_FromTransfer.call a t117 v16 fun t118 t1181 v20 =>
 If (t1181 == 0) (LdI .i64 (n15.add 0) v20 fun t126 =>
 heap_Heap_hold.call vh thread t126 t118 v20 fun v21 =>
 St1 (n7.add 0) (.int .i64 0) v21 fun v22 =>
 St1 (n7.add 1) (.int .i64 0) v22 fun v23 =>
 LdI .i64 (n7.add 0) v23 fun res8 =>
 LdI .i64 (n7.add 1) v23 fun res9 =>
 R (.iface 189 (.agg #[])) res8 res9 v23)
 (J1 v20))
 (J1 v16))
 (∃ t135 : Int, ∃ t1351 : Int, ∃ is2 : Bool, AsB p 190 [.int .i64 t135, .int .i64 t1351] [.int .i64 0, .int .i64 0] is2 ∧
 (If is2 (Nw (.cells #[.int .i64 0, .int .i64 0] 190 (0, 0)) v1 fun n18 v24 =>
 St1 (n18.add 0) (.int .i64 t135) v24 fun v25 =>
 St1 (n18.add 1) (.int .i64 t1351) v25 fun v26 =>
 LdI .i64 (n18.add 0) v26 fun t141 =>
 LdI .i64 (n18.add 1) v26 fun t143 =>
 arena_Arena_FromCentral.call a t141 t143 v26 fun t144 t1441 v27 =>
 If (decide (((t144.len : Nat) : Int) > 0)) (LdI .i64 (n18.add 0) v27 fun t153 =>
 heap_Heap_hold.call vh thread t153 t144 v27 fun v28 =>
 St1 (n7.add 0) (.int .i64 0) v28 fun v29 =>
 St1 (n7.add 1) (.int .i64 0) v29 fun v30 =>
 LdI .i64 (n7.add 0) v30 fun res10 =>
 LdI .i64 (n7.add 1) v30 fun res11 =>
 R (.iface 189 (.agg #[])) res10 res11 v30)
 (LdI .i64 (n18.add 0) v27 fun t159 =>
 LdI .i64 (n18.add 1) v27 fun t1591 =>
 St1 (n7.add 0) (.int .i64 0) v27 fun v31 =>
 St1 (n7.add 1) (.int .i64 0) v31 fun v32 =>
 LdI .i64 (n7.add 0) v32 fun res12 =>
 LdI .i64 (n7.add 1) v32 fun res13 =>
 R (.iface 192 (.agg #[.int .i64 t159, .int .i64 t1591])) res12 res13 v32))
 (∃ t162 : Int, ∃ t1621 : Int, ∃ is3 : Bool, AsB p 192 [.int .i64 t162, .int .i64 t1621] [.int .i64 0, .int .i64 0] is3 ∧
 (If is3 (Nw (.cells #[.int .i64 0, .int .i64 0] 192 (0, 0)) v1 fun n21 v33 =>
 St1 (n21.add 0) (.int .i64 t162) v33 fun v34 =>
 St1 (n21.add 1) (.int .i64 t1621) v34 fun v35 =>
 LdI .i64 (n21.add 0) v35 fun t167 =>
 arena_Arena_Grow.call a t167 v35 fun ve v36 =>
 If (ve != 0) (St1 (n7.add 0) (.int .i64 0) v36 fun v37 =>
 St1 (n7.add 1) (.int .i64 ve) v37 fun v38 =>
 LdI .i64 (n7.add 0) v38 fun res14 =>
 LdI .i64 (n7.add 1) v38 fun res15 =>
 R (.nilIface) res14 res15 v38)
 (LdI .i64 (n21.add 0) v36 fun t173 =>
 LdI .i64 (n21.add 1) v36 fun t1731 =>
 St1 (n7.add 0) (.int .i64 0) v36 fun v39 =>
 St1 (n7.add 1) (.int .i64 0) v39 fun v40 =>
 LdI .i64 (n7.add 0) v40 fun res16 =>
 LdI .i64 (n7.add 1) v40 fun res17 =>
 R (.iface 190 (.agg #[.int .i64 t173, .int .i64 t1731])) res16 res17 v40))
 (∃ is4 : Bool, AsB p 189 [] [] is4 ∧
 (If is4 (Nw (.cells #[] 189 (0, 0)) v1 fun n23 v41 =>
 NilP (some a41) fun a180 =>
 LdS (a180.add 1) v41 fun t182 =>
 Ix t182.a t182.len 0 2 fun a183 =>
 LdI .i64 (a183.add 0) v41 fun t184 =>
 LdS (a183.add 1) v41 fun t1841 =>
 Nw (.cells #[.int .i64 0, .slice none 0 0] 119 (0, 0)) v41 fun n24 v43 =>
 St1 (n24.add 0) (.int .i64 t184) v43 fun v44 =>
 St1 (n24.add 1) (.slice t1841.a t1841.len t1841.cap) v44 fun v45 =>
 NilP (some a41) fun a186 =>
 St1 (a186.add 1) (.slice none 0 0) v45 fun v46 =>
 NilP (some a41) fun a189 =>
 LdP (a189.add 0) v46 fun t191 =>
 LdI .i64 (n24.add 0) v46 fun t193 =>
 LdS (n24.add 1) v46 fun t195 =>
 SlcL t195 1 1 (t195.len : Nat) (t195.cap : Nat) fun t196 =>
 cache_Cache_Fill.call t191 t193 t196 v46 fun t197 v47 =>
 Held v47 fun S4 =>
 LdH S4 .s (n24.add 1) fun (t200 : Sl) =>
 Ix t200.a t200.len 0 1 fun a201 =>
 LdH S4 (.i .i64) a201 fun (t202 : Int) =>
 NilP vh fun a204 =>
 LdH S4 .s (a204.add 0) fun (t206 : Sl) =>
 LdH S4 (.i .i64) (n24.add 0) fun (t208 : Int) =>
 Ix t206.a t206.len t208 3 fun a209 =>
 LdH S4 (.i .i64) (a209.add 0) fun (t211 : Int) =>
 LdH S4 (.i .i64) (n24.add 0) fun (t213 : Int) =>
 heap_Heap_born.call vh t202 t211 t213 v47 fun t214 t2141 t2142 v48 =>
 And (S4 v48) <|
 St1 (n7.add 0) (.int .i64 t2141) v48 fun v49 =>
 St1 (n7.add 1) (.int .i64 t2142) v49 fun v50 =>
 LdI .i64 (n7.add 0) v50 fun res18 =>
 LdI .i64 (n7.add 1) v50 fun res19 =>
 R (t214) res18 res19 v50)
 (∃ t217 : Int, ∃ is5 : Bool, AsB p 178 [.int .i64 t217] [.int .i64 0] is5 ∧
 (If is5 (Nw (.cells #[.int .i64 0] 178 (0, 0)) v1 fun n25 v51 =>
 St1 n25 (.int .i64 t217) v51 fun v52 =>
 LdI .i64 (n25.add 0) v52 fun t223 =>
 arena_Arena_TakePages.call a t223 1 v52 fun t224 t2241 v53 =>
 If (t2241 != 0) (St1 (n7.add 0) (.int .i64 0) v53 fun v54 =>
 St1 (n7.add 1) (.int .i64 t2241) v54 fun v55 =>
 LdI .i64 (n7.add 0) v55 fun res20 =>
 LdI .i64 (n7.add 1) v55 fun res21 =>
 R (.nilIface) res20 res21 v55)
 (Ar .i64 (t224 * 256) fun t233 =>
 LdI .i64 (n25.add 0) v53 fun t235 =>
 Ar .i64 (t235 * 256) fun t236 =>
 heap_Heap_born.call vh t233 t236 (-1) v53 fun t237 t2371 t2372 v56 =>
 St1 (n7.add 0) (.int .i64 t2371) v56 fun v57 =>
 St1 (n7.add 1) (.int .i64 t2372) v57 fun v58 =>
 LdI .i64 (n7.add 0) v58 fun res22 =>
 LdI .i64 (n7.add 1) v58 fun res23 =>
 R (t237) res22 res23 v58))
 (∃ t240 : Int, ∃ is6 : Bool, AsB p 180 [.int .i64 t240] [.int .i64 0] is6 ∧
 (If is6 (Nw (.cells #[.int .i64 0] 180 (0, 0)) v1 fun n28 v59 =>
 St1 n28 (.int .i64 t240) v59 fun v60 =>
 LdI .i64 (n28.add 0) v60 fun t246 =>
 heap_Heap_find.call vh thread t246 v60 fun t247 t2471 t2472 v61 =>
 St1 (n7.add 0) (.int .i64 t2471) v61 fun v62 =>
 St1 (n7.add 1) (.int .i64 t2472) v62 fun v63 =>
 LdI .i64 (n7.add 0) v63 fun res24 =>
 LdI .i64 (n7.add 1) v63 fun res25 =>
 R (t247) res24 res25 v63)
 (∃ t250 : Int, ∃ t2501 : Int, ∃ is7 : Bool, AsB p 197 [.int .i64 t250, .int .i64 t2501] [.int .i64 0, .int .i64 0] is7 ∧
 (If is7 (Nw (.cells #[.int .i64 0, .int .i64 0] 197 (0, 0)) v1 fun n29 v64 =>
 St1 (n29.add 0) (.int .i64 t250) v64 fun v65 =>
 St1 (n29.add 1) (.int .i64 t2501) v65 fun v66 =>
 Jn [] (fun v67 =>
 NilP (some a41) fun a276 =>
 LdS (a276.add 1) v67 fun t278 =>
 SlcL t278 2 1 (t278.len : Nat) (t278.cap : Nat) fun t279 =>
 NilP (some a41) fun a280 =>
 St1 (a280.add 1) (.slice t279.a t279.len t279.cap) v67 fun v68 =>
 Jn [] (fun v69 =>
 heap_Heap_returning.call vh thread v69 fun t302 v70 =>
 St1 (n7.add 0) (.int .i64 0) v70 fun v71 =>
 St1 (n7.add 1) (.int .i64 0) v71 fun v72 =>
 LdI .i64 (n7.add 0) v72 fun res26 =>
 LdI .i64 (n7.add 1) v72 fun res27 =>
 R (t302) res26 res27 v72) fun J3 =>
 NilP (some a41) fun a283 =>
 LdP (a283.add 0) v68 fun t285 =>
 cache_Cache_Over.call t285 v68 fun t286 v73 =>
 If t286 (Held v73 fun S5 =>
 NilP (some a41) fun a289 =>
 LdH S5 .s (a289.add 1) fun (t291 : Sl) =>
 NilP (some a41) fun a293 =>
 LdH S5 .p (a293.add 0) fun (t295 : Option Addr) =>
 cache_Cache_Scavenge.call t295 v73 fun t296 v74 =>
 And (S5 v74) <|
 App t291 2 32 119 [.int .i64 0, .slice none 0 0] t296 v74 fun t297 v75 =>
 And (S5 v75) <|
 NilP (some a41) fun a298 =>
 St1 (a298.add 1) (.slice t297.a t297.len t297.cap) v75 fun v76 =>
 J3 v76)
 (J3 v73)) fun J2 =>
 Held v66 fun S6 =>
 NilP (some a41) fun a255 =>
 LdH S6 .p (a255.add 0) fun (t257 : Option Addr) =>
 LdH S6 (.i .i64) (n29.add 0) fun (t259 : Int) =>
 LdH S6 (.i .i64) (n29.add 1) fun (t261 : Int) =>
 cache_Cache_Put.call t257 t259 t261 v66 fun t262 t2621 v77 =>
 If (decide (((t262.len : Nat) : Int) > 0)) (LdI .i64 (n29.add 0) v77 fun t271 =>
 heap_Heap_hold.call vh thread t271 t262 v77 fun v78 =>
 J2 v78)
 (J2 v77))
 (∃ is8 : Bool, AsB p 200 [] [] is8 ∧
 (If is8 (Nw (.cells #[] 200 (0, 0)) v1 fun n32 v79 =>
 NilP (some a41) fun a308 =>
 LdS (a308.add 1) v79 fun t310 =>
 Ix t310.a t310.len 0 2 fun a311 =>
 LdI .i64 (a311.add 0) v79 fun t312 =>
 LdS (a311.add 1) v79 fun t3121 =>
 Nw (.cells #[.int .i64 0, .slice none 0 0] 119 (0, 0)) v79 fun n33 v81 =>
 St1 (n33.add 0) (.int .i64 t312) v81 fun v82 =>
 St1 (n33.add 1) (.slice t3121.a t3121.len t3121.cap) v82 fun v83 =>
 NilP (some a41) fun a315 =>
 LdS (a315.add 1) v83 fun t317 =>
 SlcL t317 2 1 (t317.len : Nat) (t317.cap : Nat) fun t318 =>
 slices_Clone_api_Batch_api_Batch.call t318 v83 fun t319 v84 =>
 NilP (some a41) fun a320 =>
 St1 (a320.add 1) (.slice t319.a t319.len t319.cap) v84 fun v85 =>
 Held v85 fun S7 =>
 LdH S7 (.i .i64) (n33.add 0) fun (t326 : Int) =>
 LdH S7 .s (n33.add 1) fun (t3261 : Sl) =>
 heap_Heap_own.call vh thread v85 fun t325 v86 =>
 And (S7 v86) <|
 heap_Heap_back.call vh t325 t326 t3261 v86 fun v87 =>
 heap_Heap_returning.call vh thread v87 fun t330 v88 =>
 St1 (n7.add 0) (.int .i64 0) v88 fun v89 =>
 St1 (n7.add 1) (.int .i64 0) v89 fun v90 =>
 LdI .i64 (n7.add 0) v90 fun res28 =>
 LdI .i64 (n7.add 1) v90 fun res29 =>
 R (t330) res28 res29 v90)
 (∃ t332 : Int, ∃ t3321 : Int, ∃ is9 : Bool, AsB p 204 [.int .i64 t332, .int .i64 t3321] [.int .i64 0, .int .i64 0] is9 ∧
 (If is9 (Nw (.cells #[.int .i64 0, .int .i64 0] 204 (0, 0)) v1 fun n34 v91 =>
 St1 (n34.add 0) (.int .i64 t332) v91 fun v92 =>
 St1 (n34.add 1) (.int .i64 t3321) v92 fun v93 =>
 NilP vh fun a336 =>
 LdS (a336.add 7) v93 fun t338 =>
 LdI .i64 (n34.add 1) v93 fun t340 =>
 Ix t338.a t338.len t340 1 fun a341 =>
 LdP a341 v93 fun t342 =>
 LdI .i64 (n34.add 0) v93 fun t344 =>
 arena_Arena_GivePages.call t342 t344 v93 fun t345 v94 =>
 J v94)
 (∃ is10 : Bool, AsB p 182 [] [] is10 ∧
 (If is10 (Nw (.cells #[] 182 (0, 0)) v1 fun n35 v95 =>
 NilP (some a41) fun a351 =>
 LdP (a351.add 0) v95 fun t353 =>
 cache_Cache_Drain.call t353 v95 fun t354 v97 =>
 NilP (some a41) fun a355 =>
 St1 (a355.add 1) (.slice t354.a t354.len t354.cap) v97 fun v98 =>
 heap_Heap_returning.call vh thread v98 fun t359 v99 =>
 St1 (n7.add 0) (.int .i64 0) v99 fun v100 =>
 St1 (n7.add 1) (.int .i64 0) v100 fun v101 =>
 LdI .i64 (n7.add 0) v101 fun res30 =>
 LdI .i64 (n7.add 1) v101 fun res31 =>
 R (t359) res30 res31 v101)
 (J v1))))))))))))))))))))))
theorem heap_Heap_step.of_vc {vh : Option Addr} {thread : Int} {p : Value} {σ : Hp} {R : Value -> Int -> Int -> Hp -> Prop} (hv : heap_Heap_step.vc vh thread p σ R) : heap_Heap_step.call vh thread p σ R :=
 fnK_sound Tryz.func79 (x := heap_Heap_step.hint) (args := [.pointer vh, .int .i64 thread, p]) (rs := [.one .raw, .agg [(.i .i64), (.i .i64)]]) (R := R) (Eq.mpr (by kernel_rfl) hv)
def heap_Heap_owner.hint : Hn := .seq (.o 2) (.seq (.seq (.o 2) (.cond (.seq (.o 1) (.leaf)) (.leaf))) (.seq (.o 7) (.leaf)))
def heap_Heap_owner.vc (vh : Option Addr) (addr : Int) (σ : Hp) (R : Int -> Hp -> Prop) : Prop :=
 Nw (.cells #[.int .i64 addr] 3 (0, 0)) σ fun n3 v =>
 LdI .i64 n3 v fun t5 =>
 If (decide (t5 < 0)) (R (-1) v)
 (NilP vh fun a8 =>
 LdS (a8.add 7) v fun t10 =>
 slices_IndexFunc_arena_Arena_arena_Arena.call t10 ⟨154, #[], #[.pointer (some n3)]⟩ v fun t12 v1 =>
 R t12 v1)
theorem heap_Heap_owner.of_vc {vh : Option Addr} {addr : Int} {σ : Hp} {R : Int -> Hp -> Prop} (hv : heap_Heap_owner.vc vh addr σ R) : heap_Heap_owner.call vh addr σ R :=
 fnK_sound Tryz.func100 (x := heap_Heap_owner.hint) (args := [.pointer vh, .int .i64 addr]) (rs := [.one (.i .i64)]) (R := R) (Eq.mpr (by kernel_rfl) hv)
def heap_valid.hint : Hn := .seq (.o 2) (.seq (.reg (.seq [.op, .op, .op, .op, .grd true 3 [.op, .op, .op], .op, .grd true 4 [.op, .op, .op, .op], .op, .grd true 3 [.op, .op, .op], .op, .grd true 3 [.op, .op, .op], .op, .grd true 3 [.op, .op, .op], .op, .grd true 3 [.op, .op, .op], .op, .grd true 3 [.op, .op, .op], .op, .grd true 3 [.op, .op, .op], .op, .grd true 3 [.op, .op, .op], .op, .grd true 3 [.op, .op, .op], .op])) (.leaf))
def heap_valid.vc (c : Int) (c1 : Int) (c2 : Int) (c3 : Int) (c4 : Int) (σ : Hp) (R : Bool -> Hp -> Prop) : Prop :=
 Nw (.cells #[.int .i64 c, .int .i64 c1, .int .i64 c2, .int .i64 c3, .int .i64 c4] 26 (0, 0)) σ fun n1 v =>
 LdI .i64 (n1.add 0) v fun t4 =>
 JnB (fun r v1 =>
 JnB (fun r1 v2 =>
 JnB (fun r2 v3 =>
 JnB (fun r3 v4 =>
 JnB (fun r4 v5 =>
 JnB (fun r5 v6 =>
 JnB (fun r6 v7 =>
 JnB (fun r7 v8 =>
 JnB (fun r8 v9 =>
 JnB (fun r9 v10 =>
 R r9 v10) fun J9 =>
 If r8 (LdI .i64 (n1.add 4) v9 fun t54 =>
 J9 (decide (t54 <= 8)) v9)
 (J9 false v9)) fun J8 =>
 If r7 (LdI .i64 (n1.add 4) v8 fun t49 =>
 J8 (decide (t49 ≥ 0)) v8)
 (J8 false v8)) fun J7 =>
 If r6 (LdI .i64 (n1.add 3) v7 fun t44 =>
 J7 (decide (t44 <= 65536)) v7)
 (J7 false v7)) fun J6 =>
 If r5 (LdI .i64 (n1.add 3) v6 fun t39 =>
 J6 (decide (t39 ≥ 0)) v6)
 (J6 false v6)) fun J5 =>
 If r4 (LdI .i64 (n1.add 2) v5 fun t34 =>
 J5 (decide (t34 <= 4)) v5)
 (J5 false v5)) fun J4 =>
 If r3 (LdI .i64 (n1.add 2) v4 fun t29 =>
 J4 (decide (t29 ≥ 1)) v4)
 (J4 false v4)) fun J3 =>
 If r2 (LdI .i64 (n1.add 1) v3 fun t24 =>
 J3 (decide (t24 <= 4)) v3)
 (J3 false v3)) fun J2 =>
 If r1 (LdI .i64 (n1.add 1) v2 fun t19 =>
 J2 (decide (t19 ≥ 1)) v2)
 (J2 false v2)) fun J1 =>
 If r (LdI .i64 (n1.add 0) v1 fun t13 =>
 Nz 16 <|
 J1 ((t13.tmod 16) == 0) v1)
 (J1 false v1)) fun J =>
 If (decide (t4 ≥ 32)) (LdI .i64 (n1.add 0) v fun t8 =>
 J (decide (t8 <= 1024)) v)
 (J false v)
theorem heap_valid.of_vc {c : Int} {c1 : Int} {c2 : Int} {c3 : Int} {c4 : Int} {σ : Hp} {R : Bool -> Hp -> Prop} (hv : heap_valid.vc c c1 c2 c3 c4 σ R) : heap_valid.call c c1 c2 c3 c4 σ R :=
 fnK_sound Tryz.func105 (x := heap_valid.hint) (args := [.agg #[.int .i64 c, .int .i64 c1, .int .i64 c2, .int .i64 c3, .int .i64 c4]]) (rs := [.one .b]) (R := R) (Eq.mpr (by kernel_rfl) hv)
def heap_Heap_own.hint : Hn := .seq (.o 1) (.seq (.o 8) (.leaf))
def heap_Heap_own.vc (vh : Option Addr) (thread : Int) (σ : Hp) (R : Int -> Hp -> Prop) : Prop :=
 NilP vh fun a7 =>
 LdS (a7.add 7) σ fun t9 =>
 Nz ((t9.len : Nat) : Int) <|
 R (thread.tmod ((t9.len : Nat) : Int)) σ
theorem heap_Heap_own.of_vc {vh : Option Addr} {thread : Int} {σ : Hp} {R : Int -> Hp -> Prop} (hv : heap_Heap_own.vc vh thread σ R) : heap_Heap_own.call vh thread σ R :=
 fnK_sound Tryz.func109 (x := heap_Heap_own.hint) (args := [.pointer vh, .int .i64 thread]) (rs := [.one (.i .i64)]) (R := R) (Eq.mpr (by kernel_rfl) hv)
def heap_Heap_born.hint : Hn := .seq (.o 2) (.seq (.reg (.held true [12] (.take 0 (.take 1 (.take 2 (.take 3 (.take 4 (.take 5 (.take 6 (.take 7 (.take 8 (.take 9 (.all [(10, .take 11 (.all [(12, .done)]))]))))))))))))) (.seq (.o 4) (.leaf)))
def heap_Heap_born.vc (vh : Option Addr) (addr : Int) (size : Int) (vclass : Int) (σ : Hp) (R : Value -> Int -> Int -> Hp -> Prop) : Prop :=
 Nw (.cells #[.int .i64 0, .int .i64 0] 97 (0, 0)) σ fun n9 v =>
 Held v fun S =>
 NilP vh fun a11 =>
 LdH S .m (a11.add 9) fun (t13 : Option Nat) =>
 heap_Heap_owner.call vh addr v fun t20 v1 =>
 And (S v1) <|
 MSet .i64 (.ag 4) t13 addr (addr, size, vclass, t20) v1 fun v2 =>
 St1 (n9.add 0) (.int .i64 addr) v2 fun v3 =>
 St1 (n9.add 1) (.int .i64 0) v3 fun v4 =>
 LdI .i64 (n9.add 0) v4 fun res =>
 LdI .i64 (n9.add 1) v4 fun res1 =>
 R (.nilIface) res res1 v4
theorem heap_Heap_born.of_vc {vh : Option Addr} {addr : Int} {size : Int} {vclass : Int} {σ : Hp} {R : Value -> Int -> Int -> Hp -> Prop} (hv : heap_Heap_born.vc vh addr size vclass σ R) : heap_Heap_born.call vh addr size vclass σ R :=
 fnK_sound Tryz.func111 (x := heap_Heap_born.hint) (args := [.pointer vh, .int .i64 addr, .int .i64 size, .int .i64 vclass]) (rs := [.one .raw, .agg [(.i .i64), (.i .i64)]]) (R := R) (Eq.mpr (by kernel_rfl) hv)
def heap_Heap_hold.hint : Hn := .reg (.held true [20] (.take 0 (.take 1 (.take 2 (.take 3 (.take 4 (.take 5 (.take 6 (.take 7 (.take 8 (.take 9 (.take 10 (.take 11 (.take 12 (.take 13 (.take 14 (.take 15 (.all [(16, .all [(17, .take 18 (.take 19 (.all [(20, .done)])))])]))))))))))))))))))
def heap_Heap_hold.vc (vh : Option Addr) (thread : Int) (vclass : Int) (objects : Sl) (σ : Hp) (R : Hp -> Prop) : Prop :=
 Held σ fun S =>
 NilP vh fun a9 =>
 LdH S .s (a9.add 8) fun (t11 : Sl) =>
 NilP vh fun a14 =>
 LdH S .s (a14.add 8) fun (t16 : Sl) =>
 Ix t16.a t16.len thread 3 fun a18 =>
 LdH S .s (a18.add 1) fun (t20 : Sl) =>
 Nw (.cells #[.int .i64 vclass, .slice objects.a objects.len objects.cap] 119 (0, 0)) σ fun n24 v =>
 And (S v) <|
 App t20 2 32 119 [.int .i64 0, .slice none 0 0] ⟨(some n24), 1, 1⟩ v fun t25 v1 =>
 And (S v1) <|
 Ix t11.a t11.len thread 3 fun a26 =>
 St1 (a26.add 1) (.slice t25.a t25.len t25.cap) v1 fun v2 =>
 R v2
theorem heap_Heap_hold.of_vc {vh : Option Addr} {thread : Int} {vclass : Int} {objects : Sl} {σ : Hp} {R : Hp -> Prop} (hv : heap_Heap_hold.vc vh thread vclass objects σ R) : heap_Heap_hold.call vh thread vclass objects σ R :=
 fnK_sound Tryz.func114 (x := heap_Heap_hold.hint) (args := [.pointer vh, .int .i64 thread, .int .i64 vclass, .slice objects.a objects.len objects.cap]) (rs := []) (R := R) (Eq.mpr (by kernel_rfl) hv)
def heap_Heap_find.hint : Hn := .seq (.o 2) (.seq (.o 12) (.seq (.seq (.o 2) (.cond (.sjn [] (.seq (.o 4) (.seq (.o 2) (.cond (.seq (.o 16) (.seq (.reg (.seq [.op, .op, .op, .grd true 2 [.op, .op], .op, .grd true 3 [.op, .op, .op]])) (.cond (.seq (.o 3) (.leaf)) (.leaf)))) (.leaf)))) (.seq (.o 3) (.leaf))) (.leaf))) (.seq (.o 6) (.seq (.seq (.o 3) (.cond (.seq (.o 9) (.leaf)) (.leaf))) (.seq (.o 7) (.seq (.o 8) (.leaf)))))))
def heap_Heap_find.vc (vh : Option Addr) (thread : Int) (addr : Int) (σ : Hp) (R : Value -> Int -> Int -> Hp -> Prop) : Prop :=
 Nw (.cells #[.int .i64 0, .int .i64 0] 97 (0, 0)) σ fun n7 v =>
 NilP vh fun a16 =>
 LdM (a16.add 9) v fun t18 =>
 Lk .i64 (.ag 4) t18 addr v fun t20 =>
 Nw (.cells #[.int .i64 0, .int .i64 0, .int .i64 0, .int .i64 0] 65 (0, 0)) v fun n8 v1 =>
 St1 (n8.add 0) (.int .i64 ((t20.getD (0, 0, 0, 0)).1)) v1 fun v2 =>
 St1 (n8.add 1) (.int .i64 ((t20.getD (0, 0, 0, 0)).2.1)) v2 fun v3 =>
 St1 (n8.add 2) (.int .i64 ((t20.getD (0, 0, 0, 0)).2.2.1)) v3 fun v4 =>
 St1 (n8.add 3) (.int .i64 ((t20.getD (0, 0, 0, 0)).2.2.2)) v4 fun v5 =>
 If (!t20.isSome) (Jn [] (fun v6 =>
 St1 (n7.add 0) (.int .i64 0) v6 fun v7 =>
 St1 (n7.add 1) (.int .i64 8) v7 fun v8 =>
 LdI .i64 (n7.add 0) v8 fun res =>
 LdI .i64 (n7.add 1) v8 fun res1 =>
 R (.nilIface) res res1 v8) fun J =>
 heap_Heap_owner.call vh addr v5 fun a v9 =>
 If (decide (a ≥ 0)) (NilP vh fun a32 =>
 LdS (a32.add 7) v9 fun t34 =>
 Ix t34.a t34.len a 1 fun a36 =>
 LdP a36 v9 fun t37 =>
 arena_Arena_Find.call t37 addr v9 fun t39 t391 t392 v10 =>
 JnB (fun r v11 =>
 JnB (fun r1 v12 =>
 If r1 (St1 (n7.add 0) (.int .i64 0) v12 fun v13 =>
 St1 (n7.add 1) (.int .i64 9) v13 fun v14 =>
 LdI .i64 (n7.add 0) v14 fun res2 =>
 LdI .i64 (n7.add 1) v14 fun res3 =>
 R (.nilIface) res2 res3 v14)
 (J v12)) fun J2 =>
 If r (J2 (t391 == addr) v11)
 (J2 false v11)) fun J1 =>
 If (t392 == 0) (J1 (decide (t39 ≥ 0)) v10)
 (J1 false v10))
 (J v9))
 (NilP vh fun a57 =>
 LdM (a57.add 9) v5 fun t59 =>
 MDel .i64 (.ag 4) t59 addr v5 fun v15 =>
 LdI .i64 (n8.add 2) v15 fun t62 =>
 If (decide (t62 < 0)) (Nz 256 <| Ar .i64 (addr.tdiv 256) fun t65 =>
 LdI .i64 (n8.add 3) v15 fun t67 =>
 St1 (n7.add 0) (.int .i64 0) v15 fun v16 =>
 St1 (n7.add 1) (.int .i64 0) v16 fun v17 =>
 LdI .i64 (n7.add 0) v17 fun res4 =>
 LdI .i64 (n7.add 1) v17 fun res5 =>
 R (.iface 204 (.agg #[.int .i64 t65, .int .i64 t67])) res4 res5 v17)
 (LdI .i64 (n8.add 2) v15 fun t74 =>
 Nw (.cells #[.int .i64 addr] 3 (0, 0)) v15 fun n76 v18 =>
 heap_Heap_hold.call vh thread t74 ⟨(some n76), 1, 1⟩ v18 fun v19 =>
 LdI .i64 (n8.add 2) v19 fun t79 =>
 St1 (n7.add 0) (.int .i64 0) v19 fun v20 =>
 St1 (n7.add 1) (.int .i64 0) v20 fun v21 =>
 LdI .i64 (n7.add 0) v21 fun res6 =>
 LdI .i64 (n7.add 1) v21 fun res7 =>
 R (.iface 197 (.agg #[.int .i64 t79, .int .i64 addr])) res6 res7 v21))
theorem heap_Heap_find.of_vc {vh : Option Addr} {thread : Int} {addr : Int} {σ : Hp} {R : Value -> Int -> Int -> Hp -> Prop} (hv : heap_Heap_find.vc vh thread addr σ R) : heap_Heap_find.call vh thread addr σ R :=
 fnK_sound Tryz.func119 (x := heap_Heap_find.hint) (args := [.pointer vh, .int .i64 thread, .int .i64 addr]) (rs := [.one .raw, .agg [(.i .i64), (.i .i64)]]) (R := R) (Eq.mpr (by kernel_rfl) hv)
def heap_Heap_returning.hint : Hn := .seq (.o 1) (.seq (.seq (.o 10) (.cond (.seq (.o 1) (.leaf)) (.leaf))) (.seq (.o 3) (.leaf)))
def heap_Heap_returning.vc (vh : Option Addr) (thread : Int) (σ : Hp) (R : Value -> Hp -> Prop) : Prop :=
 NilP vh fun a6 =>
 LdS (a6.add 8) σ fun t8 =>
 Ix t8.a t8.len thread 3 fun a10 =>
 LdS (a10.add 1) σ fun t12 =>
 If (((t12.len : Nat) : Int) == 0) (R (.nilIface) σ)
 (R (.iface 200 (.agg #[])) σ)
theorem heap_Heap_returning.of_vc {vh : Option Addr} {thread : Int} {σ : Hp} {R : Value -> Hp -> Prop} (hv : heap_Heap_returning.vc vh thread σ R) : heap_Heap_returning.call vh thread σ R :=
 fnK_sound Tryz.func123 (x := heap_Heap_returning.hint) (args := [.pointer vh, .int .i64 thread]) (rs := [.one .raw]) (R := R) (Eq.mpr (by kernel_rfl) hv)
def heap_Heap_back.hint : Hn := .seq (.o 1) (.seq (.o 7) (.seq (.seq (.o 4) (.block (.loop [(23, .one (.i .i64))] (.seq (.o 1) (.seq (.cond (.leaf) (.leaf)) (.seq (.block (.seq (.o 3) (.seq (.o 4) (.o 11)))) (.o 2))))))) (.sjn [] (.seq (.oq 9) (.cond (.seq (.reg (.held true [] (.take 0 (.take 1 (.take 2 (.take 3 (.take 4 (.take 5 (.take 6 (.take 7 (.take 8 (.take 9 (.take 10 (.all [(11, .take 12 (.take 13 (.take 14 (.take 15 (.take 16 (.done))))))])))))))))))))) (.seq (.reg (.seq [.op, .op, .grd true 2 [.op, .op]])) (.cond (.leaf) (.leaf)))) (.leaf))) (.seq (.o 3) (.block (.loop [(72, .one (.i .i64))] (.seq (.o 1) (.seq (.cond (.leaf) (.leaf)) (.seq (.block (.seq (.o 5) (.seq (.o 3) (.cond (.reg (.tail 10 [.op, .op, .op, .op, .op, .op, .op, .op, .op, .op] [.op])) (.leaf))))) (.o 2))))))))))
def heap_Heap_back.vc (vh : Option Addr) (own : Int) (b : Int) (b1 : Sl) (σ : Hp) (R : Hp -> Prop) : Prop :=
 Nw (.cells #[.int .i64 b, .slice b1.a b1.len b1.cap] 119 (0, 0)) σ fun n5 v =>
 NilP vh fun a15 =>
 LdS (a15.add 7) v fun t17 =>
 Mk ((t17.len : Nat) : Int) ((t17.len : Nat) : Int) 24 22 [.slice none 0 0] v fun parts v1 =>
 LdS (n5.add 1) v1 fun t21 =>
 LoopK [(.i .i64)] (fun I => I 0 v1) fun J (t23 : Int) v2 =>
 If (decide (t23 < ((t21.len : Nat) : Int))) (Ix t21.a t21.len t23 1 fun a25 =>
 LdI .i64 a25 v2 fun addr =>
 heap_Heap_owner.call vh addr v2 fun a v3 =>
 Ix parts.a parts.len a 1 fun a34 =>
 LdS a34 v3 fun t35 =>
 Nw (.cells #[.int .i64 addr] 3 (0, 0)) v3 fun n37 v4 =>
 App t35 1 8 3 [.int .i64 0] ⟨(some n37), 1, 1⟩ v4 fun t38 v5 =>
 Ix parts.a parts.len a 1 fun a39 =>
 St1 a39 (.slice t38.a t38.len t38.cap) v5 fun v6 =>
 Ar .i64 (t23 + 1) fun t40 =>
 J t40 v6)
 (Jn [] (fun v7 =>
 LoopK [(.i .i64)] (fun I1 => I1 0 v7) fun J2 (t72 : Int) v8 =>
 If (decide (t72 < ((parts.len : Nat) : Int))) (Ix parts.a parts.len t72 1 fun a75 =>
 LdS a75 v8 fun l =>
 If (decide (((l.len : Nat) : Int) > 0)) (NilP vh fun a81 =>
 LdS (a81.add 7) v8 fun t83 =>
 Ix t83.a t83.len t72 1 fun a85 =>
 LdP a85 v8 fun t86 =>
 LdI .i64 (n5.add 0) v8 fun t88 =>
 arena_Arena_ToCentral.call t86 t88 l v8 fun t90 v9 =>
 Ar .i64 (t72 + 1) fun t91 =>
 J2 t91 v9)
 (Ar .i64 (t72 + 1) fun t911 =>
 J2 t911 v8))
 (R v8)) fun J1 =>
 Ix parts.a parts.len own 1 fun a43 =>
 LdS a43 v2 fun t44 =>
 LdS (n5.add 1) v2 fun t47 =>
 If (((t44.len : Nat) : Int) == ((t47.len : Nat) : Int)) (Held v2 fun S =>
 NilP vh fun a52 =>
 LdH S .s (a52.add 7) fun (t54 : Sl) =>
 Ix t54.a t54.len own 1 fun a56 =>
 LdH S .p a56 fun (t57 : Option Addr) =>
 LdH S (.i .i64) (n5.add 0) fun (t59 : Int) =>
 LdH S .s (n5.add 1) fun (t61 : Sl) =>
 arena_Arena_ToTransfer.call t57 t59 t61 v2 fun t62 t621 v10 =>
 And (S v10) <|
 JnB (fun r v11 =>
 If r (R v11)
 (J1 v11)) fun J3 =>
 If t62 (J3 (t621 == 0) v10)
 (J3 false v10))
 (J1 v2))
theorem heap_Heap_back.of_vc {vh : Option Addr} {own : Int} {b : Int} {b1 : Sl} {σ : Hp} {R : Hp -> Prop} (hv : heap_Heap_back.vc vh own b b1 σ R) : heap_Heap_back.call vh own b b1 σ R :=
 fnK_sound Tryz.func125 (x := heap_Heap_back.hint) (args := [.pointer vh, .int .i64 own, .agg #[.int .i64 b, .slice b1.a b1.len b1.cap]]) (rs := []) (R := R) (Eq.mpr (by kernel_rfl) hv)
def heap_Heap_owner_L1.hint : Hn := .seq (.o 1) (.seq (.o 5) (.leaf))
def heap_Heap_owner_L1.vc (a : Option Addr) (cap0 : Addr) (σ : Hp) (R : Bool -> Hp -> Prop) : Prop :=
 LdI .i64 cap0 σ fun t5 =>
 Nz 256 <| Ar .i64 (t5.tdiv 256) fun t6 =>
 arena_Arena_Owns.call a t6 σ fun t7 v =>
 R t7 v
theorem heap_Heap_owner_L1.of_vc {a : Option Addr} {cap0 : Addr} {σ : Hp} {R : Bool -> Hp -> Prop} (hv : heap_Heap_owner_L1.vc a cap0 σ R) : heap_Heap_owner_L1.call a cap0 σ R :=
 fnK_sound Tryz.func154 (x := heap_Heap_owner_L1.hint) (args := [.pointer a, .pointer (some cap0)]) (rs := [.one .b]) (R := R) (Eq.mpr (by kernel_rfl) hv)
def heap_take_name.hint : Hn := .seq (.o 2) (.seq (.o 1) (.leaf))
def heap_take_name.vc (p0 : Int) (σ : Hp) (R : ByteArray -> Hp -> Prop) : Prop :=
 Nw (.cells #[.int .i64 p0] 176 (0, 0)) σ fun n1 v =>
 R (ByteArray.mk #[116, 97, 107, 101]) v
theorem heap_take_name.of_vc {p0 : Int} {σ : Hp} {R : ByteArray -> Hp -> Prop} (hv : heap_take_name.vc p0 σ R) : heap_take_name.call p0 σ R :=
 fnK_sound Tryz.func320 (x := heap_take_name.hint) (args := [.agg #[.int .i64 p0]]) (rs := [.one .str]) (R := R) (Eq.mpr (by kernel_rfl) hv)
def heap_large_name.hint : Hn := .seq (.o 2) (.seq (.o 1) (.leaf))
def heap_large_name.vc (p0 : Int) (σ : Hp) (R : ByteArray -> Hp -> Prop) : Prop :=
 Nw (.cells #[.int .i64 p0] 178 (0, 0)) σ fun n1 v =>
 R (ByteArray.mk #[108, 97, 114, 103, 101]) v
theorem heap_large_name.of_vc {p0 : Int} {σ : Hp} {R : ByteArray -> Hp -> Prop} (hv : heap_large_name.vc p0 σ R) : heap_large_name.call p0 σ R :=
 fnK_sound Tryz.func321 (x := heap_large_name.hint) (args := [.agg #[.int .i64 p0]]) (rs := [.one .str]) (R := R) (Eq.mpr (by kernel_rfl) hv)
def heap_find_name.hint : Hn := .seq (.o 2) (.seq (.o 1) (.leaf))
def heap_find_name.vc (p0 : Int) (σ : Hp) (R : ByteArray -> Hp -> Prop) : Prop :=
 Nw (.cells #[.int .i64 p0] 180 (0, 0)) σ fun n1 v =>
 R (ByteArray.mk #[102, 105, 110, 100]) v
theorem heap_find_name.of_vc {p0 : Int} {σ : Hp} {R : ByteArray -> Hp -> Prop} (hv : heap_find_name.vc p0 σ R) : heap_find_name.call p0 σ R :=
 fnK_sound Tryz.func322 (x := heap_find_name.hint) (args := [.agg #[.int .i64 p0]]) (rs := [.one .str]) (R := R) (Eq.mpr (by kernel_rfl) hv)
def heap_drain_name.hint : Hn := .seq (.o 2) (.seq (.o 1) (.leaf))
def heap_drain_name.vc (σ : Hp) (R : ByteArray -> Hp -> Prop) : Prop :=
 Nw (.cells #[] 182 (0, 0)) σ fun n1 v =>
 R (ByteArray.mk #[100, 114, 97, 105, 110]) v
theorem heap_drain_name.of_vc {σ : Hp} {R : ByteArray -> Hp -> Prop} (hv : heap_drain_name.vc σ R) : heap_drain_name.call σ R :=
 fnK_sound Tryz.func323 (x := heap_drain_name.hint) (args := [.agg #[]]) (rs := [.one .str]) (R := R) (Eq.mpr (by kernel_rfl) hv)
def heap_transfer_name.hint : Hn := .seq (.o 2) (.seq (.o 1) (.leaf))
def heap_transfer_name.vc (p0 : Int) (p01 : Int) (σ : Hp) (R : ByteArray -> Hp -> Prop) : Prop :=
 Nw (.cells #[.int .i64 p0, .int .i64 p01] 186 (0, 0)) σ fun n1 v =>
 R (ByteArray.mk #[116, 114, 97, 110, 115, 102, 101, 114]) v
theorem heap_transfer_name.of_vc {p0 : Int} {p01 : Int} {σ : Hp} {R : ByteArray -> Hp -> Prop} (hv : heap_transfer_name.vc p0 p01 σ R) : heap_transfer_name.call p0 p01 σ R :=
 fnK_sound Tryz.func324 (x := heap_transfer_name.hint) (args := [.agg #[.int .i64 p0, .int .i64 p01]]) (rs := [.one .str]) (R := R) (Eq.mpr (by kernel_rfl) hv)
def heap_fill_name.hint : Hn := .seq (.o 2) (.seq (.o 1) (.leaf))
def heap_fill_name.vc (σ : Hp) (R : ByteArray -> Hp -> Prop) : Prop :=
 Nw (.cells #[] 189 (0, 0)) σ fun n1 v =>
 R (ByteArray.mk #[102, 105, 108, 108]) v
theorem heap_fill_name.of_vc {σ : Hp} {R : ByteArray -> Hp -> Prop} (hv : heap_fill_name.vc σ R) : heap_fill_name.call σ R :=
 fnK_sound Tryz.func325 (x := heap_fill_name.hint) (args := [.agg #[]]) (rs := [.one .str]) (R := R) (Eq.mpr (by kernel_rfl) hv)
def heap_central_name.hint : Hn := .seq (.o 2) (.seq (.o 1) (.leaf))
def heap_central_name.vc (p0 : Int) (p01 : Int) (σ : Hp) (R : ByteArray -> Hp -> Prop) : Prop :=
 Nw (.cells #[.int .i64 p0, .int .i64 p01] 190 (0, 0)) σ fun n1 v =>
 R (ByteArray.mk #[99, 101, 110, 116, 114, 97, 108]) v
theorem heap_central_name.of_vc {p0 : Int} {p01 : Int} {σ : Hp} {R : ByteArray -> Hp -> Prop} (hv : heap_central_name.vc p0 p01 σ R) : heap_central_name.call p0 p01 σ R :=
 fnK_sound Tryz.func326 (x := heap_central_name.hint) (args := [.agg #[.int .i64 p0, .int .i64 p01]]) (rs := [.one .str]) (R := R) (Eq.mpr (by kernel_rfl) hv)
def heap_grow_name.hint : Hn := .seq (.o 2) (.seq (.o 1) (.leaf))
def heap_grow_name.vc (p0 : Int) (p01 : Int) (σ : Hp) (R : ByteArray -> Hp -> Prop) : Prop :=
 Nw (.cells #[.int .i64 p0, .int .i64 p01] 192 (0, 0)) σ fun n1 v =>
 R (ByteArray.mk #[103, 114, 111, 119]) v
theorem heap_grow_name.of_vc {p0 : Int} {p01 : Int} {σ : Hp} {R : ByteArray -> Hp -> Prop} (hv : heap_grow_name.vc p0 p01 σ R) : heap_grow_name.call p0 p01 σ R :=
 fnK_sound Tryz.func327 (x := heap_grow_name.hint) (args := [.agg #[.int .i64 p0, .int .i64 p01]]) (rs := [.one .str]) (R := R) (Eq.mpr (by kernel_rfl) hv)
def heap_put_name.hint : Hn := .seq (.o 2) (.seq (.o 1) (.leaf))
def heap_put_name.vc (p0 : Int) (p01 : Int) (σ : Hp) (R : ByteArray -> Hp -> Prop) : Prop :=
 Nw (.cells #[.int .i64 p0, .int .i64 p01] 197 (0, 0)) σ fun n1 v =>
 R (ByteArray.mk #[112, 117, 116]) v
theorem heap_put_name.of_vc {p0 : Int} {p01 : Int} {σ : Hp} {R : ByteArray -> Hp -> Prop} (hv : heap_put_name.vc p0 p01 σ R) : heap_put_name.call p0 p01 σ R :=
 fnK_sound Tryz.func328 (x := heap_put_name.hint) (args := [.agg #[.int .i64 p0, .int .i64 p01]]) (rs := [.one .str]) (R := R) (Eq.mpr (by kernel_rfl) hv)
def heap_back_name.hint : Hn := .seq (.o 2) (.seq (.o 1) (.leaf))
def heap_back_name.vc (σ : Hp) (R : ByteArray -> Hp -> Prop) : Prop :=
 Nw (.cells #[] 200 (0, 0)) σ fun n1 v =>
 R (ByteArray.mk #[98, 97, 99, 107]) v
theorem heap_back_name.of_vc {σ : Hp} {R : ByteArray -> Hp -> Prop} (hv : heap_back_name.vc σ R) : heap_back_name.call σ R :=
 fnK_sound Tryz.func329 (x := heap_back_name.hint) (args := [.agg #[]]) (rs := [.one .str]) (R := R) (Eq.mpr (by kernel_rfl) hv)
def heap_give_name.hint : Hn := .seq (.o 2) (.seq (.o 1) (.leaf))
def heap_give_name.vc (p0 : Int) (p01 : Int) (σ : Hp) (R : ByteArray -> Hp -> Prop) : Prop :=
 Nw (.cells #[.int .i64 p0, .int .i64 p01] 204 (0, 0)) σ fun n1 v =>
 R (ByteArray.mk #[103, 105, 118, 101]) v
theorem heap_give_name.of_vc {p0 : Int} {p01 : Int} {σ : Hp} {R : ByteArray -> Hp -> Prop} (hv : heap_give_name.vc p0 p01 σ R) : heap_give_name.call p0 p01 σ R :=
 fnK_sound Tryz.func330 (x := heap_give_name.hint) (args := [.agg #[.int .i64 p0, .int .i64 p01]]) (rs := [.one .str]) (R := R) (Eq.mpr (by kernel_rfl) hv)
end Go.Proofs