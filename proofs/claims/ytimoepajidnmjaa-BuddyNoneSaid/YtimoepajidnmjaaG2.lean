/- Printed by gen.py: verification conditions. -/
import Derived.Test.YtimoepajidnmjaaGC
namespace Go.Proofs
open Go.Vc
set_option linter.unusedVariables false
def freeholdref03_Heap_all.hint : Hn := .seq (.reg (.seq [.op])) (.seq (.seq (.reg (.seq [.op, .op])) (.block (.loop [(9, .one (.i .i64))] (.seq (.seq (.reg (.seq [.op, .op, .op, .op, .op])) (.cond (.leaf) (.leaf))) (.seq (.block (.seq (.reg (.seq [.op, .op, .op, .op, .op, .op, .op, .op, .op])) (.cond (.seq (.reg (.seq [.op])) (.leaf)) (.leaf)))) (.reg (.seq [.op, .op, .op]))))))) (.seq (.reg (.seq [.op])) (.leaf)))
def freeholdref03_Heap_all.vc (vh : Option Addr) (start : Int) (pages : Int) (free : Bool) (σ : Hp) (R : Bool → Hp → Prop) : Prop :=
 LoopK [(.i .i64)] (fun I => I start σ) fun J (p : Int) v =>
 Ar .i64 (start + pages) fun t14 =>
 If (decide (p < t14)) (NilP vh fun a19 =>
  LdS (a19.add 0) v fun t21 =>
  Ix t21.a t21.len p 1 fun a23 =>
  LdB a23 v fun t24 =>
  If (!(t24 == free)) (R false v)
   (Ar .i64 (p + 1) fun p1 =>
   J p1 v))
  (R true v)
set_option maxRecDepth 100000 in
theorem freeholdref03_Heap_all.vc_eq (vh : Option Addr) (start : Int) (pages : Int) (free : Bool) (σ : Hp) (R : Bool → Hp → Prop) : fnK Try.prog Try.f58 freeholdref03_Heap_all.hint [.pointer vh, .int .i64 start, .int .i64 pages, .bool free] [.one .b] R σ = freeholdref03_Heap_all.vc vh start pages free σ R := by kernel_rfl
theorem freeholdref03_Heap_all.of_vc {vh : Option Addr} {start : Int} {pages : Int} {free : Bool} {σ : Hp} {R : Bool → Hp → Prop} (hv : freeholdref03_Heap_all.vc vh start pages free σ R) : freeholdref03_Heap_all.call vh start pages free σ R :=
  fnK_sound Try.func58 (x := freeholdref03_Heap_all.hint) (args := [.pointer vh, .int .i64 start, .int .i64 pages, .bool free]) (rs := [.one .b]) (R := R) (by rw [freeholdref03_Heap_all.vc_eq]; exact hv)
def freeholdref03_Heap_set.hint : Hn := .seq (.reg (.seq [.op, .op])) (.block (.loop [(8, .one (.i .i64))] (.seq (.seq (.reg (.seq [.op, .op, .op, .op, .op])) (.cond (.leaf) (.leaf))) (.seq (.block (.reg (.seq [.op, .op, .op, .op, .op, .op, .op, .op]))) (.reg (.seq [.op, .op, .op]))))))
def freeholdref03_Heap_set.vc (vh : Option Addr) (start : Int) (pages : Int) (free : Bool) (σ : Hp) (R : Hp → Prop) : Prop :=
 LoopK [(.i .i64)] (fun I => I start σ) fun J (p : Int) v =>
 Ar .i64 (start + pages) fun t13 =>
 If (decide (p < t13)) (NilP vh fun a18 =>
  LdS (a18.add 0) v fun t20 =>
  Ix t20.a t20.len p 1 fun a23 =>
  St1 a23 (.bool free) v fun v1 =>
  Ar .i64 (p + 1) fun p1 =>
  J p1 v1)
  (R v)
set_option maxRecDepth 100000 in
theorem freeholdref03_Heap_set.vc_eq (vh : Option Addr) (start : Int) (pages : Int) (free : Bool) (σ : Hp) (R : Hp → Prop) : fnK Try.prog Try.f59 freeholdref03_Heap_set.hint [.pointer vh, .int .i64 start, .int .i64 pages, .bool free] [] R σ = freeholdref03_Heap_set.vc vh start pages free σ R := by kernel_rfl
theorem freeholdref03_Heap_set.of_vc {vh : Option Addr} {start : Int} {pages : Int} {free : Bool} {σ : Hp} {R : Hp → Prop} (hv : freeholdref03_Heap_set.vc vh start pages free σ R) : freeholdref03_Heap_set.call vh start pages free σ R :=
  fnK_sound Try.func59 (x := freeholdref03_Heap_set.hint) (args := [.pointer vh, .int .i64 start, .int .i64 pages, .bool free]) (rs := []) (R := R) (by rw [freeholdref03_Heap_set.vc_eq]; exact hv)
def freeholdref03_Heap_place.hint : Hn := .seq (.reg (.seq [.op])) (.seq (.reg (.seq [.op, .op, .op, .op, .op, .grd true 4 [.op, .op, .op, .op], .op])) (.leaf))
def freeholdref03_Heap_place.vc (vh : Option Addr) (start : Int) (size : Int) (σ : Hp) (R : Bool → Hp → Prop) : Prop :=
 freeholdref03_Heap_in.call vh start size σ fun t10 v =>
 JnB (fun r v1 =>
  R r v1) fun J =>
 If t10 (freeholdref03_Heap_all.call vh start size true v fun t15 v2 =>
  J t15 v2)
  (J false v)
set_option maxRecDepth 100000 in
theorem freeholdref03_Heap_place.vc_eq (vh : Option Addr) (start : Int) (size : Int) (σ : Hp) (R : Bool → Hp → Prop) : fnK Try.prog Try.f60 freeholdref03_Heap_place.hint [.pointer vh, .int .i64 start, .int .i64 size] [.one .b] R σ = freeholdref03_Heap_place.vc vh start size σ R := by kernel_rfl
theorem freeholdref03_Heap_place.of_vc {vh : Option Addr} {start : Int} {size : Int} {σ : Hp} {R : Bool → Hp → Prop} (hv : freeholdref03_Heap_place.vc vh start size σ R) : freeholdref03_Heap_place.call vh start size σ R :=
  fnK_sound Try.func60 (x := freeholdref03_Heap_place.hint) (args := [.pointer vh, .int .i64 start, .int .i64 size]) (rs := [.one .b]) (R := R) (by rw [freeholdref03_Heap_place.vc_eq]; exact hv)
end Go.Proofs
