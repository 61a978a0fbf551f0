/- Texts joined. -/
import Derived.Test.YtmjjhknmbflfhaaGreatDoorRows
import Derived.ChangeVars
import Derived.JoinedOf
import Derived.RowKit
import Derived.WalkKit
import Derived.ProofKit
import Derived.OpenShut
import Derived.ChangeOld
import Derived.Carry
import Derived.Test.YtmjjhknmbflfhaaGreatDoorN4
-- Gref10
namespace Go.Proofs
open Go.Vc
set_option linter.unusedVariables false
set_option maxRecDepth 100000
def freeholdref10_Arena_Grow.hint : Hn := .seq (.o 1) (.seq (.seq (.o 4) (.seq (.o 2) (.cond (.seq (.o 2) (.leaf)) (.leaf)))) (.seq (.o 15) (.seq (.seq (.o 2) (.cond (.seq (.o 2) (.leaf)) (.leaf))) (.seq (.o 10) (.leaf)))))
def freeholdref10_Arena_Grow.vc (a : Option Addr) (vclass : Int) (σ : Hp) (R : Int → Hp → Prop) : Prop :=
 freeholdref10_Arena_wrong.call a vclass σ fun ve v =>
 If (ve != 0) (R ve v)
  (NilP a fun a17 =>
  LdS (a17.add 0) v fun t19 =>
  Ix t19.a t19.len vclass 3 fun a21 =>
  LdI .i64 (a21.add 1) v fun t23 =>
  freeholdref10_Arena_get.call a t23 1 v fun t24 t241 v1 =>
  If (t241 != 0) (R t241 v1)
   (NilP a fun a31 =>
   LdS (a31.add 3) v1 fun t33 =>
   Ix t33.a t33.len vclass 1 fun a35 =>
   LdP a35 v1 fun t36 =>
   freeholdref07_List_Add.call t36 t24 v1 fun t38 v2 =>
   R t38 v2))
theorem freeholdref10_Arena_Grow.of_vc {a : Option Addr} {vclass : Int} {σ : Hp} {R : Int → Hp → Prop} (hv : freeholdref10_Arena_Grow.vc a vclass σ R) : freeholdref10_Arena_Grow.call a vclass σ R :=
 fnK_sound Tryz.func92 (x := freeholdref10_Arena_Grow.hint) (args := [.pointer a, .int .i64 vclass]) (rs := [.one (.i .i64)]) (R := R) (Eq.mpr (by kernel_rfl) hv)
def freeholdref10_Arena_FromCentral.hint : Hn := .seq (.o 2) (.seq (.seq (.o 4) (.seq (.o 2) (.cond (.seq (.o 3) (.leaf)) (.leaf)))) (.seq (.o 13) (.leaf)))
def freeholdref10_Arena_FromCentral.vc (a : Option Addr) (vclass : Int) (many : Int) (σ : Hp) (R : Sl → Int → Hp → Prop) : Prop :=
 freeholdref10_Arena_wrong.call a vclass σ fun ve v =>
 If (ve != 0) (R ⟨none, 0, 0⟩ ve v)
  (NilP a fun a16 =>
  LdS (a16.add 3) v fun t18 =>
  Ix t18.a t18.len vclass 1 fun a20 =>
  LdP a20 v fun t21 =>
  freeholdref07_List_Take.call t21 many v fun t23 t231 v1 =>
  R t23 t231 v1)
theorem freeholdref10_Arena_FromCentral.of_vc {a : Option Addr} {vclass : Int} {many : Int} {σ : Hp} {R : Sl → Int → Hp → Prop} (hv : freeholdref10_Arena_FromCentral.vc a vclass many σ R) : freeholdref10_Arena_FromCentral.call a vclass many σ R :=
 fnK_sound Tryz.func93 (x := freeholdref10_Arena_FromCentral.hint) (args := [.pointer a, .int .i64 vclass, .int .i64 many]) (rs := [.one .s, .one (.i .i64)]) (R := R) (Eq.mpr (by kernel_rfl) hv)
def freeholdref10_Arena_ToCentral.hint : Hn := .seq (.o 1) (.seq (.seq (.o 4) (.seq (.o 2) (.cond (.seq (.o 2) (.leaf)) (.leaf)))) (.seq (.o 14) (.seq (.o 3) (.seq (.o 2) (.leaf)))))
def freeholdref10_Arena_ToCentral.vc (a : Option Addr) (vclass : Int) (objects : Sl) (σ : Hp) (R : Int → Hp → Prop) : Prop :=
 freeholdref10_Arena_wrong.call a vclass σ fun ve v =>
 If (ve != 0) (R ve v)
  (NilP a fun a18 =>
  LdS (a18.add 3) v fun t20 =>
  Ix t20.a t20.len vclass 1 fun a22 =>
  LdP a22 v fun t23 =>
  freeholdref07_List_Put.call t23 objects v fun t25 t251 v1 =>
  freeholdref10_Arena_give.call a t25 v1 fun v2 =>
  R t251 v2)
theorem freeholdref10_Arena_ToCentral.of_vc {a : Option Addr} {vclass : Int} {objects : Sl} {σ : Hp} {R : Int → Hp → Prop} (hv : freeholdref10_Arena_ToCentral.vc a vclass objects σ R) : freeholdref10_Arena_ToCentral.call a vclass objects σ R :=
 fnK_sound Tryz.func94 (x := freeholdref10_Arena_ToCentral.hint) (args := [.pointer a, .int .i64 vclass, .slice objects.a objects.len objects.cap]) (rs := [.one (.i .i64)]) (R := R) (Eq.mpr (by kernel_rfl) hv)
def freeholdref10_Arena_FromTransfer.hint : Hn := .seq (.o 2) (.seq (.seq (.o 4) (.seq (.o 2) (.cond (.seq (.o 3) (.leaf)) (.leaf)))) (.seq (.o 12) (.leaf)))
def freeholdref10_Arena_FromTransfer.vc (a : Option Addr) (vclass : Int) (σ : Hp) (R : Sl → Int → Hp → Prop) : Prop :=
 freeholdref10_Arena_wrong.call a vclass σ fun ve v =>
 If (ve != 0) (R ⟨none, 0, 0⟩ ve v)
  (NilP a fun a14 =>
  LdS (a14.add 4) v fun t16 =>
  Ix t16.a t16.len vclass 1 fun a18 =>
  LdP a18 v fun t19 =>
  freeholdref08_Cache_Remove.call t19 v fun t20 t201 v1 =>
  R t20 t201 v1)
theorem freeholdref10_Arena_FromTransfer.of_vc {a : Option Addr} {vclass : Int} {σ : Hp} {R : Sl → Int → Hp → Prop} (hv : freeholdref10_Arena_FromTransfer.vc a vclass σ R) : freeholdref10_Arena_FromTransfer.call a vclass σ R :=
 fnK_sound Tryz.func95 (x := freeholdref10_Arena_FromTransfer.hint) (args := [.pointer a, .int .i64 vclass]) (rs := [.one .s, .one (.i .i64)]) (R := R) (Eq.mpr (by kernel_rfl) hv)
def freeholdref10_Arena_ToTransfer.hint : Hn := .seq (.o 2) (.seq (.seq (.o 4) (.seq (.o 2) (.cond (.seq (.o 3) (.leaf)) (.leaf)))) (.seq (.seq (.o 11) (.cond (.seq (.o 2) (.leaf)) (.leaf))) (.seq (.seq (.o 1) (.block (.loop [(9, .one (.i .i64))] (.seq (.seq (.o 4) (.cond (.leaf) (.leaf))) (.seq (.block (.seq (.reg (.held true [] (.take 0 (.take 1 (.take 2 (.take 3 (.take 4 (.take 5 (.take 6 (.take 7 (.take 8 (.take 9 (.take 10 (.all [(11, .take 12 (.take 13 (.take 14 (.take 15 (.take 16 (.done))))))])))))))))))))) (.seq (.reg (.seq [.op, .op, .op, .grd false 2 [.op, .op]])) (.cond (.seq (.o 2) (.leaf)) (.leaf))))) (.o 3)))))) (.seq (.o 13) (.leaf)))))
def freeholdref10_Arena_ToTransfer.vc (a : Option Addr) (vclass : Int) (objects : Sl) (σ : Hp) (R : Bool → Int → Hp → Prop) : Prop :=
 freeholdref10_Arena_wrong.call a vclass σ fun ve v =>
 If (ve != 0) (R false ve v)
  (NilP a fun a21 =>
  LdS (a21.add 0) v fun t23 =>
  Ix t23.a t23.len vclass 3 fun a25 =>
  LdI .i64 (a25.add 2) v fun t27 =>
  If (((objects.len : Nat) : Int) != t27) (R false 1 v)
   (LoopK [(.i .i64)] (fun I => I 0 v) fun J (i : Int) v1 =>
   If (decide (i < ((objects.len : Nat) : Int))) (Held v1 fun S =>
    NilP a fun a37 =>
    LdH S .s (a37.add 3) fun (t39 : Sl) =>
    Ix t39.a t39.len vclass 1 fun a41 =>
    LdH S .p a41 fun (t42 : Option Addr) =>
    Ix objects.a objects.len i 1 fun a45 =>
    LdH S (.i .i64) a45 fun (t46 : Int) =>
    freeholdref07_List_IsTaken.call t42 t46 v1 fun t47 t471 v2 =>
    And (S v2) <|
    JnB (fun r v3 =>
     If r (R false 8 v3)
      (Ar .i64 (i + 1) fun i1 =>
      J i1 v3)) fun J1 =>
    If (t471 != 0) (J1 true v2)
     (J1 (!t47) v2))
    (NilP a fun a57 =>
    LdS (a57.add 4) v1 fun t59 =>
    Ix t59.a t59.len vclass 1 fun a61 =>
    LdP a61 v1 fun t62 =>
    freeholdref08_Cache_Insert.call t62 objects v1 fun t64 t641 v4 =>
    R t64 t641 v4)))
theorem freeholdref10_Arena_ToTransfer.of_vc {a : Option Addr} {vclass : Int} {objects : Sl} {σ : Hp} {R : Bool → Int → Hp → Prop} (hv : freeholdref10_Arena_ToTransfer.vc a vclass objects σ R) : freeholdref10_Arena_ToTransfer.call a vclass objects σ R :=
 fnK_sound Tryz.func96 (x := freeholdref10_Arena_ToTransfer.hint) (args := [.pointer a, .int .i64 vclass, .slice objects.a objects.len objects.cap]) (rs := [.one .b, .one (.i .i64)]) (R := R) (Eq.mpr (by kernel_rfl) hv)
def freeholdref10_Arena_TakePages.hint : Hn := .seq (.o 2) (.seq (.seq (.o 3) (.cond (.seq (.o 2) (.leaf)) (.leaf))) (.seq (.seq (.reg (.seq [.op, .op, .op, .grd false 2 [.op, .op], .op, .grd false 3 [.op, .op, .op]])) (.cond (.seq (.o 2) (.leaf)) (.leaf))) (.seq (.o 9) (.seq (.seq (.o 2) (.cond (.seq (.o 3) (.leaf)) (.leaf))) (.seq (.o 13) (.seq (.o 3) (.leaf)))))))
def freeholdref10_Arena_TakePages.vc (a : Option Addr) (pages : Int) (align : Int) (σ : Hp) (R : Int → Int → Hp → Prop) : Prop :=
 freeholdref10_Arena_made.call a σ fun t11 v =>
 If (!t11) (R 0 5 v)
  (JnB (fun r v1 =>
   JnB (fun r1 v2 =>
    If r1 (R 0 1 v2)
     (freeholdref10_Arena_get.call a pages align v2 fun t28 t281 v3 =>
     If (t281 != 0) (R 0 t281 v3)
      (NilP a fun a36 =>
      LdS (a36.add 6) v3 fun t38 =>
      Nw (.cells #[.int .i64 t28, .int .i64 pages] 123 (0, 0)) v3 fun n42 v4 =>
      App t38 2 16 123 [.int .i64 0, .int .i64 0] ⟨(some n42), 1, 1⟩ v4 fun t43 v5 =>
      NilP a fun a44 =>
      St1 (a44.add 6) (.slice t43.a t43.len t43.cap) v5 fun v6 =>
      R t28 0 v6))) fun J1 =>
   If r (J1 true v1)
    (freeholdref01_Power.call align 16 v1 fun t21 v7 =>
    J1 (!t21) v7)) fun J =>
  If (decide (pages < 1)) (J true v)
   (J (decide (pages > 64)) v))
theorem freeholdref10_Arena_TakePages.of_vc {a : Option Addr} {pages : Int} {align : Int} {σ : Hp} {R : Int → Int → Hp → Prop} (hv : freeholdref10_Arena_TakePages.vc a pages align σ R) : freeholdref10_Arena_TakePages.call a pages align σ R :=
 fnK_sound Tryz.func97 (x := freeholdref10_Arena_TakePages.hint) (args := [.pointer a, .int .i64 pages, .int .i64 align]) (rs := [.one (.i .i64), .one (.i .i64)]) (R := R) (Eq.mpr (by kernel_rfl) hv)
def freeholdref10_Arena_GivePages.hint : Hn := .seq (.o 1) (.seq (.seq (.o 3) (.cond (.seq (.o 1) (.leaf)) (.leaf))) (.seq (.o 2) (.seq (.seq (.o 1) (.block (.loop [(5, .one .s), (6, .one .s), (7, .one (.i .i64))] (.seq (.seq (.o 7) (.cond (.leaf) (.leaf))) (.seq (.block (.seq (.o 10) (.cond (.o 11) (.o 11)))) (.o 3)))))) (.seq (.seq (.o 3) (.cond (.seq (.o 1) (.leaf)) (.leaf))) (.seq (.o 5) (.seq (.o 3) (.seq (.o 1) (.leaf))))))))
def freeholdref10_Arena_GivePages.vc (a : Option Addr) (start : Int) (σ : Hp) (R : Int → Hp → Prop) : Prop :=
 freeholdref10_Arena_made.call a σ fun t9 v =>
 If (!t9) (R 5 v)
  (LoopK [.s, .s, (.i .i64)] (fun I => I ⟨none, 0, 0⟩ ⟨none, 0, 0⟩ 0 v) fun J (kept : Sl) (gone : Sl) (i : Int) v1 =>
  NilP a fun a13 =>
  LdS (a13.add 6) v1 fun t15 =>
  If (decide (i < ((t15.len : Nat) : Int))) (NilP a fun a21 =>
   LdS (a21.add 6) v1 fun t23 =>
   Ix t23.a t23.len i 2 fun a25 =>
   LdI .i64 (a25.add 0) v1 fun t27 =>
   If (t27 == start) (NilP a fun a32 =>
    LdS (a32.add 6) v1 fun t34 =>
    Ix t34.a t34.len i 2 fun a36 =>
    LdI .i64 (a36.add 0) v1 fun t37 =>
    LdI .i64 (a36.add 1) v1 fun t371 =>
    Nw (.cells #[.int .i64 t37, .int .i64 t371] 123 (0, 0)) v1 fun n38 v2 =>
    App gone 2 16 123 [.int .i64 0, .int .i64 0] ⟨(some n38), 1, 1⟩ v2 fun gone1 v3 =>
    Ar .i64 (i + 1) fun i1 =>
    J kept gone1 i1 v3)
    (NilP a fun a42 =>
    LdS (a42.add 6) v1 fun t44 =>
    Ix t44.a t44.len i 2 fun a46 =>
    LdI .i64 (a46.add 0) v1 fun t47 =>
    LdI .i64 (a46.add 1) v1 fun t471 =>
    Nw (.cells #[.int .i64 t47, .int .i64 t471] 123 (0, 0)) v1 fun n48 v4 =>
    App kept 2 16 123 [.int .i64 0, .int .i64 0] ⟨(some n48), 1, 1⟩ v4 fun kept1 v5 =>
    Ar .i64 (i + 1) fun i2 =>
    J kept1 gone i2 v5))
   (If (((gone.len : Nat) : Int) == 0) (R 8 v1)
    (NilP a fun a55 =>
    St1 (a55.add 6) (.slice kept.a kept.len kept.cap) v1 fun v6 =>
    freeholdref10_Arena_give.call a gone v6 fun v7 =>
    R 0 v7)))
theorem freeholdref10_Arena_GivePages.of_vc {a : Option Addr} {start : Int} {σ : Hp} {R : Int → Hp → Prop} (hv : freeholdref10_Arena_GivePages.vc a start σ R) : freeholdref10_Arena_GivePages.call a start σ R :=
 fnK_sound Tryz.func98 (x := freeholdref10_Arena_GivePages.hint) (args := [.pointer a, .int .i64 start]) (rs := [.one (.i .i64)]) (R := R) (Eq.mpr (by kernel_rfl) hv)
def freeholdref10_Arena_Counts.hint : Hn := .seq (.o 6) (.seq (.o 5) (.seq (.seq (.o 3) (.cond (.seq (.o 6) (.leaf)) (.leaf))) (.seq (.seq (.o 1) (.block (.loop [(8, .one (.i .i64)), (9, .one (.i .i64)), (10, .one (.i .i64)), (11, .one (.i .i64)), (13, .one (.i .i64))] (.seq (.seq (.o 7) (.cond (.leaf) (.leaf))) (.seq (.block (.seq (.o 10) (.seq (.reg (.held true [] (.take 0 (.take 1 (.take 2 (.take 3 (.take 4 (.take 5 (.take 6 (.take 7 (.take 10 (.take 11 (.take 12 (.take 13 (.take 14 (.take 15 (.take 16 (.take 17 (.all [(8, .take 9 (.take 18 (.take 19 (.take 20 (.done)))))]))))))))))))))))))) (.seq (.reg (.held true [] (.take 0 (.take 1 (.take 2 (.take 3 (.take 4 (.take 5 (.take 6 (.take 7 (.take 9 (.take 10 (.take 11 (.take 12 (.take 13 (.take 14 (.take 15 (.take 16 (.all [(8, .take 17 (.take 18 (.take 19 (.done))))]))))))))))))))))))) (.seq (.o 13) (.o 13)))))) (.o 3)))))) (.seq (.seq (.o 1) (.block (.loop [(12, .one (.i .i64)), (15, .one (.i .i64))] (.seq (.seq (.o 7) (.cond (.leaf) (.leaf))) (.seq (.block (.o 11)) (.o 3)))))) (.seq (.reg (.held true [] (.take 0 (.take 1 (.take 2 (.take 3 (.take 4 (.take 5 (.take 6 (.take 7 (.take 8 (.take 10 (.take 11 (.take 12 (.take 13 (.all [(9, .all [(14, .take 15 (.take 16 (.take 17 (.take 18 (.take 19 (.take 20 (.take 21 (.done))))))))])])))))))))))))))) (.leaf))))))
def freeholdref10_Arena_Counts.vc (a : Option Addr) (σ : Hp) (R : Int → Int → Int → Int → Int → Int → Hp → Prop) : Prop :=
 freeholdref10_Arena_made.call a σ fun t17 v =>
 If (!t17) (R 0 0 0 0 0 0 v)
  (LoopK [(.i .i64), (.i .i64), (.i .i64), (.i .i64), (.i .i64)] (fun I => I 0 0 0 0 0 v) fun J (moved : Int) (room : Int) (tails : Int) (spans : Int) (i : Int) v1 =>
  NilP a fun a21 =>
  LdS (a21.add 0) v1 fun t23 =>
  If (decide (i < ((t23.len : Nat) : Int))) (NilP a fun a29 =>
   LdS (a29.add 3) v1 fun t31 =>
   Ix t31.a t31.len i 1 fun a33 =>
   LdP a33 v1 fun t34 =>
   freeholdref07_List_Spans.call t34 v1 fun t35 v2 =>
   Held v2 fun S =>
   NilP a fun a39 =>
   LdH S .s (a39.add 4) fun (t41 : Sl) =>
   Ix t41.a t41.len i 1 fun a43 =>
   LdH S .p a43 fun (t44 : Option Addr) =>
   NilP a fun a48 =>
   LdH S .s (a48.add 0) fun (t50 : Sl) =>
   Ix t50.a t50.len i 3 fun a52 =>
   LdH S (.i .i64) (a52.add 0) fun (t54 : Int) =>
   freeholdref08_Cache_Objects.call t44 v2 fun t45 v3 =>
   And (S v3) <|
   Ar .i64 (((t45.len : Nat) : Int) * t54) fun t55 =>
   Ar .i64 (moved + t55) fun moved1 =>
   Held v3 fun S1 =>
   NilP a fun a59 =>
   LdH S1 .s (a59.add 3) fun (t61 : Sl) =>
   Ix t61.a t61.len i 1 fun a63 =>
   LdH S1 .p a63 fun (t64 : Option Addr) =>
   NilP a fun a67 =>
   LdH S1 .s (a67.add 0) fun (t69 : Sl) =>
   Ix t69.a t69.len i 3 fun a71 =>
   LdH S1 (.i .i64) (a71.add 0) fun (t73 : Int) =>
   freeholdref07_List_Room.call t64 v3 fun t65 v4 =>
   And (S1 v4) <|
   Ar .i64 (t65 * t73) fun t74 =>
   Ar .i64 (room + t74) fun room1 =>
   NilP a fun a79 =>
   LdS (a79.add 0) v4 fun t81 =>
   Ix t81.a t81.len i 3 fun a83 =>
   LdI .i64 (a83.add 0) v4 fun t84 =>
   LdI .i64 (a83.add 1) v4 fun t841 =>
   LdI .i64 (a83.add 2) v4 fun t842 =>
   freeholdref01_Tail.call t84 t841 t842 v4 fun t85 v5 =>
   Ar .i64 (((t35.len : Nat) : Int) * t85) fun t86 =>
   Ar .i64 (tails + t86) fun tails1 =>
   NilP a fun a91 =>
   LdS (a91.add 0) v5 fun t93 =>
   Ix t93.a t93.len i 3 fun a95 =>
   LdI .i64 (a95.add 1) v5 fun t97 =>
   Ar .i64 (((t35.len : Nat) : Int) * t97) fun t98 =>
   Ar .i64 (spans + t98) fun spans1 =>
   Ar .i64 (i + 1) fun i1 =>
   J moved1 room1 tails1 spans1 i1 v5)
   (LoopK [(.i .i64), (.i .i64)] (fun I1 => I1 0 0 v1) fun J1 (large : Int) (i2 : Int) v6 =>
   NilP a fun a102 =>
   LdS (a102.add 6) v6 fun t104 =>
   If (decide (i2 < ((t104.len : Nat) : Int))) (NilP a fun a111 =>
    LdS (a111.add 6) v6 fun t113 =>
    Ix t113.a t113.len i2 2 fun a115 =>
    LdI .i64 (a115.add 1) v6 fun t117 =>
    Ar .i64 (large + t117) fun large1 =>
    Ar .i64 (i2 + 1) fun i3 =>
    J1 large1 i3 v6)
    (Held v6 fun S2 =>
    NilP a fun a125 =>
    LdH S2 .p (a125.add 5) fun (t127 : Option Addr) =>
    NilP a fun a130 =>
    LdH S2 .p (a130.add 5) fun (t132 : Option Addr) =>
    freeholdref04_Tracker_Count.call t127 2 v6 fun t128 v7 =>
    And (S2 v7) <|
    freeholdref04_Tracker_Count.call t132 3 v7 fun t133 v8 =>
    And (S2 v8) <|
    Ar .i64 (t128 + t133) fun t134 =>
    R moved room tails spans large t134 v8)))
theorem freeholdref10_Arena_Counts.of_vc {a : Option Addr} {σ : Hp} {R : Int → Int → Int → Int → Int → Int → Hp → Prop} (hv : freeholdref10_Arena_Counts.vc a σ R) : freeholdref10_Arena_Counts.call a σ R :=
 fnK_sound Tryz.func100 (x := freeholdref10_Arena_Counts.hint) (args := [.pointer a]) (rs := [.one (.i .i64), .one (.i .i64), .one (.i .i64), .one (.i .i64), .one (.i .i64), .one (.i .i64)]) (R := R) (Eq.mpr (by kernel_rfl) hv)
def freeholdref10_Arena_Owns.hint : Hn := .seq (.o 1) (.seq (.reg (.seq [.op, .op, .op, .grd true 7 [.op, .op, .op, .op, .op, .op, .op], .op])) (.leaf))
def freeholdref10_Arena_Owns.vc (a : Option Addr) (page : Int) (σ : Hp) (R : Bool → Hp → Prop) : Prop :=
 freeholdref10_Arena_made.call a σ fun t6 v =>
 JnB (fun r v1 =>
  R r v1) fun J =>
 If t6 (NilP a fun a9 =>
  LdP (a9.add 5) v fun t11 =>
  freeholdref04_Tracker_State.call t11 page v fun t13 v2 =>
  J (decide (t13 > 0)) v2)
  (J false v)
theorem freeholdref10_Arena_Owns.of_vc {a : Option Addr} {page : Int} {σ : Hp} {R : Bool → Hp → Prop} (hv : freeholdref10_Arena_Owns.vc a page σ R) : freeholdref10_Arena_Owns.call a page σ R :=
 fnK_sound Tryz.func101 (x := freeholdref10_Arena_Owns.hint) (args := [.pointer a, .int .i64 page]) (rs := [.one .b]) (R := R) (Eq.mpr (by kernel_rfl) hv)
def freeholdref10_Arena_IsTaken.hint : Hn := .seq (.o 1) (.seq (.o 10) (.seq (.seq (.reg (.seq [.op, .op, .op, .grd false 3 [.op, .op, .op]])) (.cond (.seq (.o 1) (.leaf)) (.leaf))) (.seq (.seq (.o 2) (.cond (.seq (.o 1) (.leaf)) (.leaf))) (.seq (.o 14) (.seq (.o 2) (.leaf))))))
def freeholdref10_Arena_IsTaken.vc (a : Option Addr) (addr : Int) (σ : Hp) (R : Bool → Hp → Prop) : Prop :=
 freeholdref10_Arena_Find.call a addr σ fun t13 t131 t132 v =>
 JnB (fun r v1 =>
  If r (R false v1)
   (If (decide (t13 < 0)) (R true v1)
    (NilP a fun a28 =>
    LdS (a28.add 3) v1 fun t30 =>
    Ix t30.a t30.len t13 1 fun a32 =>
    LdP a32 v1 fun t33 =>
    freeholdref07_List_IsTaken.call t33 addr v1 fun t35 t351 v2 =>
    R t35 v2))) fun J =>
 If (t132 != 0) (J true v)
  (J (t131 != addr) v)
theorem freeholdref10_Arena_IsTaken.of_vc {a : Option Addr} {addr : Int} {σ : Hp} {R : Bool → Hp → Prop} (hv : freeholdref10_Arena_IsTaken.vc a addr σ R) : freeholdref10_Arena_IsTaken.call a addr σ R :=
 fnK_sound Tryz.func102 (x := freeholdref10_Arena_IsTaken.hint) (args := [.pointer a, .int .i64 addr]) (rs := [.one .b]) (R := R) (Eq.mpr (by kernel_rfl) hv)
def freeholdref10_Arena_wrong.hint : Hn := .seq (.o 1) (.seq (.seq (.o 3) (.cond (.seq (.o 1) (.leaf)) (.leaf))) (.seq (.seq (.reg (.seq [.op, .op, .op, .grd false 7 [.op, .op, .op, .op, .op, .op, .op]])) (.cond (.seq (.o 1) (.leaf)) (.leaf))) (.seq (.o 1) (.leaf))))
def freeholdref10_Arena_wrong.vc (a : Option Addr) (vclass : Int) (σ : Hp) (R : Int → Hp → Prop) : Prop :=
 freeholdref10_Arena_made.call a σ fun t6 v =>
 If (!t6) (R 5 v)
  (JnB (fun r v1 =>
   If r (R 1 v1)
    (R 0 v1)) fun J =>
  If (decide (vclass < 0)) (J true v)
   (NilP a fun a13 =>
   LdS (a13.add 0) v fun t15 =>
   J (decide (vclass ≥ ((t15.len : Nat) : Int))) v))
theorem freeholdref10_Arena_wrong.of_vc {a : Option Addr} {vclass : Int} {σ : Hp} {R : Int → Hp → Prop} (hv : freeholdref10_Arena_wrong.vc a vclass σ R) : freeholdref10_Arena_wrong.call a vclass σ R :=
 fnK_sound Tryz.func172 (x := freeholdref10_Arena_wrong.hint) (args := [.pointer a, .int .i64 vclass]) (rs := [.one (.i .i64)]) (R := R) (Eq.mpr (by kernel_rfl) hv)
def freeholdref10_Arena_get.hint : Hn := .seq (.o 2) (.seq (.o 10) (.sjn [(8, .one (.i .i64)), (9, .one (.i .i64))] (.seq (.reg (.seq [.op, .op, .op, .grd true 4 [.op, .op, .op, .op]])) (.cond (.o 10) (.leaf))) (.seq (.seq (.o 2) (.cond (.seq (.o 3) (.leaf)) (.leaf))) (.seq (.o 7) (.seq (.o 3) (.leaf))))))
def freeholdref10_Arena_get.vc (a : Option Addr) (pages : Int) (align : Int) (σ : Hp) (R : Int → Int → Hp → Prop) : Prop :=
 freeholdref10_Arena_free.call a σ fun t12 v =>
 freeholdref03_Heap_Take.call t12 pages align v fun t15 t151 v1 =>
 Jn [(.i .i64), (.i .i64)] (fun (vat : Int) (ve : Int) v2 =>
  If (ve != 0) (R 0 ve v2)
   (NilP a fun a38 =>
   LdP (a38.add 5) v2 fun t40 =>
   freeholdref04_Tracker_Use.call t40 vat pages v2 fun t43 v3 =>
   R vat 0 v3)) fun J =>
 JnB (fun r v4 =>
  If r (freeholdref10_Arena_free.call a v4 fun t28 v5 =>
   freeholdref03_Heap_Take.call t28 pages align v5 fun t31 t311 v6 =>
   J t31 t311 v6)
   (J t15 t151 v4)) fun J1 =>
 If (t151 == 6) (freeholdref10_Arena_mapped.call a pages align v1 fun t24 v7 =>
  J1 t24 v7)
  (J1 false v1)
theorem freeholdref10_Arena_get.of_vc {a : Option Addr} {pages : Int} {align : Int} {σ : Hp} {R : Int → Int → Hp → Prop} (hv : freeholdref10_Arena_get.vc a pages align σ R) : freeholdref10_Arena_get.call a pages align σ R :=
 fnK_sound Tryz.func173 (x := freeholdref10_Arena_get.hint) (args := [.pointer a, .int .i64 pages, .int .i64 align]) (rs := [.one (.i .i64), .one (.i .i64)]) (R := R) (Eq.mpr (by kernel_rfl) hv)
def freeholdref10_Arena_give.hint : Hn := .seq (.o 1) (.block (.loop [(4, .one (.i .i64))] (.seq (.seq (.o 4) (.cond (.leaf) (.leaf))) (.seq (.block (.reg (.tail 14 [.op, .op, .op, .op, .op, .op, .op, .op, .op, .op, .op, .op, .op, .op] [.op]))) (.o 3)))))
def freeholdref10_Arena_give.vc (a : Option Addr) (l : Sl) (σ : Hp) (R : Hp → Prop) : Prop :=
 LoopK [(.i .i64)] (fun I => I 0 σ) fun J (i : Int) v =>
 If (decide (i < ((l.len : Nat) : Int))) (NilP a fun a12 =>
  LdP (a12.add 5) v fun t14 =>
  Ix l.a l.len i 2 fun a17 =>
  LdI .i64 (a17.add 0) v fun t19 =>
  Ix l.a l.len i 2 fun a22 =>
  LdI .i64 (a22.add 1) v fun t24 =>
  freeholdref04_Tracker_Unuse.call t14 t19 t24 v fun t25 v1 =>
  Ar .i64 (i + 1) fun i1 =>
  J i1 v1)
  (R v)
theorem freeholdref10_Arena_give.of_vc {a : Option Addr} {l : Sl} {σ : Hp} {R : Hp → Prop} (hv : freeholdref10_Arena_give.vc a l σ R) : freeholdref10_Arena_give.call a l σ R :=
 fnK_sound Tryz.func177 (x := freeholdref10_Arena_give.hint) (args := [.pointer a, .slice l.a l.len l.cap]) (rs := []) (R := R) (Eq.mpr (by kernel_rfl) hv)
def freeholdref10_Arena_made.hint : Hn := .seq (.o 1) (.seq (.reg (.seq [.op, .op, .op, .grd true 6 [.op, .op, .op, .op, .op, .op], .op])) (.leaf))
def freeholdref10_Arena_made.vc (a : Option Addr) (σ : Hp) (R : Bool → Hp → Prop) : Prop :=
 JnB (fun r v =>
  R r v) fun J =>
 If (!a.isNone) (NilP a fun a7 =>
  LdS (a7.add 0) σ fun t9 =>
  J (decide (((t9.len : Nat) : Int) > 0)) σ)
  (J false σ)
theorem freeholdref10_Arena_made.of_vc {a : Option Addr} {σ : Hp} {R : Bool → Hp → Prop} (hv : freeholdref10_Arena_made.vc a σ R) : freeholdref10_Arena_made.call a σ R :=
 fnK_sound Tryz.func181 (x := freeholdref10_Arena_made.hint) (args := [.pointer a]) (rs := [.one .b]) (R := R) (Eq.mpr (by kernel_rfl) hv)
def freeholdref10_Arena_Find.hint : Hn := .seq (.o 3) (.seq (.seq (.o 3) (.cond (.seq (.o 3) (.leaf)) (.leaf))) (.seq (.seq (.o 1) (.block (.loop [(7, .one (.i .i64))] (.seq (.seq (.o 7) (.cond (.leaf) (.leaf))) (.seq (.block (.seq (.o 14) (.seq (.o 2) (.cond (.seq (.o 5) (.leaf)) (.leaf))))) (.o 3)))))) (.seq (.seq (.o 1) (.block (.loop [(10, .one (.i .i64))] (.seq (.seq (.o 7) (.cond (.leaf) (.leaf))) (.seq (.block (.seq (.o 10) (.seq (.reg (.seq [.op, .op, .op, .op, .grd true 13 [.op, .op, .op, .op, .op, .op, .op, .op, .op, .op, .op, .op, .op]])) (.cond (.seq (.o 4) (.leaf)) (.leaf))))) (.o 3)))))) (.seq (.o 3) (.leaf)))))
def freeholdref10_Arena_Find.vc (a : Option Addr) (addr : Int) (σ : Hp) (R : Int → Int → Int → Hp → Prop) : Prop :=
 freeholdref10_Arena_made.call a σ fun t13 v =>
 If (!t13) (R 0 0 5 v)
  (LoopK [(.i .i64)] (fun I => I 0 v) fun J (i : Int) v1 =>
  NilP a fun a17 =>
  LdS (a17.add 0) v1 fun t19 =>
  If (decide (i < ((t19.len : Nat) : Int))) (NilP a fun a26 =>
   LdS (a26.add 3) v1 fun t28 =>
   Ix t28.a t28.len i 1 fun a30 =>
   LdP a30 v1 fun t31 =>
   freeholdref07_List_Find.call t31 addr v1 fun t33 t331 v2 =>
   If (t331 == 0) (R i t33 0 v2)
    (Ar .i64 (i + 1) fun i1 =>
    J i1 v2))
   (LoopK [(.i .i64)] (fun I1 => I1 0 v1) fun J1 (i2 : Int) v3 =>
   NilP a fun a42 =>
   LdS (a42.add 6) v3 fun t44 =>
   If (decide (i2 < ((t44.len : Nat) : Int))) (NilP a fun a50 =>
    LdS (a50.add 6) v3 fun t52 =>
    Ix t52.a t52.len i2 2 fun a54 =>
    LdI .i64 (a54.add 0) v3 fun t56 =>
    Ar .i64 (t56 * 256) fun vfrom =>
    JnB (fun r v4 =>
     If r (R (-1) vfrom 0 v4)
      (Ar .i64 (i2 + 1) fun i3 =>
      J1 i3 v4)) fun J2 =>
    If (decide (addr ≥ vfrom)) (NilP a fun a65 =>
     LdS (a65.add 6) v3 fun t67 =>
     Ix t67.a t67.len i2 2 fun a69 =>
     LdI .i64 (a69.add 1) v3 fun t71 =>
     Ar .i64 (t71 * 256) fun t72 =>
     Ar .i64 (vfrom + t72) fun t73 =>
     J2 (decide (addr < t73)) v3)
     (J2 false v3))
    (R 0 0 8 v3)))
theorem freeholdref10_Arena_Find.of_vc {a : Option Addr} {addr : Int} {σ : Hp} {R : Int → Int → Int → Hp → Prop} (hv : freeholdref10_Arena_Find.vc a addr σ R) : freeholdref10_Arena_Find.call a addr σ R :=
 fnK_sound Tryz.func183 (x := freeholdref10_Arena_Find.hint) (args := [.pointer a, .int .i64 addr]) (rs := [.one (.i .i64), .one (.i .i64), .one (.i .i64)]) (R := R) (Eq.mpr (by kernel_rfl) hv)
def freeholdref10_Arena_Release.hint : Hn := .seq (.o 2) (.seq (.seq (.o 3) (.cond (.seq (.o 2) (.leaf)) (.leaf))) (.seq (.seq (.o 2) (.cond (.seq (.o 2) (.leaf)) (.leaf))) (.seq (.seq (.o 1) (.block (.loop [(6, .one (.i .i64))] (.seq (.seq (.o 7) (.cond (.leaf) (.leaf))) (.seq (.block (.seq (.o 9) (.o 3))) (.o 3)))))) (.seq (.o 1) (.seq (.o 11) (.seq (.seq (.o 1) (.block (.loop [(8, .one (.i .i64)), (11, .one (.i .i64))] (.seq (.seq (.o 4) (.cond (.leaf) (.leaf))) (.seq (.block (.seq (.reg (.tail 14 [.op, .op, .op, .op, .op, .op, .op, .op, .op, .op, .op, .op, .op, .op] [.op])) (.seq (.reg (.tail 14 [.op, .op, .op, .op, .op, .op, .op, .op, .op, .op, .op, .op, .op, .op] [.op])) (.o 8)))) (.o 3)))))) (.seq (.o 3) (.leaf))))))))
def freeholdref10_Arena_Release.vc (a : Option Addr) (want : Int) (σ : Hp) (R : Int → Int → Hp → Prop) : Prop :=
 freeholdref10_Arena_made.call a σ fun t13 v =>
 If (!t13) (R 0 5 v)
  (If (decide (want < 0)) (R 0 1 v)
   (LoopK [(.i .i64)] (fun I => I 0 v) fun J (i : Int) v1 =>
   NilP a fun a19 =>
   LdS (a19.add 3) v1 fun t21 =>
   If (decide (i < ((t21.len : Nat) : Int))) (NilP a fun a27 =>
    LdS (a27.add 3) v1 fun t29 =>
    Ix t29.a t29.len i 1 fun a31 =>
    LdP a31 v1 fun t32 =>
    freeholdref07_List_Sweep.call t32 v1 fun l v2 =>
    freeholdref10_Arena_give.call a l v2 fun v3 =>
    Ar .i64 (i + 1) fun i1 =>
    J i1 v3)
    (NilP a fun a39 =>
    LdP (a39.add 5) v1 fun t41 =>
    freeholdref04_Tracker_Plan.call t41 want v1 fun t43 t431 v4 =>
    LoopK [(.i .i64), (.i .i64)] (fun I1 => I1 0 0 v4) fun J1 (n : Int) (i2 : Int) v5 =>
    If (decide (i2 < ((t43.len : Nat) : Int))) (NilP a fun a53 =>
     LdP (a53.add 5) v5 fun t55 =>
     Ix t43.a t43.len i2 2 fun a58 =>
     LdI .i64 (a58.add 0) v5 fun t60 =>
     Ix t43.a t43.len i2 2 fun a63 =>
     LdI .i64 (a63.add 1) v5 fun t65 =>
     freeholdref04_Tracker_Release.call t55 t60 t65 v5 fun t66 v6 =>
     NilP a fun a68 =>
     LdP (a68.add 1) v6 fun t70 =>
     Ix t43.a t43.len i2 2 fun a73 =>
     LdI .i64 (a73.add 0) v6 fun t75 =>
     Ix t43.a t43.len i2 2 fun a78 =>
     LdI .i64 (a78.add 1) v6 fun t80 =>
     freeholdref02_Space_Release.call t70 t75 t80 v6 fun t81 v7 =>
     Ix t43.a t43.len i2 2 fun a85 =>
     LdI .i64 (a85.add 1) v7 fun t87 =>
     Ar .i64 (n + t87) fun n1 =>
     Ar .i64 (i2 + 1) fun i3 =>
     J1 n1 i3 v7)
     (R n 0 v5))))
theorem freeholdref10_Arena_Release.of_vc {a : Option Addr} {want : Int} {σ : Hp} {R : Int → Int → Hp → Prop} (hv : freeholdref10_Arena_Release.vc a want σ R) : freeholdref10_Arena_Release.call a want σ R :=
 fnK_sound Tryz.func184 (x := freeholdref10_Arena_Release.hint) (args := [.pointer a, .int .i64 want]) (rs := [.one (.i .i64), .one (.i .i64)]) (R := R) (Eq.mpr (by kernel_rfl) hv)
def freeholdref10_Arena_Trim.hint : Hn := .seq (.o 1) (.seq (.seq (.o 3) (.cond (.seq (.o 1) (.leaf)) (.leaf))) (.seq (.o 6) (.seq (.seq (.o 1) (.block (.loop [(4, .one (.i .i64))] (.seq (.seq (.o 4) (.cond (.leaf) (.leaf))) (.seq (.block (.seq (.reg (.tail 8 [.op, .op, .op, .op, .op, .op, .op, .op] [.op])) (.reg (.tail 9 [.op, .op, .op, .op, .op, .op, .op, .op, .op] [.op])))) (.o 3)))))) (.seq (.o 3) (.leaf)))))
def freeholdref10_Arena_Trim.vc (a : Option Addr) (σ : Hp) (R : Int → Hp → Prop) : Prop :=
 freeholdref10_Arena_made.call a σ fun t6 v =>
 If (!t6) (R 0 v)
  (NilP a fun a9 =>
  LdP (a9.add 5) v fun t11 =>
  freeholdref04_Tracker_Idle.call t11 v fun l v1 =>
  LoopK [(.i .i64)] (fun I => I 0 v1) fun J (i : Int) v2 =>
  If (decide (i < ((l.len : Nat) : Int))) (NilP a fun a20 =>
   LdP (a20.add 5) v2 fun t22 =>
   Ix l.a l.len i 1 fun a25 =>
   LdI .i64 a25 v2 fun t26 =>
   freeholdref04_Tracker_Remove.call t22 t26 v2 fun t27 v3 =>
   NilP a fun a29 =>
   LdP (a29.add 1) v3 fun t31 =>
   Ix l.a l.len i 1 fun a34 =>
   LdI .i64 a34 v3 fun t35 =>
   Ar .i64 (t35 * 16) fun t36 =>
   freeholdref02_Space_Unmap.call t31 t36 16 v3 fun t37 v4 =>
   Ar .i64 (i + 1) fun i1 =>
   J i1 v4)
   (R ((l.len : Nat) : Int) v2))
theorem freeholdref10_Arena_Trim.of_vc {a : Option Addr} {σ : Hp} {R : Int → Hp → Prop} (hv : freeholdref10_Arena_Trim.vc a σ R) : freeholdref10_Arena_Trim.call a σ R :=
 fnK_sound Tryz.func185 (x := freeholdref10_Arena_Trim.hint) (args := [.pointer a]) (rs := [.one (.i .i64)]) (R := R) (Eq.mpr (by kernel_rfl) hv)
def freeholdref10_Arena_Tick.hint : Hn := .seq (.seq (.o 3) (.cond (.leaf) (.leaf))) (.seq (.o 1) (.block (.loop [(2, .one (.i .i64))] (.seq (.seq (.o 7) (.cond (.leaf) (.leaf))) (.seq (.block (.seq (.o 9) (.seq (.o 1) (.block (.loop [(4, .one (.i .i64))] (.seq (.seq (.o 4) (.cond (.leaf) (.leaf))) (.seq (.block (.o 7)) (.o 3)))))))) (.o 3))))))
def freeholdref10_Arena_Tick.vc (a : Option Addr) (σ : Hp) (R : Hp → Prop) : Prop :=
 freeholdref10_Arena_made.call a σ fun t6 v =>
 If (!t6) (R v)
  (LoopK [(.i .i64)] (fun I => I 0 v) fun J (i : Int) v1 =>
  NilP a fun a10 =>
  LdS (a10.add 4) v1 fun t12 =>
  If (decide (i < ((t12.len : Nat) : Int))) (NilP a fun a18 =>
   LdS (a18.add 4) v1 fun t20 =>
   Ix t20.a t20.len i 1 fun a22 =>
   LdP a22 v1 fun t23 =>
   freeholdref08_Cache_Tick.call t23 v1 fun l v2 =>
   LoopK [(.i .i64)] (fun I1 => I1 0 v2) fun J1 (k : Int) v3 =>
   If (decide (k < ((l.len : Nat) : Int))) (Ix l.a l.len k 1 fun a35 =>
    LdS a35 v3 fun t36 =>
    freeholdref10_Arena_ToCentral.call a i t36 v3 fun t37 v4 =>
    Ar .i64 (k + 1) fun k1 =>
    J1 k1 v4)
    (Ar .i64 (i + 1) fun i1 =>
    J i1 v3))
   (R v1))
theorem freeholdref10_Arena_Tick.of_vc {a : Option Addr} {σ : Hp} {R : Hp → Prop} (hv : freeholdref10_Arena_Tick.vc a σ R) : freeholdref10_Arena_Tick.call a σ R :=
 fnK_sound Tryz.func187 (x := freeholdref10_Arena_Tick.hint) (args := [.pointer a]) (rs := []) (R := R) (Eq.mpr (by kernel_rfl) hv)
def freeholdref10_Arena_free.hint : Hn := .seq (.o 1) (.seq (.o 9) (.seq (.o 7) (.seq (.seq (.o 1) (.block (.loop [(6, .one (.i .i64))] (.seq (.seq (.o 3) (.cond (.leaf) (.leaf))) (.seq (.block (.reg (.tail 17 [.op, .op, .op, .op, .op, .op, .op, .op, .op, .op, .op, .op, .op, .op, .op, .op, .op] [.op]))) (.o 3)))))) (.seq (.o 2) (.leaf)))))
def freeholdref10_Arena_free.vc (a : Option Addr) (σ : Hp) (R : Option Addr → Hp → Prop) : Prop :=
 NilP a fun a8 =>
 LdP (a8.add 5) σ fun t10 =>
 NilP t10 fun a11 =>
 LdS (a11.add 0) σ fun t13 =>
 freeholdref03_New.call ((t13.len : Nat) : Int) σ fun t17 t171 v =>
 LoopK [(.i .i64)] (fun I => I 0 v) fun J (p : Int) v1 =>
 If (decide (p < ((t13.len : Nat) : Int))) (NilP t17 fun a26 =>
  LdS (a26.add 0) v1 fun t28 =>
  NilP a fun a31 =>
  LdP (a31.add 5) v1 fun t33 =>
  NilP t33 fun a34 =>
  LdS (a34.add 0) v1 fun t36 =>
  Ix t36.a t36.len p 1 fun a38 =>
  LdI .i64 a38 v1 fun t39 =>
  Ix t28.a t28.len p 1 fun a41 =>
  St1 a41 (.bool (decide (t39 > 1))) v1 fun v2 =>
  Ar .i64 (p + 1) fun p1 =>
  J p1 v2)
  (R t17 v1)
theorem freeholdref10_Arena_free.of_vc {a : Option Addr} {σ : Hp} {R : Option Addr → Hp → Prop} (hv : freeholdref10_Arena_free.vc a σ R) : freeholdref10_Arena_free.call a σ R :=
 fnK_sound Tryz.func228 (x := freeholdref10_Arena_free.hint) (args := [.pointer a]) (rs := [.one .p]) (R := R) (Eq.mpr (by kernel_rfl) hv)
def freeholdref10_Arena_mapped.hint : Hn := .seq (.o 1) (.seq (.o 1) (.seq (.block (.loop [(7, .one (.i .i64))] (.seq (.seq (.reg (.seq [.op, .op, .op, .op, .grd false 3 [.op, .op, .op]])) (.cond (.leaf) (.leaf))) (.block (.o 3))))) (.seq (.seq (.o 2) (.block (.loop [(8, .one (.i .i64))] (.seq (.seq (.o 12) (.cond (.leaf) (.leaf))) (.seq (.block (.seq (.seq (.o 8) (.cond (.leaf) (.leaf))) (.seq (.seq (.o 3) (.block (.loop [(9, .one (.i .i64))] (.seq (.seq (.o 6) (.cond (.leaf) (.leaf))) (.seq (.block (.o 6)) (.o 3)))))) (.seq (.o 1) (.leaf))))) (.o 4)))))) (.seq (.o 1) (.leaf)))))
def freeholdref10_Arena_mapped.vc (a : Option Addr) (pages : Int) (align : Int) (σ : Hp) (R : Bool → Hp → Prop) : Prop :=
 LoopK [(.i .i64)] (fun I => I 16 σ) fun J (size : Int) v =>
 JnB (fun r v1 =>
  If r (Ar .i64 (2 * size) fun size1 =>
   J size1 v1)
   (LoopK [(.i .i64)] (fun I1 => I1 size v1) fun J2 (p : Int) v2 =>
   Ar .i64 (p + size) fun t23 =>
   NilP a fun a25 =>
   LdP (a25.add 5) v2 fun t27 =>
   NilP t27 fun a28 =>
   LdS (a28.add 0) v2 fun t30 =>
   If (decide (t23 ≤ ((t30.len : Nat) : Int))) (NilP a fun a37 =>
    LdP (a37.add 1) v2 fun t39 =>
    freeholdref02_Space_Map.call t39 p size v2 fun t42 v3 =>
    If (t42 != 0) (Ar .i64 (p + size) fun p1 =>
     J2 p1 v3)
     (Nz 16 <| Ar .i64 (p.tdiv 16) fun vh =>
     LoopK [(.i .i64)] (fun I2 => I2 vh v3) fun J3 (vh1 : Int) v4 =>
     Ar .i64 (p + size) fun t49 =>
     Nz 16 <| Ar .i64 (t49.tdiv 16) fun t50 =>
     If (decide (vh1 < t50)) (NilP a fun a55 =>
      LdP (a55.add 5) v4 fun t57 =>
      freeholdref04_Tracker_Add.call t57 vh1 v4 fun t59 v5 =>
      Ar .i64 (vh1 + 1) fun vh2 =>
      J3 vh2 v5)
      (R true v4)))
    (R false v2))) fun J1 =>
 If (decide (size < pages)) (J1 true v)
  (J1 (decide (size < align)) v)
theorem freeholdref10_Arena_mapped.of_vc {a : Option Addr} {pages : Int} {align : Int} {σ : Hp} {R : Bool → Hp → Prop} (hv : freeholdref10_Arena_mapped.vc a pages align σ R) : freeholdref10_Arena_mapped.call a pages align σ R :=
 fnK_sound Tryz.func230 (x := freeholdref10_Arena_mapped.hint) (args := [.pointer a, .int .i64 pages, .int .i64 align]) (rs := [.one .b]) (R := R) (Eq.mpr (by kernel_rfl) hv)
end Go.Proofs

-- NoA
namespace Go.Ar
open Go Go.Vc Go.Proofs
set_option linter.unusedSimpArgs false
set_option linter.unusedVariables false

variable {σ : Hp} {a : Option Addr}

def UnA (a : Option Addr) (σ : Hp) : Prop := a = none ∨ ∃ b, a = some ⟨b, 0, none⟩ ∧ cell σ ⟨b, 1, none⟩ = some (.pointer none)
theorem UnA.keep0 {σ' : Hp} (h : UnA a σ) (e : Ext0 σ σ') : UnA a σ' := by
  rcases h with h | ⟨b, h1, h2⟩
  · exact .inl h
  · exact .inr ⟨b, h1, (cell_ext e (cell_lt' h2) id).trans h2⟩
theorem UnA.made (h : UnA a σ) {R : Bool → Hp → Prop} (hR : R false σ) : arena_Arena_made.call a σ R := by
  refine arena_Arena_made.of_vc ?_
  unfold arena_Arena_made.vc
  refine JnB.intro ?_
  rcases h with rfl | ⟨b, rfl, hc⟩
  · exact ifF rfl hR
  · exact ifT rfl (nilP (ldP (n := none) (by rw [add_lit]; exact hc) hR))
theorem UnA.check (h : UnA a σ) (k : Int) {R : Int → Hp → Prop} (hR : R 5 σ) : arena_Arena_check.call a k σ R := by
  refine arena_Arena_check.of_vc ?_
  unfold arena_Arena_check.vc
  exact h.made (ifT rfl hR)
theorem UnA.Grow (h : UnA a σ) (k : Int) {R : Int → Hp → Prop} (hR : R 5 σ) : arena_Arena_Grow.call a k σ R := by
  refine arena_Arena_Grow.of_vc ?_
  unfold arena_Arena_Grow.vc
  exact h.check k (ifT rfl hR)
theorem UnA.FromCentral (h : UnA a σ) (k m : Int) {R : Sl → Int → Hp → Prop} (hR : R ⟨none, 0, 0⟩ 5 σ) : arena_Arena_FromCentral.call a k m σ R := by
  refine arena_Arena_FromCentral.of_vc ?_
  unfold arena_Arena_FromCentral.vc
  exact h.check k (ifT rfl hR)
theorem UnA.ToCentral (h : UnA a σ) (k : Int) (l : Sl) {R : Int → Hp → Prop} (hR : R 5 σ) : arena_Arena_ToCentral.call a k l σ R := by
  refine arena_Arena_ToCentral.of_vc ?_
  unfold arena_Arena_ToCentral.vc
  exact h.check k (ifT rfl hR)
theorem UnA.FromTransfer (h : UnA a σ) (k : Int) {R : Sl → Int → Hp → Prop} (hR : R ⟨none, 0, 0⟩ 5 σ) : arena_Arena_FromTransfer.call a k σ R := by
  refine arena_Arena_FromTransfer.of_vc ?_
  unfold arena_Arena_FromTransfer.vc
  exact h.check k (ifT rfl hR)
theorem UnA.ToTransfer (h : UnA a σ) (k : Int) (l : Sl) {R : Bool → Int → Hp → Prop} (hR : R false 5 σ) : arena_Arena_ToTransfer.call a k l σ R := by
  refine arena_Arena_ToTransfer.of_vc ?_
  unfold arena_Arena_ToTransfer.vc
  exact h.check k (ifT rfl hR)
theorem UnA.TakePages (h : UnA a σ) (m x : Int) {R : Int → Int → Hp → Prop} (hR : R 0 5 σ) : arena_Arena_TakePages.call a m x σ R := by
  refine arena_Arena_TakePages.of_vc ?_
  unfold arena_Arena_TakePages.vc
  exact h.made (ifT rfl hR)
theorem UnA.GivePages (h : UnA a σ) (x : Int) {R : Int → Hp → Prop} (hR : R 5 σ) : arena_Arena_GivePages.call a x σ R := by
  refine arena_Arena_GivePages.of_vc ?_
  unfold arena_Arena_GivePages.vc
  exact h.made (ifT rfl hR)
theorem UnA.Find (h : UnA a σ) (x : Int) {R : Int → Int → Int → Hp → Prop} (hR : R 0 0 5 σ) : arena_Arena_Find.call a x σ R := by
  refine arena_Arena_Find.of_vc ?_
  unfold arena_Arena_Find.vc
  exact h.made (ifT rfl hR)
theorem UnA.IsTaken (h : UnA a σ) (x : Int) {R : Bool → Hp → Prop} (hR : R false σ) : arena_Arena_IsTaken.call a x σ R := by
  refine arena_Arena_IsTaken.of_vc ?_
  unfold arena_Arena_IsTaken.vc
  exact h.Find x (JnB.intro (ifT rfl (ifT rfl hR)))
theorem UnA.Owns (h : UnA a σ) (x : Int) {R : Bool → Hp → Prop} (hR : R false σ) : arena_Arena_Owns.call a x σ R := by
  refine arena_Arena_Owns.of_vc ?_
  unfold arena_Arena_Owns.vc
  exact h.made (JnB.intro (ifF rfl hR))
theorem UnA.Release (h : UnA a σ) (x : Int) {R : Int → Int → Hp → Prop} (hR : R 0 5 σ) : arena_Arena_Release.call a x σ R := by
  refine arena_Arena_Release.of_vc ?_
  unfold arena_Arena_Release.vc
  exact h.made (ifT rfl hR)
theorem UnA.Trim (h : UnA a σ) {R : Int → Hp → Prop} (hR : R 0 σ) : arena_Arena_Trim.call a σ R := by
  refine arena_Arena_Trim.of_vc ?_
  unfold arena_Arena_Trim.vc
  exact h.made (ifT rfl hR)
theorem UnA.Tick (h : UnA a σ) {R : Hp → Prop} (hR : R σ) : arena_Arena_Tick.call a σ R := by
  refine arena_Arena_Tick.of_vc ?_
  unfold arena_Arena_Tick.vc
  exact h.made (ifT rfl hR)
theorem UnA.Counts (h : UnA a σ) {R : Int → Int → Int → Int → Int → Int → Hp → Prop} (hR : R 0 0 0 0 0 0 σ) : arena_Arena_Counts.call a σ R := by
  refine arena_Arena_Counts.of_vc ?_
  unfold arena_Arena_Counts.vc
  exact h.made (ifT rfl hR)
theorem UnA.Clone (h : UnA a σ) (s : Option Addr) {R : Option Addr → Hp → Prop} (hR : R none σ) : arena_Arena_Clone.call a s σ R := by
  refine arena_Arena_Clone.of_vc ?_
  unfold arena_Arena_Clone.vc
  exact Jn.intro (h.made (ifT rfl (ifT rfl hR)))

/-! ## The reference's -/
theorem rmade {R : Bool → Hp → Prop} (hR : R false σ) : freeholdref10_Arena_made.call none σ R := by
  refine freeholdref10_Arena_made.of_vc ?_
  unfold freeholdref10_Arena_made.vc
  exact JnB.intro (ifF rfl hR)
theorem rwrong (k : Int) {R : Int → Hp → Prop} (hR : R 5 σ) : freeholdref10_Arena_wrong.call none k σ R := by
  refine freeholdref10_Arena_wrong.of_vc ?_
  unfold freeholdref10_Arena_wrong.vc
  exact rmade (ifT rfl hR)
theorem rGrow (k : Int) {R : Int → Hp → Prop} (hR : R 5 σ) : freeholdref10_Arena_Grow.call none k σ R := by
  refine freeholdref10_Arena_Grow.of_vc ?_
  unfold freeholdref10_Arena_Grow.vc
  exact rwrong k (ifT rfl hR)
theorem rFromCentral (k m : Int) {R : Sl → Int → Hp → Prop} (hR : R ⟨none, 0, 0⟩ 5 σ) : freeholdref10_Arena_FromCentral.call none k m σ R := by
  refine freeholdref10_Arena_FromCentral.of_vc ?_
  unfold freeholdref10_Arena_FromCentral.vc
  exact rwrong k (ifT rfl hR)
theorem rToCentral (k : Int) (l : Sl) {R : Int → Hp → Prop} (hR : R 5 σ) : freeholdref10_Arena_ToCentral.call none k l σ R := by
  refine freeholdref10_Arena_ToCentral.of_vc ?_
  unfold freeholdref10_Arena_ToCentral.vc
  exact rwrong k (ifT rfl hR)
theorem rFromTransfer (k : Int) {R : Sl → Int → Hp → Prop} (hR : R ⟨none, 0, 0⟩ 5 σ) : freeholdref10_Arena_FromTransfer.call none k σ R := by
  refine freeholdref10_Arena_FromTransfer.of_vc ?_
  unfold freeholdref10_Arena_FromTransfer.vc
  exact rwrong k (ifT rfl hR)
theorem rToTransfer (k : Int) (l : Sl) {R : Bool → Int → Hp → Prop} (hR : R false 5 σ) : freeholdref10_Arena_ToTransfer.call none k l σ R := by
  refine freeholdref10_Arena_ToTransfer.of_vc ?_
  unfold freeholdref10_Arena_ToTransfer.vc
  exact rwrong k (ifT rfl hR)
theorem rTakePages (m x : Int) {R : Int → Int → Hp → Prop} (hR : R 0 5 σ) : freeholdref10_Arena_TakePages.call none m x σ R := by
  refine freeholdref10_Arena_TakePages.of_vc ?_
  unfold freeholdref10_Arena_TakePages.vc
  exact rmade (ifT rfl hR)
theorem rGivePages (x : Int) {R : Int → Hp → Prop} (hR : R 5 σ) : freeholdref10_Arena_GivePages.call none x σ R := by
  refine freeholdref10_Arena_GivePages.of_vc ?_
  unfold freeholdref10_Arena_GivePages.vc
  exact rmade (ifT rfl hR)
theorem rFind (x : Int) {R : Int → Int → Int → Hp → Prop} (hR : R 0 0 5 σ) : freeholdref10_Arena_Find.call none x σ R := by
  refine freeholdref10_Arena_Find.of_vc ?_
  unfold freeholdref10_Arena_Find.vc
  exact rmade (ifT rfl hR)
theorem rIsTaken (x : Int) {R : Bool → Hp → Prop} (hR : R false σ) : freeholdref10_Arena_IsTaken.call none x σ R := by
  refine freeholdref10_Arena_IsTaken.of_vc ?_
  unfold freeholdref10_Arena_IsTaken.vc
  exact rFind x (JnB.intro (ifT rfl (ifT rfl hR)))
theorem rOwns (x : Int) {R : Bool → Hp → Prop} (hR : R false σ) : freeholdref10_Arena_Owns.call none x σ R := by
  refine freeholdref10_Arena_Owns.of_vc ?_
  unfold freeholdref10_Arena_Owns.vc
  exact rmade (JnB.intro (ifF rfl hR))
theorem rRelease (x : Int) {R : Int → Int → Hp → Prop} (hR : R 0 5 σ) : freeholdref10_Arena_Release.call none x σ R := by
  refine freeholdref10_Arena_Release.of_vc ?_
  unfold freeholdref10_Arena_Release.vc
  exact rmade (ifT rfl hR)
theorem rTrim {R : Int → Hp → Prop} (hR : R 0 σ) : freeholdref10_Arena_Trim.call none σ R := by
  refine freeholdref10_Arena_Trim.of_vc ?_
  unfold freeholdref10_Arena_Trim.vc
  exact rmade (ifT rfl hR)
theorem rTick {R : Hp → Prop} (hR : R σ) : freeholdref10_Arena_Tick.call none σ R := by
  refine freeholdref10_Arena_Tick.of_vc ?_
  unfold freeholdref10_Arena_Tick.vc
  exact rmade (ifT rfl hR)
theorem rCounts {R : Int → Int → Int → Int → Int → Int → Hp → Prop} (hR : R 0 0 0 0 0 0 σ) : freeholdref10_Arena_Counts.call none σ R := by
  refine freeholdref10_Arena_Counts.of_vc ?_
  unfold freeholdref10_Arena_Counts.vc
  exact rmade (ifT rfl hR)

/-! ## Played, compared -/
theorem rints0 {R : Bool → Hp → Prop} (hR : R true σ) : freeholdref01_Ints.call ⟨none, 0, 0⟩ ⟨none, 0, 0⟩ σ R :=
  RInts_ok (F := fun _ => True) (G := fun _ => True) (xs := []) (ys := []) (SlR.nil _ _ _ _) (SlR.nil _ _ _ _) (by simp) hR
theorem asks0 (h : UnA a σ) (x0 x1 x2 x3 x4 : Int) (x5 : Sl) {R : Bool → Hp → Prop} (hR : ∀ σ', Ext0 σ σ' → R true σ') : freeholdlaw10_asks.call a none x0 x1 x2 x3 x4 x5 σ R := by
  refine freeholdlaw10_asks.of_vc ?_
  unfold freeholdlaw10_asks.vc
  refine nw (cs := [.int .i64 x0, .int .i64 x1, .int .i64 x2, .int .i64 x3, .int .i64 x4, .slice x5.a x5.len x5.cap]) fun v hz e hb => ?_
  have hv := h.keep0 e
  have r3 : ∀ {K : Int → Prop}, K x3 → LdH (fun m => Ext0 v m) (.i .i64) (Addr.add ⟨σ.size, 0, none⟩ 3) K := fun hK => ⟨x3, fun m hm => by rw [add_lit, (Ext.blk hm hb id).cell]; rfl, hK⟩
  refine hb.rI rfl (iff_ (fun _ => hb.rI rfl (hv.Find _ (hb.rI rfl (rFind _ (JnB.intro (ifT rfl (JnB.intro (ifT rfl (hR v e))))))))) fun _ => ?_)
  refine iff_ (fun _ => ⟨fun m => Ext0 v m, Ext.refl _ _, r3 (r3 (hv.IsTaken _ ⟨Ext.refl _ _, rIsTaken _ ⟨Ext.refl _ _, hR v e⟩⟩))⟩) fun _ => ?_
  refine iff_ (fun _ => ⟨fun m => Ext0 v m, Ext.refl _ _, r3 (r3 (hv.Owns _ ⟨Ext.refl _ _, rOwns _ ⟨Ext.refl _ _, hR v e⟩⟩))⟩) fun _ => ?_
  refine iff_ (fun _ => hb.rI rfl (hv.Release _ (hb.rI rfl (rRelease _ (JnB.intro (ifT rfl (hR v e))))))) fun _ => ?_
  refine iff_ (fun _ => hv.Trim (rTrim (hR v e))) fun _ => ?_
  exact iff_ (fun _ => hv.Tick (rTick (hR v e))) fun _ => hR v e
theorem play0 (h : UnA a σ) (x0 x1 x2 x3 x4 : Int) (x5 : Sl) {R : Bool → Hp → Prop} (hR : ∀ σ', Ext0 σ σ' → R true σ') : freeholdlaw10_play.call a none x0 x1 x2 x3 x4 x5 σ R := by
  refine freeholdlaw10_play.of_vc ?_
  unfold freeholdlaw10_play.vc
  refine nw (cs := [.int .i64 x0, .int .i64 x1, .int .i64 x2, .int .i64 x3, .int .i64 x4, .slice x5.a x5.len x5.cap]) fun v hz e hb => ?_
  have hv := h.keep0 e
  have r2 : ∀ {K : Int → Prop}, K x2 → LdH (fun m => Ext0 v m) (.i .i64) (Addr.add ⟨σ.size, 0, none⟩ 2) K := fun hK => ⟨x2, fun m hm => by rw [add_lit, (Ext.blk hm hb id).cell]; rfl, hK⟩
  have r3 : ∀ {K : Int → Prop}, K x3 → LdH (fun m => Ext0 v m) (.i .i64) (Addr.add ⟨σ.size, 0, none⟩ 3) K := fun hK => ⟨x3, fun m hm => by rw [add_lit, (Ext.blk hm hb id).cell]; rfl, hK⟩
  have r5 : ∀ {K : Sl → Prop}, K x5 → LdH (fun m => Ext0 v m) .s (Addr.add ⟨σ.size, 0, none⟩ 5) K := fun hK => ⟨x5, fun m hm => by rw [add_lit, (Ext.blk hm hb id).cell]; rfl, hK⟩
  refine hb.rI rfl (iff_ (fun _ => ⟨fun m => Ext0 v m, Ext.refl _ _, r2 (r2 (hv.Grow _ ⟨Ext.refl _ _, rGrow _ ⟨Ext.refl _ _, hR v e⟩⟩))⟩) fun _ => ?_)
  refine iff_ (fun _ => hb.rI rfl (hb.rI rfl (hv.FromCentral _ _ (hb.rI rfl (hb.rI rfl (rFromCentral _ _ (rints0 (JnB.intro (ifT rfl (hR v e)))))))))) fun _ => ?_
  refine iff_ (fun _ => ⟨fun m => Ext0 v m, Ext.refl _ _, r2 (r5 (r2 (r5 (hv.ToCentral _ _ ⟨Ext.refl _ _, rToCentral _ _ ⟨Ext.refl _ _, hR v e⟩⟩))))⟩) fun _ => ?_
  refine iff_ (fun _ => hb.rI rfl (hv.FromTransfer _ (hb.rI rfl (rFromTransfer _ (rints0 (JnB.intro (ifT rfl (hR v e)))))))) fun _ => ?_
  refine iff_ (fun _ => hb.rI rfl (hb.rS rfl (hv.ToTransfer _ _ (hb.rI rfl (hb.rS rfl (rToTransfer _ _ (JnB.intro (ifT rfl (hR v e))))))))) fun _ => ?_
  refine iff_ (fun _ => hb.rI rfl (hb.rI rfl (hv.TakePages _ _ (hb.rI rfl (hb.rI rfl (rTakePages _ _ (JnB.intro (ifT rfl (hR v e))))))))) fun _ => ?_
  refine iff_ (fun _ => ⟨fun m => Ext0 v m, Ext.refl _ _, r3 (r3 (hv.GivePages _ ⟨Ext.refl _ _, rGivePages _ ⟨Ext.refl _ _, hR v e⟩⟩))⟩) fun _ => ?_
  exact hb.rI rfl (hb.rI rfl (hb.rI rfl (hb.rI rfl (hb.rI rfl (hb.rS rfl (asks0 hv _ _ _ _ _ _ fun v2 e2 => hR v2 (Ext.trans e e2)))))))

end Go.Ar

-- GLArenaNone
namespace Go.Proofs
open Go.Vc
set_option linter.unusedVariables false
set_option maxRecDepth 100000
def freeholdlaw10_ArenaNone.hint : Hn := .seq (.o 2) (.seq (.seq (.reg (.seq [.op, .op, .op, .op, .grd false 3 [.op, .op, .op]])) (.cond (.seq (.o 2) (.leaf)) (.leaf))) (.seq (.o 1) (.seq (.o 1) (.seq (.o 1) (.seq (.o 1) (.seq (.o 1) (.seq (.o 6) (.seq (.o 9) (.seq (.o 8) (.seq (.o 1) (.sjn [(18, .one (.i .i64))] (.seq (.o 2) (.cond (.o 1) (.leaf))) (.seq (.o 9) (.seq (.o 6) (.seq (.reg (.seq [.op, .op, .op, .grd true 2 [.op, .op], .op, .grd true 3 [.op, .op, .op], .op, .grd true 3 [.op, .op, .op], .op, .grd true 4 [.op, .op, .op, .op], .op, .grd true 3 [.op, .op, .op], .op, .grd true 3 [.op, .op, .op], .op, .grd true 2 [.op, .op], .op, .grd true 4 [.op, .op, .op, .op], .op, .grd true 3 [.op, .op, .op], .op, .grd true 3 [.op, .op, .op], .op, .grd true 3 [.op, .op, .op], .op, .grd true 4 [.op, .op, .op, .op], .op, .grd true 1 [.op], .op])) (.leaf)))))))))))))))
def freeholdlaw10_ArenaNone.vc (table : Sl) (room : Int) (vx : Int) (vx1 : Int) (vx2 : Int) (vx3 : Int) (vx4 : Int) (vx5 : Sl) (σ : Hp) (R : Bool → Hp → Prop) : Prop :=
 Nw (.cells #[.int .i64 vx, .int .i64 vx1, .int .i64 vx2, .int .i64 vx3, .int .i64 vx4, .slice vx5.a vx5.len vx5.cap] 44 (0, 0)) σ fun n5 v =>
 LdI .i64 (n5.add 0) v fun t23 =>
 LdI .i64 (n5.add 1) v fun t231 =>
 LdI .i64 (n5.add 2) v fun t232 =>
 LdI .i64 (n5.add 3) v fun t233 =>
 LdI .i64 (n5.add 4) v fun t234 =>
 LdS (n5.add 5) v fun t235 =>
 Nw (.cells #[.int .i64 t23, .int .i64 t231, .int .i64 t232, .int .i64 t233, .int .i64 t234, .slice t235.a t235.len t235.cap] 44 (0, 0)) v fun n24 v1 =>
 freeholdlaw10_great.call ⟨(some n24), 1, 1⟩ v1 fun t25 v2 =>
 JnB (fun r v3 =>
  If r (freeholdlaw10_alive.call v3 fun t31 v4 =>
   R t31 v4)
   (Nw (.cells #[.slice none 0 0, .pointer none, .pointer none, .pointer none, .pointer none, .slice none 0 0, .slice none 0 0, .map none] 76 (0, 0)) v3 fun n8 v5 =>
   Nw (.cells #[.slice none 0 0, .map none, .int .i64 0] 81 (0, 0)) v5 fun n11 v6 =>
   space_New.call 64 v6 fun t33 t331 v7 =>
   arena_New.call table none room v7 fun t40 t401 v8 =>
   arena_New.call table (some n11) room v8 fun t46 t461 v9 =>
   Jn [(.i .i64)] (fun (want : Int) v10 =>
    arena_New.call table t33 room v10 fun t55 t551 v11 =>
    space_New.call 48 v11 fun t59 t591 v12 =>
    JnB (fun r1 v13 =>
     JnB (fun r2 v14 =>
      JnB (fun r3 v15 =>
       JnB (fun r4 v16 =>
        JnB (fun r5 v17 =>
         JnB (fun r6 v18 =>
          JnB (fun r7 v19 =>
           JnB (fun r8 v20 =>
            JnB (fun r9 v21 =>
 JnB (fun r10 v22 =>
  JnB (fun r11 v23 =>
   JnB (fun r12 v24 =>
    JnB (fun r13 v25 =>
     R r13 v25) fun J14 =>
    If r12 (freeholdlaw10_alive.call v24 fun t126 v26 =>
     J14 t126 v26)
     (J14 false v24)) fun J13 =>
   If r11 (arena_Arena_Clone.call t55 t59 v23 fun t122 v27 =>
    J13 t122.isNone v27)
    (J13 false v23)) fun J12 =>
  If r10 (arena_Arena_Clone.call t55 (some n11) v22 fun t116 v28 =>
   J12 t116.isNone v28)
   (J12 false v22)) fun J11 =>
 If r9 (arena_Arena_Clone.call t55 none v21 fun t111 v29 =>
  J11 t111.isNone v29)
  (J11 false v21)) fun J10 =>
            If r8 (arena_Arena_Clone.call (some n8) t33 v20 fun t106 v30 =>
 J10 t106.isNone v30)
 (J10 false v20)) fun J9 =>
           If r7 (arena_Arena_Clone.call none t33 v19 fun t101 v31 =>
            J9 t101.isNone v31)
            (J9 false v19)) fun J8 =>
          If r6 (freeholdlaw10_Same.call (some n8) none 2 v18 fun t96 v32 =>
           J8 t96 v32)
           (J8 false v18)) fun J7 =>
         If r5 (freeholdlaw10_Same.call none none 2 v17 fun t92 v33 =>
          J7 t92 v33)
          (J7 false v17)) fun J6 =>
        If r4 (LdI .i64 (n5.add 0) v16 fun t86 =>
         LdI .i64 (n5.add 1) v16 fun t861 =>
         LdI .i64 (n5.add 2) v16 fun t862 =>
         LdI .i64 (n5.add 3) v16 fun t863 =>
         LdI .i64 (n5.add 4) v16 fun t864 =>
         LdS (n5.add 5) v16 fun t865 =>
         freeholdlaw10_play.call (some n8) none t86 t861 t862 t863 t864 t865 v16 fun t87 v34 =>
         J6 t87 v34)
         (J6 false v16)) fun J5 =>
       If r3 (LdI .i64 (n5.add 0) v15 fun t81 =>
        LdI .i64 (n5.add 1) v15 fun t811 =>
        LdI .i64 (n5.add 2) v15 fun t812 =>
        LdI .i64 (n5.add 3) v15 fun t813 =>
        LdI .i64 (n5.add 4) v15 fun t814 =>
        LdS (n5.add 5) v15 fun t815 =>
        freeholdlaw10_play.call none none t81 t811 t812 t813 t814 t815 v15 fun t82 v35 =>
        J5 t82 v35)
        (J5 false v15)) fun J4 =>
      If r2 (J4 (t461 == want) v14)
       (J4 false v14)) fun J3 =>
     If r1 (J3 (t401 == want) v13)
      (J3 false v13)) fun J2 =>
    If t40.isNone (J2 t46.isNone v12)
     (J2 false v12)) fun J1 =>
   freeholdref01_Valid.call table v9 fun t50 v36 =>
   If t50 (J1 1 v36)
    (J1 2 v36))) fun J =>
 If t25 (J true v2)
  (J (decide (((table.len : Nat) : Int) > 100)) v2)
theorem freeholdlaw10_ArenaNone.of_vc {table : Sl} {room : Int} {vx : Int} {vx1 : Int} {vx2 : Int} {vx3 : Int} {vx4 : Int} {vx5 : Sl} {σ : Hp} {R : Bool → Hp → Prop} (hv : freeholdlaw10_ArenaNone.vc table room vx vx1 vx2 vx3 vx4 vx5 σ R) : freeholdlaw10_ArenaNone.call table room vx vx1 vx2 vx3 vx4 vx5 σ R :=
 fnK_sound Tryz.func10 (x := freeholdlaw10_ArenaNone.hint) (args := [.slice table.a table.len table.cap, .int .i64 room, .agg #[.int .i64 vx, .int .i64 vx1, .int .i64 vx2, .int .i64 vx3, .int .i64 vx4, .slice vx5.a vx5.len vx5.cap]]) (rs := [.one .b]) (R := R) (Eq.mpr (by kernel_rfl) hv)
end Go.Proofs

-- NoB
namespace Go.Ar
open Go Go.Vc Go.Proofs
set_option linter.unusedSimpArgs false
set_option linter.unusedVariables false

variable {σ : Hp} {a : Option Addr} {F H : Rg} {A : AR} {sp : Sp} {Y : Lay}

theorem same0 (h : UnA a σ) {R : Bool → Hp → Prop} (hR : ∀ σ', Ext0 σ σ' → R true σ') : freeholdlaw10_Same.call a none 2 σ R := by
  refine freeholdlaw10_Same.of_vc ?_
  unfold freeholdlaw10_Same.vc
  refine h.Counts (rCounts ?_)
  refine JnB.intro (ifF rfl ?_)
  refine JnB.intro (ifF rfl ?_)
  refine JnB.intro (ifF rfl ?_)
  refine JnB.intro (ifF rfl ?_)
  refine JnB.intro (ifF rfl ?_)
  refine ifF rfl ?_
  refine loop1 (a := .i .i64) (fun (p : Int) v => -1 ≤ p ∧ p ≤ 3 ∧ Ext0 σ v) (fun p _ => (3 - p).toNat) ⟨by omega, by omega, Ext.refl _ _⟩ ?_
  rintro (p : Int) v ⟨h1, h2, e⟩
  refine ifD (fun hlt => ?_) fun _ => hR v e
  refine (h.keep0 e).Owns _ (rOwns _ (ifF rfl ?_))
  refine loop1 (a := .i .i64) (fun (n : Int) w => (n = 0 ∨ n = 24) ∧ Ext0 σ w) (fun n _ => (30 - n).toNat) ⟨.inl rfl, e⟩ ?_
  rintro (n : Int) w ⟨hn, ew⟩
  have hw := h.keep0 ew
  refine ifDT (by omega) (rOwns _ (JnB.intro (ifT rfl ?_)))
  rcases hn with rfl | rfl
  · refine ifF rfl (ar (by omega) (by omega) (ar (by omega) (by omega) (asks0 hw _ _ _ _ _ _ fun w2 e2 => JnB.intro (ifF rfl ((hw.keep0 e2).IsTaken _ (rIsTaken _ (ifF rfl (ar (by omega) (by omega) ⟨⟨.inr rfl, Ext.trans ew e2⟩, by decide⟩))))))))
  · exact ifT rfl (ar (by omega) (by omega) ⟨⟨by omega, by omega, ew⟩, by omega⟩)

/-! ## A space that nobody made -/
def UnS (a : Option Addr) (σ : Hp) : Prop := a = none ∨ ∃ b, a = some ⟨b, 0, none⟩ ∧ cell σ ⟨b, 0, none⟩ = some (.slice none 0 0)
theorem UnS.keep0 {σ' : Hp} (h : UnS a σ) (e : Ext0 σ σ') : UnS a σ' := by
  rcases h with h | ⟨b, h1, h2⟩
  · exact .inl h
  · exact .inr ⟨b, h1, (cell_ext e (cell_lt' h2) id).trans h2⟩
theorem UnS.Pages (h : UnS a σ) {R : Int → Hp → Prop} (hR : R 0 σ) : space_Space_Pages.call a σ R := by
  refine space_Space_Pages.of_vc ?_
  unfold space_Space_Pages.vc
  refine space_Space_made.of_vc ?_
  unfold space_Space_made.vc
  refine JnB.intro ?_
  rcases h with rfl | ⟨b, rfl, hc⟩
  · exact ifF rfl (ifT rfl hR)
  · exact ifT rfl (nilP (ldS (x := none) (n := 0) (c := 0) (by rw [add_lit]; exact hc) (ifT rfl hR)))
theorem ANew_un {s : Sl} {xs : List (Int × Int × Int)} (ha : Acts σ s xs) (h : UnS a σ) (room : Int) {R : Option Addr → Int → Hp → Prop} (hR : ∀ σ', Ext0 σ σ' → R none (if validT xs then 1 else 2) σ') : arena_New.call s a room σ R := by
  refine arena_New.of_vc ?_
  unfold arena_New.vc
  refine Valid_ok ha fun v e => ?_
  have := hR v e
  cases hv : validT xs
  · rw [hv] at this; exact ifT rfl this
  · rw [hv] at this
    exact ifF rfl ((h.keep0 e).Pages (JnB.intro (ifDT (by omega) (JnB.intro (ifT rfl (JnB.intro (ifT rfl (ifT rfl this))))))))
theorem AClone_un (h : AHY σ F Y A (traT A Y)) (hS : SpH3 σ H Y.hs sp) (hu : UnS a σ) {R : Option Addr → Hp → Prop} (hR : R none σ) : arena_Arena_Clone.call (some ⟨Y.p, 0, none⟩) a σ R := by
  refine arena_Arena_Clone.of_vc ?_
  unfold arena_Arena_Clone.vc
  have hn : 1 ≤ sp.st.length := by obtain ⟨q, r, l, B, hh⟩ := hS; exact hh.n1
  have hne : ((0 : Int) != ((sp.st.length : Nat) : Int)) = true := by simp; omega
  refine Jn.intro (amade_ok h (ifF rfl (nilP ⟨hu.Pages (h.hd.rP rfl (Pages_ok hS ?_)), h.hd.rP rfl (hu.Pages (Pages_ok hS ?_))⟩)))
  · exact ifT hne hR
  · exact ifT hne hR
theorem great1 {b : Nat} {x0 x1 x2 x3 x4 : Int} {x5 : Sl} (hb : Blk σ b [.int .i64 x0, .int .i64 x1, .int .i64 x2, .int .i64 x3, .int .i64 x4, .slice x5.a x5.len x5.cap]) {R : Bool → Hp → Prop} (hR : ∀ t, R t σ) : freeholdlaw10_great.call ⟨some ⟨b, 0, none⟩, 1, 1⟩ σ R := by
  refine freeholdlaw10_great.of_vc ?_
  unfold freeholdlaw10_great.vc
  refine loop1 (a := .i .i64) (fun (t : Int) v => (t = 0 ∨ t = 1) ∧ v = σ) (fun t _ => (1 - t).toNat) ⟨.inl rfl, rfl⟩ ?_
  rintro (t : Int) v ⟨ht, rfl⟩
  refine ifD (fun hlt => ?_) fun _ => hR _
  simp only at hlt
  have : t = 0 := by omega
  subst this
  refine ix (by omega) (by simp only; omega) ?_
  rw [add_lit]
  refine hb.rS rfl (ifD (fun _ => hR _) fun _ => ar (by omega) (by omega) ⟨⟨.inr rfl, rfl⟩, by decide⟩)

/-! ## The reference's table -/
theorem Right_ok (x y z : Int) {R : Bool → Hp → Prop} (hR : ∀ σ', Ext0 σ σ' → R (clsOk x y z) σ') : freeholdref01_Right.call x y z σ R := by
  refine freeholdref01_Right.of_vc ?_
  unfold freeholdref01_Right.vc
  refine nw (cs := [.int .i64 x, .int .i64 y, .int .i64 z]) fun v hz e hb => ?_
  have no : ¬ (8 ≤ x ∧ x ≤ 512 ∧ x % 8 = 0 ∧ 1 ≤ y ∧ y ≤ 4 ∧ x ≤ y * 256 ∧ 1 ≤ z ∧ z ≤ 32) → R false v := fun hn => by
    have := hR v e
    have hf : clsOk x y z = false := by rw [← Bool.not_eq_true, clsOk_iff]; exact hn
    rw [hf] at this; exact this
  refine hb.rI rfl (JnB.intro (ifD (fun c1 => hb.rI rfl ?_) fun c1 => JnB.intro (ifF rfl (JnB.intro (ifF rfl (JnB.intro (ifF rfl (JnB.intro (ifF rfl (JnB.intro (ifF rfl (JnB.intro (ifF rfl (no (by omega)))))))))))))))
  refine JnB.intro (ifD (fun c2 => hb.rI rfl (nz (by decide) ?_)) fun c2 => JnB.intro (ifF rfl (JnB.intro (ifF rfl (JnB.intro (ifF rfl (JnB.intro (ifF rfl (JnB.intro (ifF rfl (no (by omega))))))))))))
  have tm : x.tmod 8 = x % 8 := tmod_nn (by omega)
  rw [tm]
  refine JnB.intro (iff_ (fun c3 => hb.rI rfl ?_) fun c3 => JnB.intro (ifF rfl (JnB.intro (ifF rfl (JnB.intro (ifF rfl (JnB.intro (ifF rfl (no (fun hh => by simp [hh.2.2.1] at c3))))))))))
  have c3' : x % 8 = 0 := by simpa using c3
  refine JnB.intro (ifD (fun c4 => hb.rI rfl ?_) fun c4 => JnB.intro (ifF rfl (JnB.intro (ifF rfl (JnB.intro (ifF rfl (no (by omega))))))))
  refine JnB.intro (ifD (fun c5 => hb.rI rfl (ar (by omega) (by omega) (hb.rI rfl ?_))) fun c5 => JnB.intro (ifF rfl (JnB.intro (ifF rfl (no (by omega))))))
  refine JnB.intro (ifD (fun c6 => hb.rI rfl ?_) fun c6 => JnB.intro (ifF rfl (no (by omega))))
  refine JnB.intro (ifD (fun c7 => hb.rI rfl ?_) fun c7 => no (by omega))
  by_cases c8 : z ≤ 32
  · rw [decide_eq_true c8]
    have := hR v e
    rw [(clsOk_iff x y z).2 ⟨by omega, by omega, c3', by omega, by omega, by omega, by omega, c8⟩] at this
    exact this
  · rw [decide_eq_false c8]
    exact no (by omega)
theorem RValid_ok {s : Sl} {xs : List (Int × Int × Int)} (ha : Acts σ s xs) {R : Bool → Hp → Prop} (hR : ∀ σ', Ext0 σ σ' → R (validT xs) σ') : freeholdref01_Valid.call s σ R := by
  refine freeholdref01_Valid.of_vc ?_
  unfold freeholdref01_Valid.vc
  have no : ∀ σ', Ext0 σ σ' → ¬ (1 ≤ xs.length ∧ xs.length ≤ 40 ∧ (∀ (i : Nat) t, xs[i]? = some t → clsOk t.1 t.2.1 t.2.2 = true) ∧ ∀ (i : Nat) a b, xs[i]? = some a → xs[i + 1]? = some b → a.1 < b.1) → R false σ' := fun σ' e hn => by
    have := hR σ' e
    have hf : validT xs = false := by rw [← Bool.not_eq_true, validT_iff]; exact hn
    rw [hf] at this; exact this
  have hlen := ha.1
  refine JnB.intro (ifD (fun c1 => ifT rfl (no σ (Ext.refl _ _) fun h => by omega)) fun c1 => ?_)
  refine ifD (fun c2 => no σ (Ext.refl _ _) fun h => by omega) fun c2 => ?_
  refine loop1 (a := .i .i64) (fun (t : Int) v => ∃ i : Nat, t = (i : Int) ∧ i ≤ xs.length ∧ Ext0 σ v ∧ (∀ (j : Nat) t, j < i → xs[j]? = some t → clsOk t.1 t.2.1 t.2.2 = true) ∧ ∀ (j : Nat) a b, j + 1 < i → xs[j]? = some a → xs[j + 1]? = some b → a.1 < b.1) (fun t _ => xs.length - t.toNat)
    ⟨0, rfl, by omega, Ext.refl _ _, fun j t h => by omega, fun j a b h => by omega⟩ ?_
  rintro t v ⟨i, rfl, hi, e, h1, h2⟩
  have hav := acts_keep0 ha e
  refine ifD (fun hlt => ?_) fun hge => ?_
  · have hi' : i < xs.length := by omega
    have hx : xs[i]? = some xs[i] := List.getElem?_eq_getElem hi'
    generalize xs[i] = r at hx
    obtain ⟨x, y, z⟩ := r
    obtain ⟨b, o, g1, g2, g3, g4, g5⟩ := hav.2 i x y z hx
    have k3 : cell v ⟨b, o + (i : Int).toNat * 3 + 0, none⟩ = some (.int .i64 x) := by simpa using g3
    have k4 : cell v ⟨b, o + (i : Int).toNat * 3 + 1, none⟩ = some (.int .i64 y) := by simpa using g4
    have k5 : cell v ⟨b, o + (i : Int).toNat * 3 + 2, none⟩ = some (.int .i64 z) := by simpa using g5
    refine Jn.intro ⟨(· = v), rfl, ?_⟩
    rw [g1]
    refine ix (by omega) (by omega) ?_
    rw [add_lit b o]
    refine ⟨x, fun m hm => by rw [hm, add_lit]; exact k3, ⟨y, fun m hm => by rw [hm, add_lit]; exact k4, ⟨z, fun m hm => by rw [hm, add_lit]; exact k5, ?_⟩⟩⟩
    refine Right_ok x y z fun v7 e7 => ?_
    have e07 := Ext.trans e e7
    have bad : (clsOk x y z = false ∨ ∃ a, 0 < i ∧ xs[i - 1]? = some a ∧ x ≤ a.1) → R false v7 := fun hb => no v7 e07 fun hv => by
      rcases hb with hb | ⟨a, hp, hb1, hb2⟩
      · have := hv.2.2.1 i _ hx; simp only at this; rw [hb] at this; cases this
      · have := hv.2.2.2 (i - 1) a (x, y, z) hb1 (by rw [show i - 1 + 1 = i by omega]; exact hx)
        simp only at this; omega
    cases hc : clsOk x y z
    · exact ifT rfl (ifT rfl (bad (.inl hc)))
    · have next : (∀ a, 0 < i → xs[i - 1]? = some a → a.1 < x) → Ar .i64 ((i : Int) + 1) fun t38 => (∃ i : Nat, t38 = (i : Int) ∧ i ≤ xs.length ∧ Ext0 σ v7 ∧ (∀ (j : Nat) t, j < i → xs[j]? = some t → clsOk t.1 t.2.1 t.2.2 = true) ∧ ∀ (j : Nat) a b, j + 1 < i → xs[j]? = some a → xs[j + 1]? = some b → a.1 < b.1) ∧ xs.length - t38.toNat < xs.length - (i : Int).toNat := by
        intro hp
        refine arN (m := i + 1) (by omega) (by omega) ⟨⟨i + 1, rfl, by omega, e07, fun j t hj ht => ?_, fun j a b hj hja hjb => ?_⟩, by omega⟩
        · by_cases hji : j = i
          · subst hji; rw [hx] at ht; cases ht; exact hc
          · exact h1 j t (by omega) ht
        · by_cases hji : j + 1 = i
          · subst hji
            rw [hx] at hjb; cases hjb
            exact hp a (by omega) hja
          · exact h2 j a b (by omega) hja hjb
      refine ifF rfl (ifD (fun hp => ?_) fun hp => ifF rfl (next fun a hp2 => by omega))
      have hxp : xs[i - 1]? = some (xs[i - 1]'(by omega)) := List.getElem?_eq_getElem _
      generalize xs[i - 1]'(by omega) = r at hxp
      obtain ⟨x', y', z'⟩ := r
      have hav7 := acts_keep0 ha e07
      obtain ⟨b', o', q1, q2, q3, q4, q5⟩ := hav7.2 (i - 1) x' y' z' hxp
      rw [g1] at q1; cases q1
      have p3 : cell v7 ⟨b, o + (((i - 1 : Nat) : Int)).toNat * 3 + 0, none⟩ = some (.int .i64 x') := by simpa using q3
      have p4 : cell v7 ⟨b, o + (i : Int).toNat * 3 + 0, none⟩ = some (.int .i64 x) := (cell_ext e7 (cell_lt' k3) id).trans k3
      refine arN (m := i - 1) (by omega) (by omega) (ix (by omega) (by omega) (ix (by omega) (by omega) ?_))
      have fin : If (decide (x' ≥ x)) (R false v7) (Ar .i64 ((i : Int) + 1) fun t38 => (∃ i : Nat, t38 = (i : Int) ∧ i ≤ xs.length ∧ Ext0 σ v7 ∧ (∀ (j : Nat) t, j < i → xs[j]? = some t → clsOk t.1 t.2.1 t.2.2 = true) ∧ ∀ (j : Nat) a b, j + 1 < i → xs[j]? = some a → xs[j + 1]? = some b → a.1 < b.1) ∧ xs.length - t38.toNat < xs.length - (i : Int).toNat) := by
        refine ifD (fun hle => bad (.inr ⟨_, by omega, hxp, hle⟩)) fun hgt => next fun a _ ha2 => ?_
        rw [hxp] at ha2; cases ha2
        simp only; omega
      rw [add_lit b o, add_lit b o]
      exact ⟨ldI0 p3 (ldI0 p4 fin), ldI0 p4 (ldI0 p3 fin)⟩
  · have : i = xs.length := by omega
    subst this
    have hv : validT xs = true := (validT_iff xs).2 ⟨by omega, by omega, fun i t ht => h1 i t (List.getElem?_eq_some_iff.1 ht).1 ht, fun i a b hja hjb => h2 i a b (List.getElem?_eq_some_iff.1 hjb).1 hja hjb⟩
    have := hR v e
    rw [hv] at this; exact this

end Go.Ar

-- NoC
namespace Go.Ar
open Go Go.Vc Go.Proofs
set_option linter.unusedSimpArgs false
set_option linter.unusedVariables false

variable {σ : Hp}

theorem none_ok (g : Gl σ) {table : Sl} {xs : List (Int × Int × Int)} (ha : Acts σ table xs) (room x0 x1 x2 x3 x4 : Int) (x5 : Sl) {R : Bool → Hp → Prop} (hR : ∀ σ', Ext0 σ σ' → R true σ') :
    freeholdlaw10_ArenaNone.call table room x0 x1 x2 x3 x4 x5 σ R := by
  refine freeholdlaw10_ArenaNone.of_vc ?_
  unfold freeholdlaw10_ArenaNone.vc
  refine nw (cs := [.int .i64 x0, .int .i64 x1, .int .i64 x2, .int .i64 x3, .int .i64 x4, .slice x5.a x5.len x5.cap]) fun v hz e hb => ?_
  refine hb.rI rfl (hb.rI rfl (hb.rI rfl (hb.rI rfl (hb.rI rfl (hb.rS rfl ?_)))))
  refine nw (cs := [.int .i64 x0, .int .i64 x1, .int .i64 x2, .int .i64 x3, .int .i64 x4, .slice x5.a x5.len x5.cap]) fun v1 hz1 e1 hb1 => ?_
  have g1 := (g.keep0 e).keep0 e1
  have a1 := acts_keep0 (acts_keep0 ha e) e1
  have E1 := Ext.trans e e1
  have hbx := e1.blk hb id
  refine great1 hb1 fun t25 => JnB.intro ?_
  have al : ∀ {w : Hp}, Ext0 σ w → freeholdlaw10_alive.call w fun t31 v4 => R t31 v4 := fun ew => alive_ok (g.keep0 ew) fun w' e' => hR w' (Ext.trans ew e')
  refine iff_ (fun _ => ifT rfl (al E1)) fun _ => ?_
  refine iff_ (fun _ => al E1) fun _ => ?_
  refine nw (cs := [.slice none 0 0, .pointer none, .pointer none, .pointer none, .pointer none, .slice none 0 0, .slice none 0 0, .map none]) fun v5 z5 e5 b5 => ?_
  refine nw (cs := [.slice none 0 0, .map none, .int .i64 0]) fun v6 z6 e6 b6 => ?_
  have E6 := Ext.trans (Ext.trans E1 e5) e6
  have a6 := acts_keep0 (acts_keep0 a1 e5) e6
  have hbx6 := e6.blk (e5.blk hbx id) id
  have hua : UnA (some ⟨v1.size, 0, none⟩) v6 := .inr ⟨_, rfl, by rw [(e6.blk b5 id).cell]; rfl⟩
  have hus : UnS (some ⟨v5.size, 0, none⟩) v6 := .inr ⟨_, rfl, by rw [b6.cell]; rfl⟩
  refine SpcNew_ok (n := 64) (by omega) (by omega) fun v7 hs e7 hp7 hS => ?_
  have E7 := Ext.trans E6 e7
  have a7 := acts_keep0 a6 e7
  refine ANew_un a7 (.inl rfl) room fun v8 e8 => ANew_un (acts_keep0 a7 e8) ((hus.keep0 e7).keep0 e8) room fun v9 e9 => ?_
  have a9 := acts_keep0 (acts_keep0 a7 e8) e9
  refine Jn.intro (RValid_ok a9 fun v36 e36 => ?_)
  have E36 := Ext.trans (Ext.trans (Ext.trans E7 e8) e9) e36
  have X736 := Ext.trans (Ext.trans e8 e9) e36
  have a36 := acts_keep0 a9 e36
  have hS36 := hS.keep0 X736
  -- with the third arena, whatever it is
  have third : ∀ (want : Int), want = (if validT xs then 1 else 2) → ∀ (t55 : Option Addr) (w : Hp), Ext0 v36 w → (t55 = none ∨ ∃ Y A F, t55 = some ⟨Y.p, 0, none⟩ ∧ Y.hs = hs ∧ AHY w F Y A (traT A Y)) →
      space_New.call 48 w fun t59 t591 v12 => JnB (fun r1 v13 => JnB (fun r2 v14 => JnB (fun r3 v15 => JnB (fun r4 v16 => JnB (fun r5 v17 => JnB (fun r6 v18 => JnB (fun r7 v19 => JnB (fun r8 v20 => JnB (fun r9 v21 =>
       JnB (fun r10 v22 => JnB (fun r11 v23 => JnB (fun r12 v24 => JnB (fun r13 v25 => R r13 v25) fun J14 => If r12 (freeholdlaw10_alive.call v24 fun t126 v26 => J14 t126 v26) (J14 false v24)) fun J13 =>
        If r11 (arena_Arena_Clone.call t55 t59 v23 fun t122 v27 => J13 t122.isNone v27) (J13 false v23)) fun J12 => If r10 (arena_Arena_Clone.call t55 (some ⟨v5.size, 0, none⟩) v22 fun t116 v28 => J12 t116.isNone v28) (J12 false v22)) fun J11 =>
        If r9 (arena_Arena_Clone.call t55 none v21 fun t111 v29 => J11 t111.isNone v29) (J11 false v21)) fun J10 => If r8 (arena_Arena_Clone.call (some ⟨v1.size, 0, none⟩) (some ⟨hs, 0, none⟩) v20 fun t106 v30 => J10 t106.isNone v30) (J10 false v20)) fun J9 =>
        If r7 (arena_Arena_Clone.call none (some ⟨hs, 0, none⟩) v19 fun t101 v31 => J9 t101.isNone v31) (J9 false v19)) fun J8 => If r6 (freeholdlaw10_Same.call (some ⟨v1.size, 0, none⟩) none 2 v18 fun t96 v32 => J8 t96 v32) (J8 false v18)) fun J7 =>
        If r5 (freeholdlaw10_Same.call none none 2 v17 fun t92 v33 => J7 t92 v33) (J7 false v17)) fun J6 =>
        If r4 (LdI .i64 (Addr.add ⟨σ.size, 0, none⟩ 0) v16 fun t86 => LdI .i64 (Addr.add ⟨σ.size, 0, none⟩ 1) v16 fun t861 => LdI .i64 (Addr.add ⟨σ.size, 0, none⟩ 2) v16 fun t862 => LdI .i64 (Addr.add ⟨σ.size, 0, none⟩ 3) v16 fun t863 => LdI .i64 (Addr.add ⟨σ.size, 0, none⟩ 4) v16 fun t864 => LdS (Addr.add ⟨σ.size, 0, none⟩ 5) v16 fun t865 => freeholdlaw10_play.call (some ⟨v1.size, 0, none⟩) none t86 t861 t862 t863 t864 t865 v16 fun t87 v34 => J6 t87 v34) (J6 false v16)) fun J5 =>
        If r3 (LdI .i64 (Addr.add ⟨σ.size, 0, none⟩ 0) v15 fun t81 => LdI .i64 (Addr.add ⟨σ.size, 0, none⟩ 1) v15 fun t811 => LdI .i64 (Addr.add ⟨σ.size, 0, none⟩ 2) v15 fun t812 => LdI .i64 (Addr.add ⟨σ.size, 0, none⟩ 3) v15 fun t813 => LdI .i64 (Addr.add ⟨σ.size, 0, none⟩ 4) v15 fun t814 => LdS (Addr.add ⟨σ.size, 0, none⟩ 5) v15 fun t815 => freeholdlaw10_play.call none none t81 t811 t812 t813 t814 t815 v15 fun t82 v35 => J5 t82 v35) (J5 false v15)) fun J4 =>
       If r2 (J4 ((if validT xs then (1 : Int) else 2) == want) v14) (J4 false v14)) fun J3 => If r1 (J3 ((if validT xs then (1 : Int) else 2) == want) v13) (J3 false v13)) fun J2 => If (none : Option Addr).isNone (J2 (none : Option Addr).isNone v12) (J2 false v12) := by
    intro want hw t55 w ew ht55
    refine SpcNew_ok (n := 48) (by omega) (by omega) fun v12 hs2 e12 hp12 hS2 => ?_
    have hS12 := (hS36.keep0 ew).keep0 e12
    have X := Ext.trans ew e12
    have E12 := Ext.trans E36 X
    have hua12 := ((hua.keep0 e7).keep0 X736).keep0 X
    have hus12 := ((hus.keep0 e7).keep0 X736).keep0 X
    have hb12 := Ext.blk X (X736.blk (e7.blk hbx6 id) id) id
    have heq : ((if validT xs then (1 : Int) else 2) == want) = true := by rw [hw]; simp
    refine JnB.intro (ifT rfl ?_)
    refine JnB.intro (ifT rfl ?_)
    refine JnB.intro (ifT heq ?_)
    refine JnB.intro (ifT heq ?_)
    refine hb12.rI rfl (hb12.rI rfl (hb12.rI rfl (hb12.rI rfl (hb12.rI rfl (hb12.rS rfl ?_)))))
    refine play0 (.inl rfl) _ _ _ _ _ _ fun w1 y1 => ?_
    have hbw1 := y1.blk hb12 id
    refine JnB.intro (ifT rfl ?_)
    refine hbw1.rI rfl (hbw1.rI rfl (hbw1.rI rfl (hbw1.rI rfl (hbw1.rI rfl (hbw1.rS rfl ?_)))))
    refine play0 (hua12.keep0 y1) _ _ _ _ _ _ fun w2 y2 => ?_
    refine JnB.intro (ifT rfl ?_)
    refine same0 (.inl rfl) fun w3 y3 => ?_
    refine JnB.intro (ifT rfl ?_)
    refine same0 (((hua12.keep0 y1).keep0 y2).keep0 y3) fun w4 y4 => ?_
    refine JnB.intro (ifT rfl ?_)
    have Y4 := Ext.trans (Ext.trans (Ext.trans y1 y2) y3) y4
    have hua4 := hua12.keep0 Y4
    have hus4 := hus12.keep0 Y4
    have hS4 := hS12.keep0 Y4
    have hS24 := hS2.keep0 Y4
    refine (show UnA none w4 from .inl rfl).Clone _ ?_
    refine JnB.intro (ifT rfl ?_)
    refine hua4.Clone _ ?_
    refine JnB.intro (ifT rfl ?_)
    rcases ht55 with rfl | ⟨Y, A, F, rfl, hYh, hA⟩
    · have hn : UnA none w4 := .inl rfl
      refine hn.Clone _ ?_
      refine JnB.intro (ifT rfl ?_)
      refine hn.Clone _ ?_
      refine JnB.intro (ifT rfl ?_)
      refine hn.Clone _ ?_
      refine JnB.intro (ifT rfl ?_)
      exact alive_ok (g.keep0 (Ext.trans E12 Y4)) fun w5 y5 => hR w5 (Ext.trans (Ext.trans E12 Y4) y5)
    · have hA4 := (hA.keep0 e12).keep0 Y4
      have hS4' := hS4
      rw [← hYh] at hS4'
      have hlen : (newSp 48).st.length ≠ (newSp 64).st.length := by simp [newSp]
      refine AClone_un (F := F) hA4 hS4' (.inl rfl) ?_
      refine JnB.intro (ifT rfl ?_)
      refine AClone_un (F := F) hA4 hS4' hus4 ?_
      refine JnB.intro (ifT rfl ?_)
      refine AClone_ok hA4 hS4' hS24 (fun _ => ?_) fun hh => absurd hh hlen
      refine JnB.intro (ifT rfl ?_)
      exact alive_ok (g.keep0 (Ext.trans E12 Y4)) fun w5 y5 => hR w5 (Ext.trans (Ext.trans E12 Y4) y5)
  refine iff_ (fun hv => ?_) fun hv => ?_
  · have hw : (1 : Int) = (if validT xs then 1 else 2) := by rw [hv]; rfl
    refine ANew_ok a36 hS36 room (fun _ w ew => ?_) fun _ w Y ew hYh hA => ?_
    · exact third 1 hw none w ew (.inl rfl)
    · exact third 1 hw _ w ew (.inr ⟨Y, _, _, rfl, hYh, hA⟩)
  · have hw : (2 : Int) = (if validT xs then 1 else 2) := by rw [hv]; rfl
    refine ANew_ok a36 hS36 room (fun _ w ew => ?_) fun _ w Y ew hYh hA => ?_
    · exact third 2 hw none w ew (.inl rfl)
    · exact third 2 hw _ w ew (.inr ⟨Y, _, _, rfl, hYh, hA⟩)

end Go.Ar

-- RowA
namespace Go.Ar
open Go Go.Vc Go.Proofs Go.ChangeShapes Go.WideShapes Go.RowKit Go.Deep
set_option linter.unusedSimpArgs false
set_option linter.unusedVariables false

theorem open_six {H : Type} {enc : TypeId × Value → H} {P : Program} {w : World} {b0 : Nat} {t e : TypeId} {f0 f1 f2 f3 f4 f5 : Field} {v : Value} {d : DataW H} {ps : List MemPlace}
    (ht : P.underlying t = some (.struct #[f0, f1, f2, f3, f4, f5])) (hone : oneCellFields P #[f0, f1, f2, f3, f4, f5] = true) (hC : P.cellsOf t = 6)
    (h0 : P.underlying f0.type = some (.int .i64)) (h1 : P.underlying f1.type = some (.int .i64)) (h2 : P.underlying f2.type = some (.int .i64)) (h3 : P.underlying f3.type = some (.int .i64)) (h4 : P.underlying f4.type = some (.int .i64)) (h5 : P.underlying f5.type = some (.slice e))
    (hval : Value.okWide P w .any b0 t v) (h : DataW.Trod enc P w 0 (fun _ => true) true t v d ps) :
    ∃ (x0 x1 x2 x3 x4 : Int) (s : Sl), v = .agg #[.int .i64 x0, .int .i64 x1, .int .i64 x2, .int .i64 x3, .int .i64 x4, .slice s.a s.len s.cap] := by
  unfold Value.okWide at hval
  rw [ht] at hval
  obtain ⟨cs, rfl, hsz, _⟩ := hval
  obtain ⟨fuel, hf⟩ := h
  obtain ⟨ys, n, hn, hy, hlen, hyl, hff⟩ := DataW.trod_struct ht hf
  obtain ⟨l⟩ := cs
  have hl6 : l.length = 6 := by rw [← hC]; simpa using hsz
  match l, hl6 with
  | [c0, c1, c2, c3, c4, c5], _ =>
    have one : ∀ (j : Nat) (f : Field) (c : Value), (#[f0, f1, f2, f3, f4, f5] : Array Field)[j]? = some f → [c0, c1, c2, c3, c4, c5][j]? = some c → P.underlying f.type = some (.int .i64) → ∃ x : Int, c = .int .i64 x := by
      intro j f c hj hc hu
      obtain ⟨ho, hk⟩ := hone_of hone j f hj
      have h3 := hff j f hj
      rw [ho, hk] at h3
      have hjl := (List.getElem?_eq_some_iff.1 hc).1
      have e1 : ((Value.agg #[c0, c1, c2, c3, c4, c5]).cells.toList.drop j).take 1 = [c] := by
        have : (Value.agg #[c0, c1, c2, c3, c4, c5]).cells.toList = [c0, c1, c2, c3, c4, c5] := rfl
        rw [this, List.drop_eq_getElem_cons hjl, List.take_succ_cons, List.take_zero, (List.getElem?_eq_some_iff.1 hc).2]
      rw [e1] at h3
      have hys : ys[j]? = some (ys[j]'(by rw [hyl]; simp at hjl ⊢; omega)) := List.getElem?_eq_getElem _
      rw [hys] at h3
      obtain ⟨x, hx1, _, _⟩ := DataW.trod_int hu h3
      exact ⟨x, by simpa using hx1⟩
    have sl : ∃ s : Sl, c5 = .slice s.a s.len s.cap := by
      obtain ⟨ho, hk⟩ := hone_of hone 5 f5 rfl
      have h3 := hff 5 f5 rfl
      rw [ho, hk] at h3
      have e1 : ((Value.agg #[c0, c1, c2, c3, c4, c5]).cells.toList.drop 5).take 1 = [c5] := rfl
      rw [e1] at h3
      have hys : ys[5]? = some (ys[5]'(by rw [hyl]; simp)) := List.getElem?_eq_getElem _
      rw [hys] at h3
      rcases Go.Deep.open_slice h5 h3 with ⟨hcs, _⟩ | ⟨ad, len', cap', m, n, D, Pl, hcs, _⟩
      · exact ⟨⟨none, 0, 0⟩, by simpa using hcs⟩
      · exact ⟨⟨some ad, len', cap'⟩, by simpa using hcs⟩
    obtain ⟨x0, rfl⟩ := one 0 f0 c0 rfl rfl h0
    obtain ⟨x1, rfl⟩ := one 1 f1 c1 rfl rfl h1
    obtain ⟨x2, rfl⟩ := one 2 f2 c2 rfl rfl h2
    obtain ⟨x3, rfl⟩ := one 3 f3 c3 rfl rfl h3
    obtain ⟨x4, rfl⟩ := one 4 f4 c4 rfl rfl h4
    obtain ⟨s, rfl⟩ := sl
    exact ⟨x0, x1, x2, x3, x4, s, rfl⟩

/-! ## The package's variables -/
theorem bool_of_trod {H : Type} {enc : TypeId × Value → H} {P : Program} {w : World} {base : Nat} {sp : Nat → Bool} {held : Bool} {fuel : Nat} {t : TypeId} {c : Value} {y : DataW H × List MemPlace}
    (ht : P.underlying t = some .bool) (h : DataW.trod enc P w base sp held fuel t [c] = some y) : ∃ n, c = .bool n ∧ y = (.lit (.bool n), []) := by
  cases fuel with
  | zero => simp [DataW.trod] at h
  | succ fuel =>
    cases c <;> simp [DataW.trod, ht] at h
    rename_i n
    exact ⟨n, rfl, by simpa using h.symm⟩
/-- Two cells, by what is read in them. -/
theorem two_cells {P : Program} {w : World} {t : TypeId} {f0 f1 : Field} {cs : Array Value} {fuel : Nat} {p : List MemPlace} {x y : Bool} (ht : P.underlying t = some (.struct #[f0, f1])) (hone : oneCellFields P #[f0, f1] = true) (hC : P.cellsOf t = 2)
    (h0 : P.underlying f0.type = some .bool) (h1 : P.underlying f1.type = some .bool) (h : DataW.trod (fun _ => ()) P w 0 (fun _ => true) false fuel t cs.toList = some (.agg [.lit (.bool x), .lit (.bool y)], p)) : cs = #[.bool x, .bool y] := by
  obtain ⟨ys, n, hn, hy, hlen, hyl, hff⟩ := DataW.trod_struct ht h
  obtain ⟨l⟩ := cs
  have hl2 : l.length = 2 := by rw [← hC]; simpa using hlen
  match l, hl2 with
  | [c0, c1], _ =>
    have k0 := hff 0 f0 rfl
    have k1 := hff 1 f1 rfl
    obtain ⟨o0, q0⟩ := hone_of hone 0 f0 rfl
    obtain ⟨o1, q1⟩ := hone_of hone 1 f1 rfl
    rw [o0, q0] at k0
    rw [o1, q1] at k1
    match ys, hyl with
    | [y0, y1], _ =>
      obtain ⟨n0, rfl, e0⟩ := bool_of_trod h0 (c := c0) (y := y0) (by simpa using k0)
      obtain ⟨n1, rfl, e1⟩ := bool_of_trod h1 (c := c1) (y := y1) (by simpa using k1)
      subst e0; subst e1
      simp at hy
      obtain ⟨⟨rfl, rfl⟩, _⟩ := hy
      rfl
theorem cell_of {w : World} {a : Addr} {v : Value} (h : w.cell? a = some v) : cell w.heap a = some v := h

end Go.Ar
