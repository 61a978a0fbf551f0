/- Printed by gen.py: verification conditions. -/
import Derived.Test.YtimoepajidnmjaaGC
namespace Go.Proofs
open Go.Vc
set_option linter.unusedVariables false
def freeholdlaw03_BuddyOrders.hint : Hn := .seq (.reg (.seq [.op])) (.seq (.seq (.reg (.seq [.op, .op])) (.cond (.seq (.reg (.seq [.op, .op])) (.leaf)) (.leaf))) (.seq (.reg (.seq [.op, .op, .op, .op])) (.seq (.seq (.reg (.seq [.op, .op])) (.cond (.seq (.reg (.seq [.op])) (.leaf)) (.leaf))) (.seq (.seq (.reg (.seq [.op, .op, .op, .grd true 2 [.op, .op]])) (.cond (.seq (.reg (.seq [.op, .op, .op, .op, .op, .op, .op, .op, .op, .op, .grd true 1 [.op], .op])) (.leaf)) (.leaf))) (.seq (.reg (.seq [.op, .op, .op, .op, .op, .op, .grd true 1 [.op], .op])) (.leaf))))))
def freeholdlaw03_BuddyOrders.vc (pages : Int) (l : Sl) (order : Int) (σ : Hp) (R : Bool → Hp → Prop) : Prop :=
 freeholdlaw03_great.call l σ fun t9 v =>
 If t9 (freeholdlaw03_alive.call v fun t10 v1 =>
  R t10 v1)
  (freeholdlaw03_made.call pages l v fun vh v2 =>
  If vh.isNone (R false v2)
   (JnB (fun r v3 =>
    If r (buddy_Heap_Blocks.call vh order v3 fun t24 v4 =>
     buddy_Heap_Free.call vh v4 fun t27 v5 =>
     Nn order <|
     JnB (fun r1 v6 =>
      R r1 v6) fun J1 =>
     If (decide (((t24.len : Nat) : Int) ≤ (t27.fdiv (2 ^ (min order.toNat IntKind.i64.bits))))) (freeholdlaw03_alive.call v5 fun t32 v7 =>
      J1 t32 v7)
      (J1 false v5))
     (buddy_Heap_Blocks.call vh order v3 fun t36 v8 =>
     JnB (fun r2 v9 =>
      R r2 v9) fun J2 =>
     If (((t36.len : Nat) : Int) == 0) (freeholdlaw03_alive.call v8 fun t40 v10 =>
      J2 t40 v10)
      (J2 false v8))) fun J =>
   If (decide (order ≥ 0)) (J (decide (order ≤ 10)) v2)
    (J false v2)))
set_option maxRecDepth 100000 in
theorem freeholdlaw03_BuddyOrders.vc_eq (pages : Int) (l : Sl) (order : Int) (σ : Hp) (R : Bool → Hp → Prop) : fnK Try.prog Try.f3 freeholdlaw03_BuddyOrders.hint [.int .u16 pages, .slice l.a l.len l.cap, .int .i64 order] [.one .b] R σ = freeholdlaw03_BuddyOrders.vc pages l order σ R := by kernel_rfl
theorem freeholdlaw03_BuddyOrders.of_vc {pages : Int} {l : Sl} {order : Int} {σ : Hp} {R : Bool → Hp → Prop} (hv : freeholdlaw03_BuddyOrders.vc pages l order σ R) : freeholdlaw03_BuddyOrders.call pages l order σ R :=
  fnK_sound Try.func3 (x := freeholdlaw03_BuddyOrders.hint) (args := [.int .u16 pages, .slice l.a l.len l.cap, .int .i64 order]) (rs := [.one .b]) (R := R) (by rw [freeholdlaw03_BuddyOrders.vc_eq]; exact hv)
def freeholdlaw03_BuddyBlocks.hint : Hn := .seq (.reg (.seq [.op])) (.seq (.seq (.reg (.seq [.op, .op])) (.cond (.seq (.reg (.seq [.op, .op])) (.leaf)) (.leaf))) (.seq (.reg (.seq [.op, .op, .op, .op])) (.seq (.seq (.reg (.seq [.op, .op])) (.cond (.seq (.reg (.seq [.op])) (.leaf)) (.leaf))) (.seq (.reg (.seq [.op, .op, .op, .op, .op])) (.seq (.reg (.seq [.op, .op, .op])) (.seq (.seq (.reg (.seq [.op])) (.block (.loop [(8, .one (.i .i64))] (.seq (.seq (.reg (.seq [.op, .op])) (.cond (.leaf) (.leaf))) (.seq (.block (.seq (.reg (.seq [.op, .op, .op, .op])) (.seq (.reg (.seq [.op])) (.block (.loop [(10, .one (.i .i64))] (.seq (.seq (.reg (.seq [.op, .op, .op, .op])) (.cond (.leaf) (.leaf))) (.seq (.block (.seq (.seq (.reg (.quiet [.op, .op, .op, .op, .op, .op, .grd false 6 [.op, .op, .op, .op, .op, .op], .op, .grd false 8 [.op, .op, .op, .op, .op, .op, .op, .op], .op, .grd false 9 [.op, .op, .op, .op, .op, .op, .op, .op, .op], .op, .grd false 14 [.op, .op, .op, .grd true 10 [.op, .op, .op, .op, .op, .op, .op, .op, .op, .op]]])) (.cond (.seq (.reg (.seq [.op])) (.leaf)) (.leaf))) (.seq (.seq (.reg (.quiet [.op, .op, .op, .grd true 13 [.op, .op, .op, .op, .op, .op, .op, .op, .op, .op, .op, .op, .op], .op, .grd true 9 [.op, .op, .op, .op, .op, .op, .op, .op, .op]])) (.cond (.seq (.reg (.seq [.op])) (.leaf)) (.leaf))) (.seq (.reg (.seq [.op, .op, .op, .op, .op])) (.block (.loop [(11, .one (.i .i64))] (.seq (.seq (.reg (.quiet [.op, .op, .op, .op, .op, .op, .op, .op, .op])) (.cond (.leaf) (.leaf))) (.seq (.block (.reg (.seq [.op, .op, .op, .op, .op, .op, .op]))) (.reg (.seq [.op, .op, .op])))))))))) (.reg (.seq [.op, .op, .op]))))))))) (.reg (.seq [.op, .op, .op]))))))) (.seq (.reg (.seq [.op])) (.seq (.seq (.reg (.seq [.op])) (.block (.loop [(12, .one (.i .i64)), (13, .one (.i .i64))] (.seq (.seq (.reg (.seq [.op, .op, .op])) (.cond (.leaf) (.leaf))) (.seq (.block (.seq (.seq (.reg (.heldJ true [] [(160, .one .b)] (.take 0 (.take 1 (.take 2 (.take 3 (.take 4 (.take 5 (.split 150 (.take 6 (.take 7 (.take 8 (.take 9 (.take 10 (.take 11 (.take 12 (.take 13 (.take 14 (.take 15 (.done))))))))))) (.take 6 (.take 7 (.take 8 (.take 9 (.take 10 (.take 11 (.take 12 (.all [(13, .take 14 (.take 15 (.done)))]))))))))))))))))) (.cond (.seq (.reg (.seq [.op])) (.leaf)) (.leaf))) (.reg (.seq [.op, .op, .op, .op, .op, .op, .op])))) (.reg (.seq [.op, .op, .op]))))))) (.seq (.reg (.seq [.op, .op, .op, .op, .op, .grd true 1 [.op], .op])) (.leaf))))))))))
def freeholdlaw03_BuddyBlocks.vc (pages : Int) (l : Sl) (σ : Hp) (R : Bool → Hp → Prop) : Prop :=
 freeholdlaw03_great.call l σ fun t15 v =>
 If t15 (freeholdlaw03_alive.call v fun t16 v1 =>
  R t16 v1)
  (freeholdlaw03_made.call pages l v fun vh v2 =>
  If vh.isNone (R false v2)
   (Ar .i64 pages fun t23 =>
   Nz 1024 <|
   Ar .i64 ((t23.tmod 1024) + 1) fun n =>
   Mk n n 8 3 [.int .i64 0] v2 fun told v3 =>
   LoopK [(.i .i64)] (fun I => I 0 v3) fun J (order : Int) v4 =>
   If (decide (order ≤ 10)) (buddy_Heap_Blocks.call vh order v4 fun b v5 =>
    LoopK [(.i .i64)] (fun I1 => I1 0 v5) fun J1 (i : Int) v6 =>
    If (decide (i < ((b.len : Nat) : Int))) (Ix b.a b.len i 1 fun a43 =>
     LdI .i64 a43 v6 fun t44 =>
     JnB (fun r v7 =>
      JnB (fun r1 v8 =>
       JnB (fun r2 v9 =>
        JnB (fun r3 v10 =>
         If r3 (R false v10)
          (JnB (fun r4 v11 =>
           JnB (fun r5 v12 =>
            If r5 (R false v12)
             (Ix b.a b.len i 1 fun a121 =>
             LdI .i64 a121 v12 fun p =>
             LoopK [(.i .i64)] (fun I2 => I2 p v12) fun J8 (p1 : Int) v13 =>
             Ix b.a b.len i 1 fun a126 =>
             LdI .i64 a126 v13 fun t127 =>
             Nn order <| Ar .i64 (1 * 2 ^ (min order.toNat IntKind.i64.bits)) fun t129 =>
             Ar .i64 (t127 + t129) fun t130 =>
             If (decide (p1 < t130)) (Ix told.a told.len p1 1 fun a136 =>
              LdI .i64 a136 v13 fun t137 =>
              Ar .i64 (t137 + 1) fun t138 =>
              Ix told.a told.len p1 1 fun a139 =>
              St1 a139 (.int .i64 t138) v13 fun v14 =>
              Ar .i64 (p1 + 1) fun p2 =>
              J8 p2 v14)
              (Ar .i64 (i + 1) fun i1 =>
              J1 i1 v13))) fun J7 =>
           If r4 (Ar .i64 (i - 1) fun t111 =>
            Ix b.a b.len t111 1 fun a112 =>
            LdI .i64 a112 v11 fun t113 =>
            Nn order <| Ar .i64 (2 * 2 ^ (min order.toNat IntKind.i64.bits)) fun t115 =>
            Nz t115 <|
            J7 ((t113.tmod t115) == 0) v11)
            (J7 false v11)) fun J6 =>
          If (decide (i > 0)) (Ix b.a b.len i 1 fun a96 =>
           LdI .i64 a96 v10 fun t97 =>
           Ar .i64 (i - 1) fun t100 =>
           Ix b.a b.len t100 1 fun a101 =>
           LdI .i64 a101 v10 fun t102 =>
           Nn order <| Ar .i64 (1 * 2 ^ (min order.toNat IntKind.i64.bits)) fun t104 =>
           Ar .i64 (t102 + t104) fun t105 =>
           J6 (t97 == t105) v10)
           (J6 false v10))) fun J5 =>
        If r2 (J5 true v9)
         (JnB (fun r6 v15 =>
          J5 r6 v15) fun J9 =>
         If (decide (i > 0)) (Ar .i64 (i - 1) fun t81 =>
          Ix b.a b.len t81 1 fun a82 =>
          LdI .i64 a82 v9 fun t83 =>
          Ix b.a b.len i 1 fun a86 =>
          LdI .i64 a86 v9 fun t87 =>
          J9 (decide (t83 ≥ t87)) v9)
          (J9 false v9))) fun J4 =>
       If r1 (J4 true v8)
        (Nn order <| Ar .i64 (1 * 2 ^ (min order.toNat IntKind.i64.bits)) fun t66 =>
        Ix b.a b.len i 1 fun a70 =>
        LdI .i64 a70 v8 fun t71 =>
        Ar .i64 (n - t71) fun t72 =>
        J4 (decide (t66 > t72)) v8)) fun J3 =>
      If r (J3 true v7)
       (Ix b.a b.len i 1 fun a57 =>
       LdI .i64 a57 v7 fun t58 =>
       Nn order <| Ar .i64 (1 * 2 ^ (min order.toNat IntKind.i64.bits)) fun t60 =>
       Nz t60 <|
       J3 ((t58.tmod t60) != 0) v7)) fun J2 =>
     If (decide (t44 < 0)) (J2 true v6)
      (Ix b.a b.len i 1 fun a49 =>
      LdI .i64 a49 v6 fun t50 =>
      J2 (decide (t50 ≥ n)) v6))
     (Ar .i64 (order + 1) fun order1 =>
     J order1 v6))
    (LoopK [(.i .i64), (.i .i64)] (fun I3 => I3 0 0 v4) fun J10 (free : Int) (p3 : Int) v16 =>
    If (decide (p3 < n)) (Jn [.b] (fun (t160 : Bool) v17 =>
      If t160 (R false v17)
       (Ix told.a told.len p3 1 fun a164 =>
       LdI .i64 a164 v17 fun t165 =>
       Ar .i64 (free + t165) fun free1 =>
       Ar .i64 (p3 + 1) fun p4 =>
       J10 free1 p4 v17)) fun J11 =>
     Held v16 fun S =>
     Ix told.a told.len p3 1 fun a147 =>
     LdH S (.i .i64) a147 fun (t148 : Int) =>
     If (decide (t148 > 1)) (J11 true v16)
      (Ix told.a told.len p3 1 fun a153 =>
      LdH S (.i .i64) a153 fun (t154 : Int) =>
      buddy_Heap_IsFree.call vh p3 v16 fun t158 v18 =>
      S v18 ∧
      J11 (!((t154 == 1) == t158)) v18))
     (buddy_Heap_Free.call vh v16 fun t169 v19 =>
     JnB (fun r7 v20 =>
      R r7 v20) fun J12 =>
     If (free == t169) (freeholdlaw03_alive.call v19 fun t172 v21 =>
      J12 t172 v21)
      (J12 false v19)))))
set_option maxRecDepth 100000 in
theorem freeholdlaw03_BuddyBlocks.vc_eq (pages : Int) (l : Sl) (σ : Hp) (R : Bool → Hp → Prop) : fnK Try.prog Try.f4 freeholdlaw03_BuddyBlocks.hint [.int .u16 pages, .slice l.a l.len l.cap] [.one .b] R σ = freeholdlaw03_BuddyBlocks.vc pages l σ R := by kernel_rfl
theorem freeholdlaw03_BuddyBlocks.of_vc {pages : Int} {l : Sl} {σ : Hp} {R : Bool → Hp → Prop} (hv : freeholdlaw03_BuddyBlocks.vc pages l σ R) : freeholdlaw03_BuddyBlocks.call pages l σ R :=
  fnK_sound Try.func4 (x := freeholdlaw03_BuddyBlocks.hint) (args := [.int .u16 pages, .slice l.a l.len l.cap]) (rs := [.one .b]) (R := R) (by rw [freeholdlaw03_BuddyBlocks.vc_eq]; exact hv)
def freeholdlaw03_BuddyAlone.hint : Hn := .seq (.reg (.seq [.op])) (.seq (.seq (.reg (.seq [.op, .op])) (.cond (.seq (.reg (.seq [.op, .op])) (.leaf)) (.leaf))) (.seq (.reg (.seq [.op, .op, .op, .op])) (.seq (.reg (.seq [.op, .op, .op])) (.seq (.seq (.reg (.seq [.op, .op, .op, .grd false 2 [.op, .op]])) (.cond (.seq (.reg (.seq [.op])) (.leaf)) (.leaf))) (.seq (.reg (.seq [.op, .op, .op, .op, .op])) (.seq (.seq (.reg (.seq [.op])) (.block (.loop [(10, .one (.i .i64))] (.seq (.seq (.reg (.seq [.op, .op, .op])) (.cond (.leaf) (.leaf))) (.seq (.block (.seq (.reg (.seq [.op, .op, .op, .op, .op, .op, .op, .op, .op, .op])) (.sjn [(11, .one (.i .i64))] (.seq (.reg (.seq [.op, .op, .op])) (.cond (.reg (.seq [.op, .op, .op, .op, .op, .op, .op, .op, .op, .op, .op, .op, .op])) (.leaf))) (.seq (.reg (.seq [.op, .op, .op, .op, .grd true 4 [.op, .op, .op, .op]])) (.cond (.seq (.reg (.seq [.op])) (.leaf)) (.leaf)))))) (.reg (.seq [.op, .op, .op]))))))) (.seq (.reg (.seq [.op, .op, .op, .op, .grd true 1 [.op], .op])) (.leaf))))))))
def freeholdlaw03_BuddyAlone.vc (pages : Int) (l : Sl) (vfrom : Int) (σ : Hp) (R : Bool → Hp → Prop) : Prop :=
 freeholdlaw03_great.call l σ fun t13 v =>
 If t13 (freeholdlaw03_alive.call v fun t14 v1 =>
  R t14 v1)
  (freeholdlaw03_made.call pages l v fun vh v2 =>
  freeholdlaw03_made.call pages ⟨none, 0, 0⟩ v2 fun g v3 =>
  JnB (fun r v4 =>
   If r (R false v4)
    (Ar .i64 pages fun t27 =>
    Nz 1024 <|
    Ar .i64 ((t27.tmod 1024) + 1) fun n =>
    LoopK [(.i .i64)] (fun I => I 0 v4) fun J1 (i : Int) v5 =>
    If (decide (i < n)) (Ar .i64 vfrom fun t36 =>
     Nz n <|
     Nz 2 <| Ar .i64 (i.tdiv 2) fun t40 =>
     Ar .i64 ((t36.tmod n) + t40) fun t41 =>
     Nz n <|
     Jn [(.i .i64)] (fun (p1 : Int) v6 =>
      buddy_Heap_IsFree.call vh p1 v6 fun t61 v7 =>
      JnB (fun r1 v8 =>
       If r1 (R false v8)
        (Ar .i64 (i + 1) fun i1 =>
        J1 i1 v8)) fun J3 =>
      If t61 (buddy_Heap_Give.call g p1 1 v7 fun t65 v9 =>
       J3 (t65 != 0) v9)
       (J3 false v7)) fun J2 =>
     Nz 2 <|
     If ((i.tmod 2) == 1) (Ar .i64 vfrom fun t48 =>
      Nz n <|
      Ar .i64 ((t48.tmod n) + n) fun t52 =>
      Ar .i64 (t52 - 1) fun t53 =>
      Nz 2 <| Ar .i64 (i.tdiv 2) fun t55 =>
      Ar .i64 (t53 - t55) fun t56 =>
      Nz n <|
      J2 (t56.tmod n) v5)
      (J2 (t41.tmod n) v5))
     (freeholdlaw03_alike.call g vh v5 fun t70 v10 =>
     JnB (fun r2 v11 =>
      R r2 v11) fun J4 =>
     If t70 (freeholdlaw03_alive.call v10 fun t72 v12 =>
      J4 t72 v12)
      (J4 false v10)))) fun J =>
  If vh.isNone (J true v3)
   (J g.isNone v3))
set_option maxRecDepth 100000 in
theorem freeholdlaw03_BuddyAlone.vc_eq (pages : Int) (l : Sl) (vfrom : Int) (σ : Hp) (R : Bool → Hp → Prop) : fnK Try.prog Try.f5 freeholdlaw03_BuddyAlone.hint [.int .u16 pages, .slice l.a l.len l.cap, .int .u16 vfrom] [.one .b] R σ = freeholdlaw03_BuddyAlone.vc pages l vfrom σ R := by kernel_rfl
theorem freeholdlaw03_BuddyAlone.of_vc {pages : Int} {l : Sl} {vfrom : Int} {σ : Hp} {R : Bool → Hp → Prop} (hv : freeholdlaw03_BuddyAlone.vc pages l vfrom σ R) : freeholdlaw03_BuddyAlone.call pages l vfrom σ R :=
  fnK_sound Try.func5 (x := freeholdlaw03_BuddyAlone.hint) (args := [.int .u16 pages, .slice l.a l.len l.cap, .int .u16 vfrom]) (rs := [.one .b]) (R := R) (by rw [freeholdlaw03_BuddyAlone.vc_eq]; exact hv)
def freeholdlaw03_BuddyPlays.hint : Hn := .seq (.reg (.seq [.op])) (.seq (.seq (.reg (.seq [.op, .op])) (.cond (.seq (.reg (.seq [.op, .op])) (.leaf)) (.leaf))) (.seq (.reg (.seq [.op, .op, .op, .op, .op, .op, .op])) (.seq (.reg (.seq [.op, .op, .op, .op, .op, .op, .op])) (.seq (.seq (.reg (.seq [.op, .op, .op, .op, .grd false 5 [.op, .op, .op, .op, .op]])) (.cond (.seq (.reg (.seq [.op])) (.leaf)) (.leaf))) (.seq (.seq (.reg (.seq [.op])) (.block (.loop [(7, .one .p), (9, .one .p), (11, .one (.i .i64))] (.seq (.seq (.reg (.seq [.op, .op, .op, .op])) (.cond (.leaf) (.leaf))) (.seq (.block (.sjn [(7, .one .p), (9, .one .p)] (.seq (.reg (.seq [.op, .op, .op, .op, .op, .op])) (.cond (.reg (.seq [.op, .op, .op, .op, .op, .op])) (.leaf))) (.seq (.reg (.seq [.op, .op, .op, .op, .op, .op, .op, .op])) (.cond (.seq (.reg (.seq [.op])) (.leaf)) (.leaf))))) (.reg (.seq [.op, .op, .op]))))))) (.seq (.reg (.seq [.op, .op, .op, .op, .grd true 7 [.op, .op, .op, .op, .op, .op, .op], .op, .grd true 1 [.op], .op])) (.leaf)))))))
def freeholdlaw03_BuddyPlays.vc (pages : Int) (l : Sl) (page : Int) (σ : Hp) (R : Bool → Hp → Prop) : Prop :=
 freeholdlaw03_great.call l σ fun t13 v =>
 If t13 (freeholdlaw03_alive.call v fun t14 v1 =>
  R t14 v1)
  (buddy_New.call pages v fun t17 t171 v2 =>
  freeholdref03_New.call pages v2 fun t22 t221 v3 =>
  JnB (fun r v4 =>
   If r (R false v4)
    (LoopK [.p, .p, (.i .i64)] (fun I => I t17 t22 0 v4) fun J1 (vh : Option Addr) (t : Option Addr) (i : Int) v5 =>
    If (decide (i < ((l.len : Nat) : Int))) (Jn [.p, .p] (fun (vh1 : Option Addr) (t1 : Option Addr) v6 =>
      Ix l.a l.len i 3 fun a55 =>
      LdI .i64 (a55.add 0) v6 fun t56 =>
      LdI .i64 (a55.add 1) v6 fun t561 =>
      LdI .i64 (a55.add 2) v6 fun t562 =>
      freeholdlaw03_play.call vh1 t1 t56 t561 t562 v6 fun t57 v7 =>
      If (!t57) (R false v7)
       (Ar .i64 (i + 1) fun i1 =>
       J1 vh1 t1 i1 v7)) fun J2 =>
     Ix l.a l.len i 3 fun a43 =>
     LdI .i64 (a43.add 0) v5 fun t45 =>
     If (t45 == 3) (buddy_Heap_Clone.call vh v5 fun vh2 v8 =>
      freeholdref03_Heap_Clone.call t v8 fun t2 v9 =>
      J2 vh2 t2 v9)
      (J2 vh t v5))
     (freeholdlaw03_Same.call vh t v5 fun t61 v10 =>
     JnB (fun r1 v11 =>
      JnB (fun r2 v12 =>
       R r2 v12) fun J4 =>
      If r1 (freeholdlaw03_alive.call v11 fun t72 v13 =>
       J4 t72 v13)
       (J4 false v11)) fun J3 =>
     If t61 (buddy_Heap_IsFree.call vh page v10 fun t65 v14 =>
      freeholdref03_Heap_IsFree.call t page v14 fun t68 v15 =>
      J3 (t65 == t68) v15)
      (J3 false v10)))) fun J =>
  If (t171 != t221) (J true v3)
   (J (!((!t17.isNone) == (!t22.isNone))) v3))
set_option maxRecDepth 100000 in
theorem freeholdlaw03_BuddyPlays.vc_eq (pages : Int) (l : Sl) (page : Int) (σ : Hp) (R : Bool → Hp → Prop) : fnK Try.prog Try.f6 freeholdlaw03_BuddyPlays.hint [.int .i64 pages, .slice l.a l.len l.cap, .int .i64 page] [.one .b] R σ = freeholdlaw03_BuddyPlays.vc pages l page σ R := by kernel_rfl
theorem freeholdlaw03_BuddyPlays.of_vc {pages : Int} {l : Sl} {page : Int} {σ : Hp} {R : Bool → Hp → Prop} (hv : freeholdlaw03_BuddyPlays.vc pages l page σ R) : freeholdlaw03_BuddyPlays.call pages l page σ R :=
  fnK_sound Try.func6 (x := freeholdlaw03_BuddyPlays.hint) (args := [.int .i64 pages, .slice l.a l.len l.cap, .int .i64 page]) (rs := [.one .b]) (R := R) (by rw [freeholdlaw03_BuddyPlays.vc_eq]; exact hv)
def freeholdlaw03_BuddyNone.hint : Hn := .seq (.reg (.seq [.op, .op])) (.seq (.reg (.seq [.op])) (.seq (.reg (.seq [.op])) (.seq (.reg (.seq [.op])) (.seq (.reg (.seq [.op, .op, .op, .op, .op, .grd true 3 [.op, .op, .op], .op, .grd true 3 [.op, .op, .op], .op, .grd true 2 [.op, .op], .op, .grd true 3 [.op, .op, .op], .op, .grd true 2 [.op, .op], .op, .grd true 5 [.op, .op, .op, .op, .op], .op, .grd true 4 [.op, .op, .op, .op], .op, .grd true 5 [.op, .op, .op, .op, .op], .op, .grd true 4 [.op, .op, .op, .op], .op, .grd true 1 [.op], .op])) (.leaf)))))
def freeholdlaw03_BuddyNone.vc (vx : Int) (vx1 : Int) (vx2 : Int) (order : Int) (σ : Hp) (R : Bool → Hp → Prop) : Prop :=
 Nw (.cells #[.int .i64 vx, .int .i64 vx1, .int .i64 vx2] 44 (0, 0)) σ fun n2 v =>
 Nw (.cells #[.int .i64 0, .slice none 0 0] 52 (0, 0)) v fun n6 v1 =>
 LdI .i64 (n2.add 0) v1 fun t10 =>
 LdI .i64 (n2.add 1) v1 fun t101 =>
 LdI .i64 (n2.add 2) v1 fun t102 =>
 freeholdlaw03_play.call none none t10 t101 t102 v1 fun t11 v2 =>
 JnB (fun r v3 =>
  JnB (fun r1 v4 =>
   JnB (fun r2 v5 =>
    JnB (fun r3 v6 =>
     JnB (fun r4 v7 =>
      JnB (fun r5 v8 =>
       JnB (fun r6 v9 =>
        JnB (fun r7 v10 =>
         JnB (fun r8 v11 =>
          JnB (fun r9 v12 =>
           R r9 v12) fun J9 =>
          If r8 (freeholdlaw03_alive.call v11 fun t62 v13 =>
           J9 t62 v13)
           (J9 false v11)) fun J8 =>
         If r7 (LdI .i64 (n2.add 1) v10 fun t57 =>
          buddy_Heap_IsFree.call (some n6) t57 v10 fun t58 v14 =>
          J8 (!t58) v14)
          (J8 false v10)) fun J7 =>
        If r6 (LdI .i64 (n2.add 1) v9 fun t51 =>
         buddy_Heap_IsFree.call none t51 v9 fun t52 v15 =>
         J7 (!t52) v15)
         (J7 false v9)) fun J6 =>
       If r5 (buddy_Heap_Blocks.call (some n6) order v8 fun t44 v16 =>
        J6 (((t44.len : Nat) : Int) == 0) v16)
        (J6 false v8)) fun J5 =>
      If r4 (buddy_Heap_Blocks.call none order v7 fun t38 v17 =>
       J5 (((t38.len : Nat) : Int) == 0) v17)
       (J5 false v7)) fun J4 =>
     If r3 (buddy_Heap_Clone.call (some n6) v6 fun t32 v18 =>
      J4 t32.isNone v18)
      (J4 false v6)) fun J3 =>
    If r2 (buddy_Heap_Clone.call none v5 fun t28 v19 =>
     J3 t28.isNone v19)
     (J3 false v5)) fun J2 =>
   If r1 (freeholdlaw03_Same.call (some n6) none v4 fun t24 v20 =>
    J2 t24 v20)
    (J2 false v4)) fun J1 =>
  If r (freeholdlaw03_Same.call none none v3 fun t20 v21 =>
   J1 t20 v21)
   (J1 false v3)) fun J =>
 If t11 (LdI .i64 (n2.add 0) v2 fun t14 =>
  LdI .i64 (n2.add 1) v2 fun t141 =>
  LdI .i64 (n2.add 2) v2 fun t142 =>
  freeholdlaw03_play.call (some n6) none t14 t141 t142 v2 fun t15 v22 =>
  J t15 v22)
  (J false v2)
set_option maxRecDepth 100000 in
theorem freeholdlaw03_BuddyNone.vc_eq (vx : Int) (vx1 : Int) (vx2 : Int) (order : Int) (σ : Hp) (R : Bool → Hp → Prop) : fnK Try.prog Try.f7 freeholdlaw03_BuddyNone.hint [.agg #[.int .i64 vx, .int .i64 vx1, .int .i64 vx2], .int .i64 order] [.one .b] R σ = freeholdlaw03_BuddyNone.vc vx vx1 vx2 order σ R := by kernel_rfl
theorem freeholdlaw03_BuddyNone.of_vc {vx : Int} {vx1 : Int} {vx2 : Int} {order : Int} {σ : Hp} {R : Bool → Hp → Prop} (hv : freeholdlaw03_BuddyNone.vc vx vx1 vx2 order σ R) : freeholdlaw03_BuddyNone.call vx vx1 vx2 order σ R :=
  fnK_sound Try.func7 (x := freeholdlaw03_BuddyNone.hint) (args := [.agg #[.int .i64 vx, .int .i64 vx1, .int .i64 vx2], .int .i64 order]) (rs := [.one .b]) (R := R) (by rw [freeholdlaw03_BuddyNone.vc_eq]; exact hv)
def freeholdlaw03_BuddyTakes.hint : Hn := .seq (.reg (.seq [.op])) (.seq (.seq (.reg (.seq [.op, .op])) (.cond (.seq (.reg (.seq [.op, .op])) (.leaf)) (.leaf))) (.seq (.reg (.seq [.op, .op, .op, .op])) (.seq (.seq (.reg (.seq [.op, .op])) (.cond (.seq (.reg (.seq [.op])) (.leaf)) (.leaf))) (.seq (.reg (.seq [.op, .op, .op])) (.seq (.reg (.seq [.op, .op, .op, .op, .op, .op, .op, .op, .op])) (.seq (.seq (.reg (.seq [.op, .op, .op, .grd false 2 [.op, .op], .op, .grd false 3 [.op, .op, .op]])) (.cond (.seq (.reg (.seq [.op, .op, .op, .grd true 2 [.op, .op], .op, .grd true 3 [.op, .op, .op], .op, .grd true 1 [.op], .op])) (.leaf)) (.leaf))) (.seq (.reg (.seq [.op])) (.seq (.block (.loop [(13, .one (.i .i64))] (.seq (.seq (.reg (.seq [.op, .op, .op, .op, .op, .grd false 4 [.op, .op, .op, .op]])) (.cond (.leaf) (.leaf))) (.block (.reg (.seq [.op, .op, .op])))))) (.seq (.reg (.seq [.op])) (.seq (.seq (.reg (.seq [.op, .op])) (.block (.loop [(14, .one (.i .i64)), (15, .one (.i .i64))] (.seq (.seq (.reg (.seq [.op, .op, .op, .grd true 2 [.op, .op]])) (.cond (.leaf) (.leaf))) (.seq (.block (.seq (.reg (.seq [.op, .op, .op, .op])) (.seq (.reg (.seq [.op, .op, .op])) (.cond (.reg (.seq [.op, .op, .op, .op])) (.leaf))))) (.reg (.seq [.op, .op, .op]))))))) (.seq (.seq (.reg (.seq [.op, .op])) (.cond (.seq (.reg (.seq [.op, .op, .op, .grd true 2 [.op, .op], .op, .grd true 3 [.op, .op, .op], .op, .grd true 4 [.op, .op, .op, .op], .op, .grd true 1 [.op], .op])) (.leaf)) (.leaf))) (.seq (.seq (.reg (.seq [.op, .op, .op, .grd false 3 [.op, .op, .op], .op, .grd false 4 [.op, .op, .op, .op], .op, .grd false 5 [.op, .op, .op, .op, .op]])) (.cond (.seq (.reg (.seq [.op])) (.leaf)) (.leaf))) (.seq (.seq (.reg (.seq [.op])) (.block (.loop [(17, .one (.i .i64))] (.seq (.seq (.reg (.seq [.op, .op, .op, .op, .op])) (.cond (.leaf) (.leaf))) (.seq (.block (.seq (.reg (.seq [.op, .op, .op, .op, .grd true 5 [.op, .op, .op, .op, .op], .op])) (.seq (.reg (.seq [.op, .op, .grd true 9 [.op, .op, .op, .op, .op, .grd false 3 [.op, .op, .op]], .op, .grd false 11 [.op, .op, .op, .grd true 7 [.op, .op, .op, .op, .op, .op, .op]]])) (.cond (.seq (.reg (.seq [.op])) (.leaf)) (.leaf))))) (.reg (.seq [.op, .op, .op]))))))) (.seq (.reg (.seq [.op, .op])) (.leaf)))))))))))))))
def freeholdlaw03_BuddyTakes.vc (pages : Int) (l : Sl) (many : Int) (align : Int) (σ : Hp) (R : Bool → Hp → Prop) : Prop :=
 freeholdlaw03_great.call l σ fun t20 v =>
 If t20 (freeholdlaw03_alive.call v fun t21 v1 =>
  R t21 v1)
  (freeholdlaw03_made.call pages l v fun vh v2 =>
  If vh.isNone (R false v2)
   (buddy_Heap_Clone.call vh v2 fun old v3 =>
   buddy_Heap_Take.call vh many align v3 fun t33 t331 v4 =>
   JnB (fun r v5 =>
    JnB (fun r1 v6 =>
     If r1 (JnB (fun r2 v7 =>
       JnB (fun r3 v8 =>
        JnB (fun r4 v9 =>
         R r4 v9) fun J4 =>
        If r3 (freeholdlaw03_alive.call v8 fun t59 v10 =>
         J4 t59 v10)
         (J4 false v8)) fun J3 =>
       If r2 (freeholdlaw03_alike.call vh old v7 fun t56 v11 =>
        J3 t56 v11)
        (J3 false v7)) fun J2 =>
      If (t331 == 1) (J2 (t33 == 0) v6)
       (J2 false v6))
      (LoopK [(.i .i64)] (fun I => I 0 v6) fun J5 (least : Int) v12 =>
      Nn least <| Ar .i64 (1 * 2 ^ (min least.toNat IntKind.i64.bits)) fun t62 =>
      JnB (fun r5 v13 =>
       If r5 (Ar .i64 (least + 1) fun least1 =>
        J5 least1 v13)
        (LoopK [(.i .i64), (.i .i64)] (fun I1 => I1 (-1) least v13) fun J7 (best : Int) (order : Int) v14 =>
        JnB (fun r6 v15 =>
         If r6 (buddy_Heap_Blocks.call old order v15 fun b v16 =>
          If (decide (((b.len : Nat) : Int) > 0)) (Ix b.a b.len 0 1 fun a89 =>
           LdI .i64 a89 v16 fun best1 =>
           Ar .i64 (order + 1) fun order1 =>
           J7 best1 order1 v16)
           (Ar .i64 (order + 1) fun order2 =>
           J7 best order2 v16))
          (If (decide (best < 0)) (JnB (fun r7 v17 =>
            JnB (fun r8 v18 =>
             JnB (fun r9 v19 =>
              JnB (fun r10 v20 =>
               R r10 v20) fun J12 =>
              If r9 (freeholdlaw03_alive.call v19 fun t111 v21 =>
               J12 t111 v21)
               (J12 false v19)) fun J11 =>
             If r8 (buddy_Heap_Order.call old v18 fun t106 v22 =>
              J11 (decide (t106 < least)) v22)
              (J11 false v18)) fun J10 =>
            If r7 (freeholdlaw03_alike.call vh old v17 fun t102 v23 =>
             J10 t102 v23)
             (J10 false v17)) fun J9 =>
           If (t331 == 6) (J9 (t33 == 0) v15)
            (J9 false v15))
           (JnB (fun r11 v24 =>
            JnB (fun r12 v25 =>
             JnB (fun r13 v26 =>
              If r13 (R false v26)
               (LoopK [(.i .i64)] (fun I2 => I2 0 v26) fun J16 (p : Int) v27 =>
               Ar .i64 pages fun t135 =>
               Nz 1024 <|
               If (decide (p ≤ (t135.tmod 1024))) (JnB (fun r14 v28 =>
                 JnB (fun r15 v29 =>
                  JnB (fun r16 v30 =>
                   If r16 (R false v30)
                    (Ar .i64 (p + 1) fun p1 =>
                    J16 p1 v30)) fun J19 =>
                  If r15 (J19 true v29)
                   (JnB (fun r17 v31 =>
                    J19 r17 v31) fun J20 =>
                   If (!r14) (buddy_Heap_IsFree.call old p v29 fun t168 v32 =>
                    buddy_Heap_IsFree.call vh p v32 fun t171 v33 =>
                    J20 (!(t168 == t171)) v33)
                    (J20 false v29))) fun J18 =>
                 If r14 (buddy_Heap_IsFree.call old p v28 fun t154 v34 =>
                  JnB (fun r18 v35 =>
                   J18 r18 v35) fun J21 =>
                  If (!t154) (J21 true v34)
                   (buddy_Heap_IsFree.call vh p v34 fun t159 v36 =>
                   J21 t159 v36))
                  (J18 false v28)) fun J17 =>
                If (decide (p ≥ t33)) (Ar .i64 (t33 + many) fun t147 =>
                 J17 (decide (p < t147)) v27)
                 (J17 false v27))
                (freeholdlaw03_alive.call v27 fun t175 v37 =>
                R t175 v37))) fun J15 =>
             If r12 (J15 true v25)
              (Nn least <| Ar .i64 (1 * 2 ^ (min least.toNat IntKind.i64.bits)) fun t129 =>
              Nz t129 <|
              J15 ((t33.tmod t129) != 0) v25)) fun J14 =>
            If r11 (J14 true v24)
             (Nz align <|
             J14 ((t33.tmod align) != 0) v24)) fun J13 =>
           If (t331 != 0) (J13 true v15)
            (J13 (t33 != best) v15)))) fun J8 =>
        If (decide (order ≤ 10)) (J8 (decide (best < 0)) v14)
         (J8 false v14))) fun J6 =>
      If (decide (t62 < many)) (J6 true v12)
       (Nn least <| Ar .i64 (1 * 2 ^ (min least.toNat IntKind.i64.bits)) fun t67 =>
       J6 (decide (t67 < align)) v12))) fun J1 =>
    If r (J1 true v5)
     (freeholdref01_Power.call align 1024 v5 fun t44 v38 =>
     J1 (!t44) v38)) fun J =>
   If (decide (many < 1)) (J true v4)
    (J (decide (many > 1024)) v4)))
set_option maxRecDepth 100000 in
theorem freeholdlaw03_BuddyTakes.vc_eq (pages : Int) (l : Sl) (many : Int) (align : Int) (σ : Hp) (R : Bool → Hp → Prop) : fnK Try.prog Try.f8 freeholdlaw03_BuddyTakes.hint [.int .u16 pages, .slice l.a l.len l.cap, .int .i64 many, .int .i64 align] [.one .b] R σ = freeholdlaw03_BuddyTakes.vc pages l many align σ R := by kernel_rfl
theorem freeholdlaw03_BuddyTakes.of_vc {pages : Int} {l : Sl} {many : Int} {align : Int} {σ : Hp} {R : Bool → Hp → Prop} (hv : freeholdlaw03_BuddyTakes.vc pages l many align σ R) : freeholdlaw03_BuddyTakes.call pages l many align σ R :=
  fnK_sound Try.func8 (x := freeholdlaw03_BuddyTakes.hint) (args := [.int .u16 pages, .slice l.a l.len l.cap, .int .i64 many, .int .i64 align]) (rs := [.one .b]) (R := R) (by rw [freeholdlaw03_BuddyTakes.vc_eq]; exact hv)
def freeholdlaw03_BuddyBack.hint : Hn := .seq (.reg (.seq [.op])) (.seq (.seq (.reg (.seq [.op, .op])) (.cond (.seq (.reg (.seq [.op, .op])) (.leaf)) (.leaf))) (.seq (.reg (.seq [.op, .op, .op, .op])) (.seq (.seq (.reg (.seq [.op, .op])) (.cond (.seq (.reg (.seq [.op])) (.leaf)) (.leaf))) (.seq (.reg (.seq [.op, .op, .op])) (.seq (.reg (.seq [.op, .op, .op, .op, .op, .op, .op, .op, .op])) (.seq (.seq (.reg (.seq [.op, .op])) (.cond (.seq (.reg (.seq [.op, .op, .op, .op, .grd true 1 [.op], .op])) (.leaf)) (.leaf))) (.seq (.reg (.seq [.op, .op, .op, .op, .op, .op, .op, .op, .grd true 5 [.op, .op, .op, .op, .op], .op, .grd true 3 [.op, .op, .op], .op, .grd true 1 [.op], .op])) (.leaf))))))))
def freeholdlaw03_BuddyBack.vc (pages : Int) (l : Sl) (many : Int) (align : Int) (σ : Hp) (R : Bool → Hp → Prop) : Prop :=
 freeholdlaw03_great.call l σ fun t14 v =>
 If t14 (freeholdlaw03_alive.call v fun t15 v1 =>
  R t15 v1)
  (freeholdlaw03_made.call pages l v fun vh v2 =>
  If vh.isNone (R false v2)
   (buddy_Heap_Clone.call vh v2 fun old v3 =>
   buddy_Heap_Take.call vh many align v3 fun t27 t271 v4 =>
   If (t271 != 0) (freeholdlaw03_alike.call vh old v4 fun t34 v5 =>
    JnB (fun r v6 =>
     R r v6) fun J =>
    If t34 (freeholdlaw03_alive.call v5 fun t36 v7 =>
     J t36 v7)
     (J false v5))
    (buddy_Heap_Free.call vh v4 fun t39 v8 =>
    buddy_Heap_Free.call old v8 fun t41 v9 =>
    Ar .i64 (t41 - many) fun t43 =>
    JnB (fun r1 v10 =>
     JnB (fun r2 v11 =>
      JnB (fun r3 v12 =>
       R r3 v12) fun J3 =>
      If r2 (freeholdlaw03_alive.call v11 fun t58 v13 =>
       J3 t58 v13)
       (J3 false v11)) fun J2 =>
     If r1 (freeholdlaw03_alike.call vh old v10 fun t55 v14 =>
      J2 t55 v14)
      (J2 false v10)) fun J1 =>
    If (t39 == t43) (buddy_Heap_Give.call vh t27 many v9 fun t49 v15 =>
     J1 (t49 == 0) v15)
     (J1 false v9))))
set_option maxRecDepth 100000 in
theorem freeholdlaw03_BuddyBack.vc_eq (pages : Int) (l : Sl) (many : Int) (align : Int) (σ : Hp) (R : Bool → Hp → Prop) : fnK Try.prog Try.f9 freeholdlaw03_BuddyBack.hint [.int .u16 pages, .slice l.a l.len l.cap, .int .i64 many, .int .i64 align] [.one .b] R σ = freeholdlaw03_BuddyBack.vc pages l many align σ R := by kernel_rfl
theorem freeholdlaw03_BuddyBack.of_vc {pages : Int} {l : Sl} {many : Int} {align : Int} {σ : Hp} {R : Bool → Hp → Prop} (hv : freeholdlaw03_BuddyBack.vc pages l many align σ R) : freeholdlaw03_BuddyBack.call pages l many align σ R :=
  fnK_sound Try.func9 (x := freeholdlaw03_BuddyBack.hint) (args := [.int .u16 pages, .slice l.a l.len l.cap, .int .i64 many, .int .i64 align]) (rs := [.one .b]) (R := R) (by rw [freeholdlaw03_BuddyBack.vc_eq]; exact hv)
def freeholdlaw03_BuddyRefuses.hint : Hn := .seq (.reg (.seq [.op, .op])) (.seq (.seq (.reg (.seq [.op, .op])) (.cond (.seq (.reg (.seq [.op, .op])) (.leaf)) (.leaf))) (.seq (.reg (.seq [.op, .op, .op, .op])) (.seq (.seq (.reg (.seq [.op, .op])) (.cond (.seq (.reg (.seq [.op])) (.leaf)) (.leaf))) (.seq (.reg (.seq [.op, .op, .op])) (.seq (.reg (.seq [.op, .op, .op, .op])) (.seq (.reg (.seq [.op, .op, .op, .grd false 3 [.op, .op, .op], .op, .grd true 1 [.op], .op])) (.leaf)))))))
def freeholdlaw03_BuddyRefuses.vc (pages : Int) (l : Sl) (vx : Int) (vx1 : Int) (vx2 : Int) (σ : Hp) (R : Bool → Hp → Prop) : Prop :=
 Nw (.cells #[.int .i64 vx, .int .i64 vx1, .int .i64 vx2] 44 (0, 0)) σ fun n5 v =>
 freeholdlaw03_great.call l v fun t11 v1 =>
 If t11 (freeholdlaw03_alive.call v1 fun t12 v2 =>
  R t12 v2)
  (freeholdlaw03_made.call pages l v1 fun vh v3 =>
  If vh.isNone (R false v3)
   (buddy_Heap_Clone.call vh v3 fun old v4 =>
   LdI .i64 (n5.add 0) v4 fun t21 =>
   LdI .i64 (n5.add 1) v4 fun t211 =>
   LdI .i64 (n5.add 2) v4 fun t212 =>
   freeholdlaw03_do.call vh t21 t211 t212 v4 fun ve v5 =>
   JnB (fun r v6 =>
    JnB (fun r1 v7 =>
     R r1 v7) fun J1 =>
    If r (freeholdlaw03_alive.call v6 fun t31 v8 =>
     J1 t31 v8)
     (J1 false v6)) fun J =>
   If (ve == 0) (J true v5)
    (freeholdlaw03_alike.call vh old v5 fun t28 v9 =>
    J t28 v9)))
set_option maxRecDepth 100000 in
theorem freeholdlaw03_BuddyRefuses.vc_eq (pages : Int) (l : Sl) (vx : Int) (vx1 : Int) (vx2 : Int) (σ : Hp) (R : Bool → Hp → Prop) : fnK Try.prog Try.f10 freeholdlaw03_BuddyRefuses.hint [.int .u16 pages, .slice l.a l.len l.cap, .agg #[.int .i64 vx, .int .i64 vx1, .int .i64 vx2]] [.one .b] R σ = freeholdlaw03_BuddyRefuses.vc pages l vx vx1 vx2 σ R := by kernel_rfl
theorem freeholdlaw03_BuddyRefuses.of_vc {pages : Int} {l : Sl} {vx : Int} {vx1 : Int} {vx2 : Int} {σ : Hp} {R : Bool → Hp → Prop} (hv : freeholdlaw03_BuddyRefuses.vc pages l vx vx1 vx2 σ R) : freeholdlaw03_BuddyRefuses.call pages l vx vx1 vx2 σ R :=
  fnK_sound Try.func10 (x := freeholdlaw03_BuddyRefuses.hint) (args := [.int .u16 pages, .slice l.a l.len l.cap, .agg #[.int .i64 vx, .int .i64 vx1, .int .i64 vx2]]) (rs := [.one .b]) (R := R) (by rw [freeholdlaw03_BuddyRefuses.vc_eq]; exact hv)
def freeholdlaw03_BuddyClones.hint : Hn := .seq (.reg (.seq [.op])) (.seq (.seq (.reg (.seq [.op, .op, .op, .grd false 2 [.op, .op]])) (.cond (.seq (.reg (.seq [.op, .op])) (.leaf)) (.leaf))) (.seq (.reg (.seq [.op, .op, .op, .op, .op, .op, .op, .op])) (.seq (.seq (.reg (.seq [.op, .op, .op, .grd false 2 [.op, .op]])) (.cond (.seq (.reg (.seq [.op])) (.leaf)) (.leaf))) (.seq (.reg (.seq [.op, .op, .op])) (.seq (.seq (.reg (.seq [.op, .op])) (.cond (.seq (.reg (.seq [.op])) (.leaf)) (.leaf))) (.seq (.seq (.reg (.seq [.op])) (.block (.loop [(12, .one (.i .i64))] (.seq (.seq (.reg (.seq [.op, .op, .op, .op])) (.cond (.leaf) (.leaf))) (.seq (.block (.seq (.reg (.seq [.op])) (.cond (.reg (.seq [.op, .op, .op, .op, .op, .op])) (.reg (.seq [.op, .op, .op, .op, .op, .op]))))) (.reg (.seq [.op, .op, .op]))))))) (.seq (.seq (.reg (.seq [.op])) (.cond (.seq (.reg (.seq [.op, .op, .op, .op, .grd true 1 [.op], .op])) (.leaf)) (.leaf))) (.seq (.reg (.seq [.op, .op, .op, .op, .grd true 1 [.op], .op])) (.leaf)))))))))
def freeholdlaw03_BuddyClones.vc (pages : Int) (l : Sl) (more : Sl) (side : Bool) (σ : Hp) (R : Bool → Hp → Prop) : Prop :=
 freeholdlaw03_great.call l σ fun t14 v =>
 JnB (fun r v1 =>
  If r (freeholdlaw03_alive.call v1 fun t19 v2 =>
   R t19 v2)
   (freeholdlaw03_made.call pages l v1 fun a v3 =>
   freeholdlaw03_made.call pages l v3 fun u v4 =>
   JnB (fun r1 v5 =>
    If r1 (R false v5)
     (buddy_Heap_Clone.call a v5 fun b v6 =>
     If b.isNone (R false v6)
      (LoopK [(.i .i64)] (fun I => I 0 v6) fun J2 (i : Int) v7 =>
      If (decide (i < ((more.len : Nat) : Int))) (If side (Ix more.a more.len i 3 fun a46 =>
        LdI .i64 (a46.add 0) v7 fun t47 =>
        LdI .i64 (a46.add 1) v7 fun t471 =>
        LdI .i64 (a46.add 2) v7 fun t472 =>
        freeholdlaw03_do.call a t47 t471 t472 v7 fun t48 v8 =>
        Ar .i64 (i + 1) fun i1 =>
        J2 i1 v8)
        (Ix more.a more.len i 3 fun a52 =>
        LdI .i64 (a52.add 0) v7 fun t53 =>
        LdI .i64 (a52.add 1) v7 fun t531 =>
        LdI .i64 (a52.add 2) v7 fun t532 =>
        freeholdlaw03_do.call b t53 t531 t532 v7 fun t54 v9 =>
        Ar .i64 (i + 1) fun i2 =>
        J2 i2 v9))
       (If side (freeholdlaw03_alike.call b u v7 fun t58 v10 =>
        JnB (fun r2 v11 =>
         R r2 v11) fun J3 =>
        If t58 (freeholdlaw03_alive.call v10 fun t60 v12 =>
         J3 t60 v12)
         (J3 false v10))
        (freeholdlaw03_alike.call a u v7 fun t64 v13 =>
        JnB (fun r3 v14 =>
         R r3 v14) fun J4 =>
        If t64 (freeholdlaw03_alive.call v13 fun t66 v15 =>
         J4 t66 v15)
         (J4 false v13)))))) fun J1 =>
   If a.isNone (J1 true v4)
    (J1 u.isNone v4))) fun J =>
 If t14 (J true v)
  (freeholdlaw03_great.call more v fun t17 v16 =>
  J t17 v16)
set_option maxRecDepth 100000 in
theorem freeholdlaw03_BuddyClones.vc_eq (pages : Int) (l : Sl) (more : Sl) (side : Bool) (σ : Hp) (R : Bool → Hp → Prop) : fnK Try.prog Try.f11 freeholdlaw03_BuddyClones.hint [.int .u16 pages, .slice l.a l.len l.cap, .slice more.a more.len more.cap, .bool side] [.one .b] R σ = freeholdlaw03_BuddyClones.vc pages l more side σ R := by kernel_rfl
theorem freeholdlaw03_BuddyClones.of_vc {pages : Int} {l : Sl} {more : Sl} {side : Bool} {σ : Hp} {R : Bool → Hp → Prop} (hv : freeholdlaw03_BuddyClones.vc pages l more side σ R) : freeholdlaw03_BuddyClones.call pages l more side σ R :=
  fnK_sound Try.func11 (x := freeholdlaw03_BuddyClones.hint) (args := [.int .u16 pages, .slice l.a l.len l.cap, .slice more.a more.len more.cap, .bool side]) (rs := [.one .b]) (R := R) (by rw [freeholdlaw03_BuddyClones.vc_eq]; exact hv)
def freeholdlaw03_great.hint : Hn := .seq (.reg (.seq [.op])) (.seq (.reg (.seq [.op, .op, .op, .op])) (.leaf))
def freeholdlaw03_great.vc (l : Sl) (σ : Hp) (R : Bool → Hp → Prop) : Prop :=
 R (decide (((l.len : Nat) : Int) > 40)) σ
set_option maxRecDepth 100000 in
theorem freeholdlaw03_great.vc_eq (l : Sl) (σ : Hp) (R : Bool → Hp → Prop) : fnK Try.prog Try.f12 freeholdlaw03_great.hint [.slice l.a l.len l.cap] [.one .b] R σ = freeholdlaw03_great.vc l σ R := by kernel_rfl
theorem freeholdlaw03_great.of_vc {l : Sl} {σ : Hp} {R : Bool → Hp → Prop} (hv : freeholdlaw03_great.vc l σ R) : freeholdlaw03_great.call l σ R :=
  fnK_sound Try.func12 (x := freeholdlaw03_great.hint) (args := [.slice l.a l.len l.cap]) (rs := [.one .b]) (R := R) (by rw [freeholdlaw03_great.vc_eq]; exact hv)
def freeholdlaw03_alive.hint : Hn := .seq (.reg (.seq [.op])) (.seq (.reg (.seq [.op, .op, .op, .op, .op, .op])) (.seq (.seq (.reg (.seq [.op, .op, .op, .grd false 2 [.op, .op]])) (.cond (.seq (.reg (.seq [.op])) (.leaf)) (.leaf))) (.seq (.reg (.seq [.op, .op, .op])) (.seq (.reg (.seq [.op, .op, .op])) (.seq (.reg (.seq [.op, .op, .op, .op, .op, .op, .op])) (.seq (.reg (.seq [.op, .op, .op, .op, .op, .op, .op, .op, .op])) (.seq (.reg (.seq [.op, .op, .op, .op, .op, .op, .op])) (.seq (.reg (.seq [.op, .op, .op, .op, .op, .op, .op])) (.seq (.reg (.seq [.op, .op, .op])) (.seq (.reg (.seq [.op, .op, .op, .grd true 3 [.op, .op, .op], .op, .grd true 2 [.op, .op], .op, .grd true 2 [.op, .op], .op, .grd true 3 [.op, .op, .op], .op, .grd true 3 [.op, .op, .op], .op, .grd true 3 [.op, .op, .op], .op, .grd true 2 [.op, .op], .op, .grd true 2 [.op, .op], .op, .grd true 2 [.op, .op], .op, .grd true 2 [.op, .op], .op, .grd true 2 [.op, .op], .op, .grd true 3 [.op, .op, .op], .op])) (.leaf)))))))))))
def freeholdlaw03_alive.vc (σ : Hp) (R : Bool → Hp → Prop) : Prop :=
 buddy_New.call 16 σ fun t16 t161 v =>
 JnB (fun r v1 =>
  If r (R false v1)
   (buddy_Heap_Give.call t16 0 16 v1 fun a v2 =>
   buddy_Heap_Blocks.call t16 4 v2 fun l v3 =>
   buddy_Heap_Take.call t16 3 1 v3 fun t31 t311 v4 =>
   buddy_Heap_Blocks.call t16 0 v4 fun m v5 =>
   buddy_Heap_Blocks.call t16 2 v5 fun n v6 =>
   buddy_Heap_Blocks.call t16 3 v6 fun k v7 =>
   buddy_Heap_Take.call t16 2 4 v7 fun t42 t421 v8 =>
   buddy_Heap_Take.call t16 1 1 v8 fun t47 t471 v9 =>
   buddy_Heap_Give.call t16 4 2 v9 fun j v10 =>
   JnB (fun r1 v11 =>
    JnB (fun r2 v12 =>
     JnB (fun r3 v13 =>
      JnB (fun r4 v14 =>
       JnB (fun r5 v15 =>
        JnB (fun r6 v16 =>
         JnB (fun r7 v17 =>
          JnB (fun r8 v18 =>
           JnB (fun r9 v19 =>
            JnB (fun r10 v20 =>
             JnB (fun r11 v21 =>
              JnB (fun r12 v22 =>
               R r12 v22) fun J12 =>
              If r11 (buddy_Heap_Give.call t16 4 1 v21 fun t104 v23 =>
               J12 (t104 == 9) v23)
               (J12 false v21)) fun J11 =>
             If r10 (J11 (j == 0) v20)
              (J11 false v20)) fun J10 =>
            If r9 (J10 (t471 == 0) v19)
             (J10 false v19)) fun J9 =>
           If r8 (J9 (t47 == 3) v18)
            (J9 false v18)) fun J8 =>
          If r7 (J8 (t421 == 0) v17)
           (J8 false v17)) fun J7 =>
         If r6 (J7 (t42 == 4) v16)
          (J7 false v16)) fun J6 =>
        If r5 (Nw (.cells #[.int .i64 8] 3 (0, 0)) v15 fun n79 v24 =>
         freeholdref01_Ints.call k ⟨(some n79), 1, 1⟩ v24 fun t80 v25 =>
         J6 t80 v25)
         (J6 false v15)) fun J5 =>
       If r4 (Nw (.cells #[.int .i64 4] 3 (0, 0)) v14 fun n74 v26 =>
        freeholdref01_Ints.call n ⟨(some n74), 1, 1⟩ v26 fun t75 v27 =>
        J5 t75 v27)
        (J5 false v14)) fun J4 =>
      If r3 (Nw (.cells #[.int .i64 3] 3 (0, 0)) v13 fun n69 v28 =>
       freeholdref01_Ints.call m ⟨(some n69), 1, 1⟩ v28 fun t70 v29 =>
       J4 t70 v29)
       (J4 false v13)) fun J3 =>
     If r2 (J3 (t311 == 0) v12)
      (J3 false v12)) fun J2 =>
    If r1 (J2 (t31 == 0) v11)
     (J2 false v11)) fun J1 =>
   If (a == 0) (Nw (.cells #[.int .i64 0] 3 (0, 0)) v10 fun n56 v30 =>
    freeholdref01_Ints.call l ⟨(some n56), 1, 1⟩ v30 fun t57 v31 =>
    J1 t57 v31)
    (J1 false v10))) fun J =>
 If (t161 != 0) (J true v)
  (J t16.isNone v)
set_option maxRecDepth 100000 in
theorem freeholdlaw03_alive.vc_eq (σ : Hp) (R : Bool → Hp → Prop) : fnK Try.prog Try.f13 freeholdlaw03_alive.hint [] [.one .b] R σ = freeholdlaw03_alive.vc σ R := by kernel_rfl
theorem freeholdlaw03_alive.of_vc {σ : Hp} {R : Bool → Hp → Prop} (hv : freeholdlaw03_alive.vc σ R) : freeholdlaw03_alive.call σ R :=
  fnK_sound Try.func13 (x := freeholdlaw03_alive.hint) (args := []) (rs := [.one .b]) (R := R) (by rw [freeholdlaw03_alive.vc_eq]; exact hv)
def freeholdlaw03_made.hint : Hn := .seq (.reg (.seq [.op])) (.seq (.reg (.seq [.op, .op, .op, .op, .op, .op, .op, .op, .op, .op])) (.seq (.seq (.reg (.seq [.op, .op])) (.cond (.seq (.reg (.seq [.op])) (.leaf)) (.leaf))) (.seq (.seq (.reg (.seq [.op])) (.block (.loop [(7, .one (.i .i64))] (.seq (.seq (.reg (.seq [.op, .op, .op, .op])) (.cond (.leaf) (.leaf))) (.seq (.block (.reg (.seq [.op, .op, .op, .op, .op, .op]))) (.reg (.seq [.op, .op, .op]))))))) (.seq (.reg (.seq [.op, .op])) (.leaf)))))
def freeholdlaw03_made.vc (pages : Int) (l : Sl) (σ : Hp) (R : Option Addr → Hp → Prop) : Prop :=
 Ar .i64 pages fun t10 =>
 Nz 1024 <|
 Ar .i64 ((t10.tmod 1024) + 1) fun t12 =>
 buddy_New.call t12 σ fun t13 t131 v =>
 If (t131 != 0) (R none v)
  (LoopK [(.i .i64)] (fun I => I 0 v) fun J (i : Int) v1 =>
  If (decide (i < ((l.len : Nat) : Int))) (Ix l.a l.len i 3 fun a27 =>
   LdI .i64 (a27.add 0) v1 fun t28 =>
   LdI .i64 (a27.add 1) v1 fun t281 =>
   LdI .i64 (a27.add 2) v1 fun t282 =>
   freeholdlaw03_do.call t13 t28 t281 t282 v1 fun t29 v2 =>
   Ar .i64 (i + 1) fun i1 =>
   J i1 v2)
   (R t13 v1))
set_option maxRecDepth 100000 in
theorem freeholdlaw03_made.vc_eq (pages : Int) (l : Sl) (σ : Hp) (R : Option Addr → Hp → Prop) : fnK Try.prog Try.f14 freeholdlaw03_made.hint [.int .u16 pages, .slice l.a l.len l.cap] [.one .p] R σ = freeholdlaw03_made.vc pages l σ R := by kernel_rfl
theorem freeholdlaw03_made.of_vc {pages : Int} {l : Sl} {σ : Hp} {R : Option Addr → Hp → Prop} (hv : freeholdlaw03_made.vc pages l σ R) : freeholdlaw03_made.call pages l σ R :=
  fnK_sound Try.func14 (x := freeholdlaw03_made.hint) (args := [.int .u16 pages, .slice l.a l.len l.cap]) (rs := [.one .p]) (R := R) (by rw [freeholdlaw03_made.vc_eq]; exact hv)
def buddy_Heap_Blocks.hint : Hn := .seq (.reg (.seq [.op])) (.seq (.seq (.reg (.seq [.op, .op, .op, .op, .grd false 2 [.op, .op], .op, .grd false 7 [.op, .op, .op, .op, .op, .op, .op]])) (.cond (.seq (.reg (.seq [.op])) (.leaf)) (.leaf))) (.seq (.reg (.seq [.op, .op, .op, .op, .op, .op, .op, .op, .op, .op])) (.leaf)))
def buddy_Heap_Blocks.vc (vh : Option Addr) (order : Int) (σ : Hp) (R : Sl → Hp → Prop) : Prop :=
 buddy_Heap_made.call vh σ fun t6 v =>
 JnB (fun r v1 =>
  JnB (fun r1 v2 =>
   If r1 (R ⟨none, 0, 0⟩ v2)
    (NilP vh fun a22 =>
    LdS (a22.add 1) v2 fun t24 =>
    Ix t24.a t24.len order 1 fun a26 =>
    LdM a26 v2 fun t27 =>
    maps_Keys_map_int_bool_int_bool.call t27 v2 fun t28 v3 =>
    slices_Sorted_int.call t28 v3 fun t29 v4 =>
    R t29 v4)) fun J1 =>
  If r (J1 true v1)
   (NilP vh fun a15 =>
   LdS (a15.add 1) v1 fun t17 =>
   J1 (decide (order ≥ ((t17.len : Nat) : Int))) v1)) fun J =>
 If (!t6) (J true v)
  (J (decide (order < 0)) v)
set_option maxRecDepth 100000 in
theorem buddy_Heap_Blocks.vc_eq (vh : Option Addr) (order : Int) (σ : Hp) (R : Sl → Hp → Prop) : fnK Try.prog Try.f15 buddy_Heap_Blocks.hint [.pointer vh, .int .i64 order] [.one .s] R σ = buddy_Heap_Blocks.vc vh order σ R := by kernel_rfl
theorem buddy_Heap_Blocks.of_vc {vh : Option Addr} {order : Int} {σ : Hp} {R : Sl → Hp → Prop} (hv : buddy_Heap_Blocks.vc vh order σ R) : buddy_Heap_Blocks.call vh order σ R :=
  fnK_sound Try.func15 (x := buddy_Heap_Blocks.hint) (args := [.pointer vh, .int .i64 order]) (rs := [.one .s]) (R := R) (by rw [buddy_Heap_Blocks.vc_eq]; exact hv)
def buddy_Heap_Free.hint : Hn := .seq (.reg (.seq [.op])) (.seq (.seq (.reg (.seq [.op, .op, .op])) (.cond (.seq (.reg (.seq [.op])) (.leaf)) (.leaf))) (.seq (.reg (.seq [.op])) (.seq (.seq (.reg (.seq [.op, .op, .op, .op, .op, .op])) (.block (.loop [(3, .one (.i .i64)), (14, .one (.i .i64))] (.seq (.reg (.seq [.op])) (.seq (.cond (.leaf) (.leaf)) (.seq (.block (.seq (.reg (.seq [.op, .op, .op, .op, .op])) (.reg (.seq [.op, .op, .op, .op, .op, .op, .op])))) (.reg (.seq [.op, .op])))))))) (.seq (.reg (.seq [.op, .op])) (.leaf)))))
def buddy_Heap_Free.vc (vh : Option Addr) (σ : Hp) (R : Int → Hp → Prop) : Prop :=
 buddy_Heap_made.call vh σ fun t7 v =>
 If (!t7) (R 0 v)
  (NilP vh fun a10 =>
  LdS (a10.add 1) v fun t12 =>
  LoopK [(.i .i64), (.i .i64)] (fun I => I 0 0 v) fun J (n : Int) (t14 : Int) v1 =>
  If (decide (t14 < ((t12.len : Nat) : Int))) (Ix t12.a t12.len t14 1 fun a17 =>
   LdM a17 v1 fun l =>
   MLen .i64 .b l v1 fun t21 =>
   Nn t14 <| Ar .i64 (t21 * 2 ^ (min t14.toNat IntKind.i64.bits)) fun t23 =>
   Ar .i64 (n + t23) fun n1 =>
   Ar .i64 (t14 + 1) fun t25 =>
   J n1 t25 v1)
   (R n v1))
set_option maxRecDepth 100000 in
theorem buddy_Heap_Free.vc_eq (vh : Option Addr) (σ : Hp) (R : Int → Hp → Prop) : fnK Try.prog Try.f16 buddy_Heap_Free.hint [.pointer vh] [.one (.i .i64)] R σ = buddy_Heap_Free.vc vh σ R := by kernel_rfl
theorem buddy_Heap_Free.of_vc {vh : Option Addr} {σ : Hp} {R : Int → Hp → Prop} (hv : buddy_Heap_Free.vc vh σ R) : buddy_Heap_Free.call vh σ R :=
  fnK_sound Try.func16 (x := buddy_Heap_Free.hint) (args := [.pointer vh]) (rs := [.one (.i .i64)]) (R := R) (by rw [buddy_Heap_Free.vc_eq]; exact hv)
def buddy_Heap_IsFree.hint : Hn := .seq (.reg (.seq [.op])) (.seq (.seq (.reg (.seq [.op, .op, .op, .op, .grd false 2 [.op, .op], .op, .grd false 6 [.op, .op, .op, .op, .op, .op]])) (.cond (.seq (.reg (.seq [.op])) (.leaf)) (.leaf))) (.seq (.reg (.seq [.op, .op, .op, .op, .op, .op, .op, .op, .op, .op])) (.seq (.reg (.seq [.op, .op])) (.leaf))))
def buddy_Heap_IsFree.vc (vh : Option Addr) (page : Int) (σ : Hp) (R : Bool → Hp → Prop) : Prop :=
 buddy_Heap_made.call vh σ fun t9 v =>
 JnB (fun r v1 =>
  JnB (fun r1 v2 =>
   If r1 (R false v2)
    (buddy_Heap_covered.call vh page v2 fun t26 t261 t262 v3 =>
    R t262 v3)) fun J1 =>
  If r (J1 true v1)
   (NilP vh fun a18 =>
   LdI .i64 (a18.add 0) v1 fun t20 =>
   J1 (decide (page ≥ t20)) v1)) fun J =>
 If (!t9) (J true v)
  (J (decide (page < 0)) v)
set_option maxRecDepth 100000 in
theorem buddy_Heap_IsFree.vc_eq (vh : Option Addr) (page : Int) (σ : Hp) (R : Bool → Hp → Prop) : fnK Try.prog Try.f17 buddy_Heap_IsFree.hint [.pointer vh, .int .i64 page] [.one .b] R σ = buddy_Heap_IsFree.vc vh page σ R := by kernel_rfl
theorem buddy_Heap_IsFree.of_vc {vh : Option Addr} {page : Int} {σ : Hp} {R : Bool → Hp → Prop} (hv : buddy_Heap_IsFree.vc vh page σ R) : buddy_Heap_IsFree.call vh page σ R :=
  fnK_sound Try.func17 (x := buddy_Heap_IsFree.hint) (args := [.pointer vh, .int .i64 page]) (rs := [.one .b]) (R := R) (by rw [buddy_Heap_IsFree.vc_eq]; exact hv)
def buddy_Heap_Give.hint : Hn := .seq (.reg (.seq [.op])) (.seq (.seq (.reg (.seq [.op, .op, .op, .op, .op])) (.seq (.reg (.seq [.op, .op])) (.cond (.seq (.reg (.seq [.op, .op])) (.leaf)) (.leaf)))) (.seq (.seq (.reg (.seq [.op, .op])) (.block (.loop [(8, .one (.i .i64))] (.seq (.seq (.reg (.seq [.op, .op, .op, .op, .op])) (.cond (.leaf) (.leaf))) (.seq (.block (.seq (.reg (.seq [.op, .op, .op])) (.cond (.seq (.reg (.seq [.op])) (.leaf)) (.leaf)))) (.reg (.seq [.op, .op, .op]))))))) (.seq (.reg (.seq [.op, .op, .op, .op])) (.seq (.reg (.seq [.op])) (.leaf)))))
def buddy_Heap_Give.vc (vh : Option Addr) (start : Int) (pages : Int) (σ : Hp) (R : Int → Hp → Prop) : Prop :=
 buddy_Heap_check.call vh start pages σ fun ve v =>
 If (ve != 0) (R ve v)
  (LoopK [(.i .i64)] (fun I => I start v) fun J (p : Int) v1 =>
  Ar .i64 (start + pages) fun t20 =>
  If (decide (p < t20)) (buddy_Heap_IsFree.call vh p v1 fun t26 v2 =>
   If t26 (R 9 v2)
    (Ar .i64 (p + 1) fun p1 =>
    J p1 v2))
   (buddy_Heap_free.call vh start pages v1 fun v3 =>
   R 0 v3))
set_option maxRecDepth 100000 in
theorem buddy_Heap_Give.vc_eq (vh : Option Addr) (start : Int) (pages : Int) (σ : Hp) (R : Int → Hp → Prop) : fnK Try.prog Try.f18 buddy_Heap_Give.hint [.pointer vh, .int .i64 start, .int .i64 pages] [.one (.i .i64)] R σ = buddy_Heap_Give.vc vh start pages σ R := by kernel_rfl
theorem buddy_Heap_Give.of_vc {vh : Option Addr} {start : Int} {pages : Int} {σ : Hp} {R : Int → Hp → Prop} (hv : buddy_Heap_Give.vc vh start pages σ R) : buddy_Heap_Give.call vh start pages σ R :=
  fnK_sound Try.func18 (x := buddy_Heap_Give.hint) (args := [.pointer vh, .int .i64 start, .int .i64 pages]) (rs := [.one (.i .i64)]) (R := R) (by rw [buddy_Heap_Give.vc_eq]; exact hv)
def freeholdlaw03_alike.hint : Hn := .seq (.reg (.seq [.op])) (.seq (.seq (.reg (.seq [.op])) (.block (.loop [(5, .one (.i .i64))] (.seq (.seq (.reg (.seq [.op, .op])) (.cond (.leaf) (.leaf))) (.seq (.block (.seq (.reg (.seq [.op, .op, .op, .op, .op, .op, .op, .op])) (.cond (.seq (.reg (.seq [.op])) (.leaf)) (.leaf)))) (.reg (.seq [.op, .op, .op]))))))) (.seq (.reg (.seq [.op, .op, .op, .op, .op, .op, .grd true 5 [.op, .op, .op, .op, .op], .op, .grd true 5 [.op, .op, .op, .op, .op], .op])) (.leaf)))
def freeholdlaw03_alike.vc (a : Option Addr) (b : Option Addr) (σ : Hp) (R : Bool → Hp → Prop) : Prop :=
 LoopK [(.i .i64)] (fun I => I 0 σ) fun J (order : Int) v =>
 If (decide (order ≤ 10)) (buddy_Heap_Blocks.call a order v fun t12 v1 =>
  buddy_Heap_Blocks.call b order v1 fun t15 v2 =>
  freeholdref01_Ints.call t12 t15 v2 fun t16 v3 =>
  If (!t16) (R false v3)
   (Ar .i64 (order + 1) fun order1 =>
   J order1 v3))
  (buddy_Heap_Free.call a v fun t19 v4 =>
  buddy_Heap_Free.call b v4 fun t21 v5 =>
  JnB (fun r v6 =>
   JnB (fun r1 v7 =>
    R r1 v7) fun J2 =>
   If r (buddy_Heap_Runs.call a v6 fun t32 v8 =>
    buddy_Heap_Runs.call b v8 fun t34 v9 =>
    freeholdref01_Runs.call t32 t34 v9 fun t35 v10 =>
    J2 t35 v10)
    (J2 false v6)) fun J1 =>
  If (t19 == t21) (buddy_Heap_Order.call a v5 fun t25 v11 =>
   buddy_Heap_Order.call b v11 fun t27 v12 =>
   J1 (t25 == t27) v12)
   (J1 false v5))
set_option maxRecDepth 100000 in
theorem freeholdlaw03_alike.vc_eq (a : Option Addr) (b : Option Addr) (σ : Hp) (R : Bool → Hp → Prop) : fnK Try.prog Try.f19 freeholdlaw03_alike.hint [.pointer a, .pointer b] [.one .b] R σ = freeholdlaw03_alike.vc a b σ R := by kernel_rfl
theorem freeholdlaw03_alike.of_vc {a : Option Addr} {b : Option Addr} {σ : Hp} {R : Bool → Hp → Prop} (hv : freeholdlaw03_alike.vc a b σ R) : freeholdlaw03_alike.call a b σ R :=
  fnK_sound Try.func19 (x := freeholdlaw03_alike.hint) (args := [.pointer a, .pointer b]) (rs := [.one .b]) (R := R) (by rw [freeholdlaw03_alike.vc_eq]; exact hv)
def buddy_New.hint : Hn := .seq (.reg (.seq [.op, .op])) (.seq (.seq (.reg (.seq [.op, .op, .op, .grd false 2 [.op, .op]])) (.cond (.seq (.reg (.seq [.op, .op])) (.leaf)) (.leaf))) (.seq (.reg (.seq [.op, .op, .op, .op])) (.seq (.seq (.reg (.seq [.op])) (.block (.loop [(5, .one (.i .i64))] (.seq (.seq (.reg (.seq [.op, .op, .op])) (.cond (.leaf) (.leaf))) (.seq (.block (.reg (.seq [.op, .op, .op, .op, .op, .op, .op, .op, .op, .op, .op]))) (.reg (.seq [.op, .op, .op]))))))) (.seq (.reg (.seq [.op, .op, .op])) (.leaf)))))
def buddy_New.vc (pages : Int) (σ : Hp) (R : Option Addr → Int → Hp → Prop) : Prop :=
 JnB (fun r v =>
  If r (R none 1 v)
   (Nw (.cells #[.int .i64 pages, .slice none 0 0] 52 (0, 0)) v fun n14 v1 =>
   LoopK [(.i .i64)] (fun I => I 1 v1) fun J1 (size : Int) v2 =>
   If (decide (size ≤ pages)) (NilP (some n14) fun a22 =>
    LdS (a22.add 1) v2 fun t24 =>
    Nw (.map #[] 0) v2 fun n25 v3 =>
    Nw (.cells #[.map (some n25.block)] 66 (0, 0)) v3 fun n26 v4 =>
    App t24 1 8 66 [.map none] ⟨(some n26), 1, 1⟩ v4 fun t27 v5 =>
    NilP (some n14) fun a28 =>
    St1 (a28.add 1) (.slice t27.a t27.len t27.cap) v5 fun v6 =>
    Ar .i64 (size * 2) fun size1 =>
    J1 size1 v6)
    (R (some n14) 0 v2))) fun J =>
 If (decide (pages < 1)) (J true σ)
  (J (decide (pages > 1024)) σ)
set_option maxRecDepth 100000 in
theorem buddy_New.vc_eq (pages : Int) (σ : Hp) (R : Option Addr → Int → Hp → Prop) : fnK Try.prog Try.f20 buddy_New.hint [.int .i64 pages] [.one .p, .one (.i .i64)] R σ = buddy_New.vc pages σ R := by kernel_rfl
theorem buddy_New.of_vc {pages : Int} {σ : Hp} {R : Option Addr → Int → Hp → Prop} (hv : buddy_New.vc pages σ R) : buddy_New.call pages σ R :=
  fnK_sound Try.func20 (x := buddy_New.hint) (args := [.int .i64 pages]) (rs := [.one .p, .one (.i .i64)]) (R := R) (by rw [buddy_New.vc_eq]; exact hv)
def freeholdref03_New.hint : Hn := .seq (.reg (.seq [.op, .op])) (.seq (.seq (.reg (.seq [.op, .op, .op, .grd false 2 [.op, .op]])) (.cond (.seq (.reg (.seq [.op, .op])) (.leaf)) (.leaf))) (.seq (.reg (.seq [.op, .op, .op, .op, .op, .op])) (.leaf)))
def freeholdref03_New.vc (pages : Int) (σ : Hp) (R : Option Addr → Int → Hp → Prop) : Prop :=
 JnB (fun r v =>
  If r (R none 1 v)
   (Mk pages pages 1 4 [.bool false] v fun t11 v1 =>
   Nw (.cells #[.slice t11.a t11.len t11.cap] 75 (0, 0)) v1 fun n13 v2 =>
   R (some n13) 0 v2)) fun J =>
 If (decide (pages < 1)) (J true σ)
  (J (decide (pages > 1024)) σ)
set_option maxRecDepth 100000 in
theorem freeholdref03_New.vc_eq (pages : Int) (σ : Hp) (R : Option Addr → Int → Hp → Prop) : fnK Try.prog Try.f21 freeholdref03_New.hint [.int .i64 pages] [.one .p, .one (.i .i64)] R σ = freeholdref03_New.vc pages σ R := by kernel_rfl
theorem freeholdref03_New.of_vc {pages : Int} {σ : Hp} {R : Option Addr → Int → Hp → Prop} (hv : freeholdref03_New.vc pages σ R) : freeholdref03_New.call pages σ R :=
  fnK_sound Try.func21 (x := freeholdref03_New.hint) (args := [.int .i64 pages]) (rs := [.one .p, .one (.i .i64)]) (R := R) (by rw [freeholdref03_New.vc_eq]; exact hv)
def buddy_Heap_Clone.hint : Hn := .seq (.reg (.seq [.op])) (.seq (.seq (.reg (.seq [.op, .op, .op])) (.cond (.seq (.reg (.seq [.op])) (.leaf)) (.leaf))) (.seq (.reg (.seq [.op, .op, .op, .op, .op, .op, .op])) (.seq (.seq (.reg (.seq [.op, .op, .op, .op, .op, .op])) (.block (.loop [(20, .one (.i .i64))] (.seq (.reg (.seq [.op])) (.seq (.cond (.leaf) (.leaf)) (.seq (.block (.seq (.reg (.seq [.op, .op, .op])) (.reg (.held true [8, 11] (.take 0 (.take 1 (.take 2 (.take 3 (.take 4 (.take 5 (.all [(6, .all [(7, .all [(8, .take 9 (.take 10 (.all [(11, .done)])))])])]))))))))))) (.reg (.seq [.op, .op])))))))) (.seq (.reg (.seq [.op, .op])) (.leaf)))))
def buddy_Heap_Clone.vc (vh : Option Addr) (σ : Hp) (R : Option Addr → Hp → Prop) : Prop :=
 buddy_Heap_made.call vh σ fun t7 v =>
 If (!t7) (R none v)
  (NilP vh fun a10 =>
  LdI .i64 (a10.add 0) v fun t12 =>
  Nw (.cells #[.int .i64 t12, .slice none 0 0] 52 (0, 0)) v fun n14 v1 =>
  NilP vh fun a16 =>
  LdS (a16.add 1) v1 fun t18 =>
  LoopK [(.i .i64)] (fun I => I 0 v1) fun J (t20 : Int) v2 =>
  If (decide (t20 < ((t18.len : Nat) : Int))) (Ix t18.a t18.len t20 1 fun a22 =>
   LdM a22 v2 fun l =>
   Held v2 fun S =>
   NilP (some n14) fun a26 =>
   LdH S .s (a26.add 1) fun (t28 : Sl) =>
   maps_Clone_map_int_bool_int_bool.call l v2 fun t30 v3 =>
   S v3 ∧
   Nw (.cells #[.map t30] 66 (0, 0)) v3 fun n31 v4 =>
   S v4 ∧
   App t28 1 8 66 [.map none] ⟨(some n31), 1, 1⟩ v4 fun t32 v5 =>
   NilP (some n14) fun a33 =>
   St1 (a33.add 1) (.slice t32.a t32.len t32.cap) v5 fun v6 =>
   Ar .i64 (t20 + 1) fun t35 =>
   J t35 v6)
   (R (some n14) v2))
set_option maxRecDepth 100000 in
theorem buddy_Heap_Clone.vc_eq (vh : Option Addr) (σ : Hp) (R : Option Addr → Hp → Prop) : fnK Try.prog Try.f22 buddy_Heap_Clone.hint [.pointer vh] [.one .p] R σ = buddy_Heap_Clone.vc vh σ R := by kernel_rfl
theorem buddy_Heap_Clone.of_vc {vh : Option Addr} {σ : Hp} {R : Option Addr → Hp → Prop} (hv : buddy_Heap_Clone.vc vh σ R) : buddy_Heap_Clone.call vh σ R :=
  fnK_sound Try.func22 (x := buddy_Heap_Clone.hint) (args := [.pointer vh]) (rs := [.one .p]) (R := R) (by rw [buddy_Heap_Clone.vc_eq]; exact hv)
def freeholdref03_Heap_Clone.hint : Hn := .seq (.reg (.seq [.op])) (.seq (.seq (.reg (.seq [.op, .op, .op])) (.cond (.seq (.reg (.seq [.op])) (.leaf)) (.leaf))) (.seq (.reg (.seq [.op, .op, .op, .op, .op, .op, .op, .op, .op])) (.leaf)))
def freeholdref03_Heap_Clone.vc (vh : Option Addr) (σ : Hp) (R : Option Addr → Hp → Prop) : Prop :=
 freeholdref03_Heap_made.call vh σ fun t4 v =>
 If (!t4) (R none v)
  (Nw (.cells #[] 4 (0, 0)) v fun n6 v1 =>
  NilP vh fun a8 =>
  LdS (a8.add 0) v1 fun t10 =>
  App ⟨(some n6), 0, 0⟩ 1 1 4 [.bool false] t10 v1 fun t11 v2 =>
  Nw (.cells #[.slice t11.a t11.len t11.cap] 75 (0, 0)) v2 fun n13 v3 =>
  R (some n13) v3)
set_option maxRecDepth 100000 in
theorem freeholdref03_Heap_Clone.vc_eq (vh : Option Addr) (σ : Hp) (R : Option Addr → Hp → Prop) : fnK Try.prog Try.f23 freeholdref03_Heap_Clone.hint [.pointer vh] [.one .p] R σ = freeholdref03_Heap_Clone.vc vh σ R := by kernel_rfl
theorem freeholdref03_Heap_Clone.of_vc {vh : Option Addr} {σ : Hp} {R : Option Addr → Hp → Prop} (hv : freeholdref03_Heap_Clone.vc vh σ R) : freeholdref03_Heap_Clone.call vh σ R :=
  fnK_sound Try.func23 (x := freeholdref03_Heap_Clone.hint) (args := [.pointer vh]) (rs := [.one .p]) (R := R) (by rw [freeholdref03_Heap_Clone.vc_eq]; exact hv)
end Go.Proofs
