/- Texts joined. -/
import Derived.Test.YtmjjhknmbflfhaaGreatDoorRows
import Derived.ChangeVars
import Derived.JoinedOf
import Derived.RowKit
import Derived.WalkKit
import Derived.ProofKit
import Derived.OpenShut
import Derived.ChangeOld
import Derived.Carry
import Derived.Test.YtmjjhknmbflfhaaGreatDoorT5
set_option linter.unusedVariables false
set_option linter.unusedSimpArgs false
namespace Go.Proofs
open Go.Vc

set_option maxRecDepth 100000
def freeholdlaw10_ArenaTransfers.hint : Hn := .seq (.o 2) (.seq (.seq (.reg (.seq [.op, .op, .op, .grd false 3 [.op, .op, .op]])) (.cond (.seq (.o 2) (.leaf)) (.leaf))) (.seq (.o 11) (.seq (.seq (.o 2) (.cond (.seq (.reg (.seq [.op, .op, .op, .op, .grd true 1 [.op], .op])) (.leaf)) (.leaf))) (.seq (.o 4) (.seq (.seq (.o 5) (.cond (.seq (.o 2) (.leaf)) (.leaf))) (.seq (.reg (.held true [] (.take 0 (.take 1 (.take 2 (.take 3 (.take 4 (.take 5 (.take 6 (.take 7 (.take 8 (.take 9 (.take 10 (.all [(11, .take 12 (.take 13 (.take 14 (.take 15 (.take 16 (.done))))))])))))))))))))) (.seq (.seq (.reg (.seq [.op, .op, .op, .grd false 2 [.op, .op]])) (.cond (.seq (.reg (.heldJ true [] [(12, .one .b)] (.take 0 (.take 1 (.take 2 (.split 77 (.take 3 (.take 4 (.take 5 (.take 6 (.take 7 (.take 8 (.take 9 (.take 10 (.take 11 (.take 12 (.take 13 (.take 14 (.all [(15, .take 16 (.take 17 (.done)))]))))))))))))) (.take 3 (.take 4 (.take 5 (.take 6 (.take 7 (.take 8 (.take 9 (.take 10 (.take 11 (.take 12 (.take 13 (.take 14 (.split 89 (.all [(15, .take 16 (.take 17 (.done)))]) (.take 15 (.take 16 (.take 17 (.done))))))))))))))))))))))) (.leaf)) (.leaf))) (.seq (.reg (.held true [] (.take 0 (.take 1 (.take 2 (.take 3 (.take 4 (.take 5 (.take 6 (.take 7 (.take 8 (.all [(9, .take 10 (.take 11 (.take 12 (.take 13 (.take 14 (.done))))))])))))))))))) (.seq (.reg (.seq [.op, .op, .op, .grd true 4 [.op, .op, .op, .op], .op, .grd true 1 [.op], .op])) (.leaf))))))))))
def freeholdlaw10_ArenaTransfers.vc (table : Sl) (pages : Int) (many : Int) (room : Int) (l : Sl) (vx : Int) (vx1 : Int) (vx2 : Int) (vx3 : Int) (vx4 : Int) (vx5 : Sl) (σ : Hp) (R : Bool -> Hp -> Prop) : Prop :=
 Nw (.cells #[.int .i64 vx, .int .i64 vx1, .int .i64 vx2, .int .i64 vx3, .int .i64 vx4, .slice vx5.a vx5.len vx5.cap] 44 (0, 0)) σ fun n11 v =>
 freeholdlaw10_great.call l v fun t21 v1 =>
 JnB (fun r v2 =>
 If r (freeholdlaw10_alive.call v2 fun t27 v3 =>
 R t27 v3)
 (freeholdlaw10_world.call table pages many room l v2 fun t34 t341 v4 =>
 If (!t341) (freeholdref01_Valid.call table v4 fun t40 v5 =>
 JnB (fun r1 v6 =>
 R r1 v6) fun J1 =>
 If (!t40) (freeholdlaw10_alive.call v5 fun t43 v7 =>
 J1 t43 v7)
 (J1 false v5))
 (LdI .i64 (n11.add 0) v4 fun t46 =>
 LdI .i64 (n11.add 1) v4 fun t461 =>
 LdI .i64 (n11.add 2) v4 fun t462 =>
 LdI .i64 (n11.add 3) v4 fun t463 =>
 LdI .i64 (n11.add 4) v4 fun t464 =>
 LdS (n11.add 5) v4 fun t465 =>
 freeholdlaw10_World_number.call t34 t46 t461 t462 t463 t464 t465 v4 fun k v8 =>
 LdI .i64 (n11.add 0) v8 fun t50 =>
 LdI .i64 (n11.add 1) v8 fun t501 =>
 LdI .i64 (n11.add 2) v8 fun t502 =>
 LdI .i64 (n11.add 3) v8 fun t503 =>
 LdI .i64 (n11.add 4) v8 fun t504 =>
 LdS (n11.add 5) v8 fun t505 =>
 freeholdlaw10_World_own.call t34 k t50 t501 t502 t503 t504 t505 v8 fun t51 v9 =>
 If (!t51) (freeholdlaw10_alive.call v9 fun t53 v10 =>
 R t53 v10)
 (Held v9 fun S =>
 NilP t34 fun a56 =>
 LdH S .s (a56.add 1) fun (t58 : Sl) =>
 Ix t58.a t58.len k 1 fun a60 =>
 LdH S .p a60 fun (t61 : Option Addr) =>
 LdH S (.i .i64) (n11.add 2) fun (t63 : Int) =>
 LdH S .s (n11.add 5) fun (t65 : Sl) =>
 arena_Arena_ToTransfer.call t61 t63 t65 v9 fun t66 t661 v11 =>
 And (S v11) <|
 JnB (fun r2 v12 =>
 If r2 (Jn [.b] (fun (t12 : Bool) v13 =>
 R t12 v13) fun J3 =>
 Held v12 fun S1 =>
 If (t661 != 0) (freeholdlaw10_alive.call v12 fun t90 v14 =>
 And (S1 v14) <|
 J3 t90 v14)
 (LdH S1 .s (n11.add 5) fun (t79 : Sl) =>
 LdH S1 (.i .i64) (n11.add 2) fun (t83 : Int) =>
 Ix table.a table.len t83 3 fun a84 =>
 LdH S1 (.i .i64) (a84.add 2) fun (t86 : Int) =>
 If (((t79.len : Nat) : Int) == t86) (freeholdlaw10_alive.call v12 fun t901 v15 =>
 And (S1 v15) <|
 J3 t901 v15)
 (J3 false v12)))
 (Held v12 fun S2 =>
 NilP t34 fun a94 =>
 LdH S2 .s (a94.add 1) fun (t96 : Sl) =>
 Ix t96.a t96.len k 1 fun a98 =>
 LdH S2 .p a98 fun (t99 : Option Addr) =>
 LdH S2 (.i .i64) (n11.add 2) fun (t101 : Int) =>
 arena_Arena_FromTransfer.call t99 t101 v12 fun t102 t1021 v16 =>
 And (S2 v16) <|
 JnB (fun r3 v17 =>
 JnB (fun r4 v18 =>
 R r4 v18) fun J5 =>
 If r3 (freeholdlaw10_alive.call v17 fun t114 v19 =>
 J5 t114 v19)
 (J5 false v17)) fun J4 =>
 If (t1021 == 0) (LdS (n11.add 5) v16 fun t110 =>
 freeholdref01_Ints.call t102 t110 v16 fun t111 v20 =>
 J4 t111 v20)
 (J4 false v16))) fun J2 =>
 If (t661 != 0) (J2 true v11)
 (J2 (!t66) v11))))) fun J =>
 If t21 (J true v1)
 (LdI .i64 (n11.add 0) v1 fun t23 =>
 LdI .i64 (n11.add 1) v1 fun t231 =>
 LdI .i64 (n11.add 2) v1 fun t232 =>
 LdI .i64 (n11.add 3) v1 fun t233 =>
 LdI .i64 (n11.add 4) v1 fun t234 =>
 LdS (n11.add 5) v1 fun t235 =>
 Nw (.cells #[.int .i64 t23, .int .i64 t231, .int .i64 t232, .int .i64 t233, .int .i64 t234, .slice t235.a t235.len t235.cap] 44 (0, 0)) v1 fun n24 v21 =>
 freeholdlaw10_great.call ⟨(some n24), 1, 1⟩ v21 fun t25 v22 =>
 J t25 v22)
theorem freeholdlaw10_ArenaTransfers.of_vc {table : Sl} {pages : Int} {many : Int} {room : Int} {l : Sl} {vx : Int} {vx1 : Int} {vx2 : Int} {vx3 : Int} {vx4 : Int} {vx5 : Sl} {σ : Hp} {R : Bool -> Hp -> Prop} (hv : freeholdlaw10_ArenaTransfers.vc table pages many room l vx vx1 vx2 vx3 vx4 vx5 σ R) : freeholdlaw10_ArenaTransfers.call table pages many room l vx vx1 vx2 vx3 vx4 vx5 σ R :=
 fnK_sound Tryz.func4 (x := freeholdlaw10_ArenaTransfers.hint) (args := [.slice table.a table.len table.cap, .int .u8 pages, .int .u8 many, .int .u8 room, .slice l.a l.len l.cap, .agg #[.int .i64 vx, .int .i64 vx1, .int .i64 vx2, .int .i64 vx3, .int .i64 vx4, .slice vx5.a vx5.len vx5.cap]]) (rs := [.one .b]) (R := R) (Eq.mpr (by kernel_rfl) hv)
end Go.Proofs
namespace Go.Ar
open Go Go.Vc Go.Proofs
open Go.Bu (runOk giveS takeAt cnt)


variable {σ : Hp} {F : Rg} {L : LayW} {W : Wd} {xs : List (Int × Int × Int)}
theorem Acts6.weak {N M : Nat} {sl : Sl} {us : List Act} (h : Acts6 σ N sl us) (h1 : N <= M) (h2 : M <= σ.size) : Acts6 σ M sl us := by
 refine ⟨h.len, fun i x hx => ?_, h.i, h2⟩
 obtain ⟨b, o, s, q1, q2, c0, c1, c2, c3, c4, c5, q3, q4⟩ := h.at_ i x hx
 exact ⟨b, o, s, q1, by omega, c0, c1, c2, c3, c4, c5, (SlR.loc _ _ _).mono q3 fun b _ hb => by omega, q4⟩
theorem Acts6.keep0 {N : Nat} {sl : Sl} {us : List Act} (h : Acts6 σ N sl us) {σ' : Hp} (e : Ext0 σ σ') : Acts6 σ' N sl us := h.keep e.to
def actV (x : Act) (s : Sl) : List Value := [.int .i64 x.kd, .int .i64 x.ar, .int .i64 x.cl, .int .i64 x.a, .int .i64 x.b, .slice s.a s.len s.cap]
theorem great1_ok {x : Act} {s : Sl} {b : Nat} (hb : Blk σ b (actV x s)) (hs : s.len = x.l.length) {R : Bool -> Hp -> Prop} (hR : R (decide (x.l.length > 40)) σ) : freeholdlaw10_great.call ⟨some ⟨b, 0, none⟩, 1, 1⟩ σ R := by
 refine freeholdlaw10_great.of_vc ?_
 unfold freeholdlaw10_great.vc
 refine loop1 (a := .i .i64) (fun (t : Int) v => (t = 0 ∨ t = 1 /\ ¬ x.l.length > 40) /\ v = σ) (fun t _ => (1 - t).toNat) ⟨.inl rfl, rfl⟩ ?_
 rintro (t : Int) v ⟨ht, rfl⟩
 refine ifD (fun hlt => ?_) fun hge => ?_
 ·simp only at hlt
  have : t = 0 := by omega
  subst this
  refine ix (by omega) (by simp only; omega) ?_
  rw [add_lit]
  refine hb.rS rfl (ifD (fun hg => ?_) fun hg => ar (by omega) (by omega) ⟨⟨.inr ⟨rfl, by simp only at hg; omega⟩, rfl⟩, by decide⟩)
  simp only at hg
  rw [decide_eq_true (show x.l.length > 40 by omega)] at hR; exact hR
 ·simp only at hge
  have h1 : t = 1 /\ ¬ x.l.length > 40 := by omega
  rw [decide_eq_false h1.2] at hR
  have : decide ((((1 : Nat) : Nat) : Int) > 40) = false := rfl
  exact hR
theorem ptr_S {S : Hp -> Prop} {s : Sl} {l : List Nat} (hS : ∀ m, S m -> ∃ G, RowR s 1 (ptrV l) m G) (h0 : S σ) {k q : Nat} (hq : l[k]? = some q) {K : Option Addr -> Prop} (hK : K (some ⟨q, 0, none⟩)) : Ix s.a s.len (k : Int) 1 fun a => LdH S .p a K := by
 have hk := (List.getElem?_eq_some_iff.1 hq).1
 obtain ⟨G, hG⟩ := hS σ h0
 obtain ⟨b, o, ha, _⟩ := hG.slR.cell (j := k) (v := .pointer (some ⟨q, 0, none⟩)) (by simp [ptrV, hq])
 have hl := hG.1
 simp [ptrV] at hl
 rw [ha]
 refine ix (by omega) (by omega) ⟨some ⟨q, 0, none⟩, fun m hm => ?_, hK⟩
 obtain ⟨G', hG'⟩ := hS m hm
 obtain ⟨b', o', ha', hc⟩ := hG'.slR.cell (j := k) (v := .pointer (some ⟨q, 0, none⟩)) (by simp [ptrV, hq])
 rw [ha] at ha'; cases ha'
 rw [add_lit, show o + (k : Int).toNat * 1 = o + k by omega]; exact hc
theorem toTr_batch {A : AR} (h : GA A) {k : Int} {l : List Int} (h0 : toTrE A k l = 0) : ∃ (j : Nat) (c : Cls), k = j /\ A.tb[j]? = some c /\ l.length = c.batch := by
 have hck : A.ck k = true := by
  unfold toTrE at h0
  split at h0
  ·assumption
  ·cases h0
 obtain ⟨j, rfl, hj⟩ := ck_iff.1 hck
 obtain ⟨c, ss, t, hk, ht⟩ := h.cl hj
 refine ⟨j, c, rfl, hk.1, ?_⟩
 unfold toTrE at h0
 rw [hck, if_pos rfl, Int.toNat_natCast, hk.1, hk.2] at h0
 simp only at h0
 apply Classical.byContradiction; intro hx; rw [if_neg hx] at h0; cases h0
theorem toTr_from {A : AR} (h : GA A) {k : Int} {l : List Int} (hv : toTrV A k l = true) : fromTrE (toTrS A k l) k = 0 /\ fromTrV (toTrS A k l) k = l := by
 have hE : toTrE A k l = 0 := by
  unfold toTrV at hv
  simp only [Bool.and_eq_true, decide_eq_true_eq] at hv
  exact hv.1
 obtain ⟨j, c, rfl, hc, _⟩ := toTr_batch h hE
 have hj := (List.getElem?_eq_some_iff.1 hc).1
 obtain ⟨_, ss, t, hk, ht⟩ := h.cl hj
 have eS : toTrS A (j : Int) l = { A with tra := A.tra.set j { t with bs := t.bs ++ [l] } } := by unfold toTrS; rw [if_pos hv, Int.toNat_natCast, modify_set ht]
 have hget : (A.tra.set j { t with bs := t.bs ++ [l] })[j]? = some { t with bs := t.bs ++ [l] } := List.getElem?_set_self (by rw [h.lt]; exact hj)
 rw [eS]
 have hck : AR.ck { A with tra := A.tra.set j { t with bs := t.bs ++ [l] } } (j : Int) = true := ck_iff.2 ⟨j, rfl, hj⟩
 have e0 : fromTrE { A with tra := A.tra.set j { t with bs := t.bs ++ [l] } } (j : Int) = 0 := by
  unfold fromTrE
  rw [hck, if_pos rfl, Int.toNat_natCast]
  show (match (A.tra.set j { t with bs := t.bs ++ [l] })[j]? with
   | some t => if t.bs = [] then 4 else 0
   | none => (5 : Int)) = 0
  rw [hget]
  simp
 refine ⟨e0, ?_⟩
 unfold fromTrV
 rw [if_pos e0, Int.toNat_natCast]
 show (match (A.tra.set j { t with bs := t.bs ++ [l] })[j]? with
  | some t => t.bs.getLast?.getD []
  | none => []) = l
 rw [hget]
 simp
theorem LTransfers_ok (g : Gl σ) (gd : Gd σ) {table : Sl} (ht : Acts σ table xs) {pages many room : Int} (hp : 0 <= pages /\ pages <= 255) (hm : 0 <= many /\ many <= 255) (hr9 : 0 <= room /\ room <= 255)
 {l : Sl} {us : List Act} (hl : Acts6 σ σ.size l us) (hll : us.length <= 9223372036854775807) {x : Act} {s : Sl} (hs : SlR s 1 (intsI x.l) σ fun b => b < σ.size) (hcap : s.len <= s.cap) (hx : ∀ y ∈ x.l, I63 y)
 {R : Bool -> Hp -> Prop} (hR : ∀ σ', Ext0 σ σ' -> R true σ') : freeholdlaw10_ArenaTransfers.call table pages many room l x.kd x.ar x.cl x.a x.b s σ R := by
 refine freeholdlaw10_ArenaTransfers.of_vc ?_
 unfold freeholdlaw10_ArenaTransfers.vc
 have hslen : s.len = x.l.length := by have := hs.1; simp [intsI] at this; omega
 refine nw (cs := actV x s) fun v z e b => ?_
 have hgb : ∀ r w, Ext0 σ w -> Blk w σ.size (actV x s) -> v.size <= w.size -> (r = false -> greatW us = false /\ x.l.length <= 40) -> If r (freeholdlaw10_alive.call w fun t27 v3 => R t27 v3)
  (freeholdlaw10_world.call table pages many room l w fun t34 t341 v4 =>
  If (!t341) (freeholdref01_Valid.call table v4 fun t40 v5 =>
   JnB (fun r1 v6 =>
    R r1 v6) fun J1 =>
   If (!t40) (freeholdlaw10_alive.call v5 fun t43 v7 =>
    J1 t43 v7)
    (J1 false v5))
   (LdI .i64 (Addr.add ⟨σ.size, 0, none⟩ 0) v4 fun t46 =>
   LdI .i64 (Addr.add ⟨σ.size, 0, none⟩ 1) v4 fun t461 =>
   LdI .i64 (Addr.add ⟨σ.size, 0, none⟩ 2) v4 fun t462 =>
   LdI .i64 (Addr.add ⟨σ.size, 0, none⟩ 3) v4 fun t463 =>
   LdI .i64 (Addr.add ⟨σ.size, 0, none⟩ 4) v4 fun t464 =>
   LdS (Addr.add ⟨σ.size, 0, none⟩ 5) v4 fun t465 =>
   freeholdlaw10_World_number.call t34 t46 t461 t462 t463 t464 t465 v4 fun k v8 =>
   LdI .i64 (Addr.add ⟨σ.size, 0, none⟩ 0) v8 fun t50 =>
   LdI .i64 (Addr.add ⟨σ.size, 0, none⟩ 1) v8 fun t501 =>
   LdI .i64 (Addr.add ⟨σ.size, 0, none⟩ 2) v8 fun t502 =>
   LdI .i64 (Addr.add ⟨σ.size, 0, none⟩ 3) v8 fun t503 =>
   LdI .i64 (Addr.add ⟨σ.size, 0, none⟩ 4) v8 fun t504 =>
   LdS (Addr.add ⟨σ.size, 0, none⟩ 5) v8 fun t505 =>
   freeholdlaw10_World_own.call t34 k t50 t501 t502 t503 t504 t505 v8 fun t51 v9 =>
   If (!t51) (freeholdlaw10_alive.call v9 fun t53 v10 =>
    R t53 v10)
    (Held v9 fun S =>
    NilP t34 fun a56 =>
    LdH S .s (a56.add 1) fun (t58 : Sl) =>
    Ix t58.a t58.len k 1 fun a60 =>
    LdH S .p a60 fun (t61 : Option Addr) =>
    LdH S (.i .i64) (Addr.add ⟨σ.size, 0, none⟩ 2) fun (t63 : Int) =>
    LdH S .s (Addr.add ⟨σ.size, 0, none⟩ 5) fun (t65 : Sl) =>
    arena_Arena_ToTransfer.call t61 t63 t65 v9 fun t66 t661 v11 =>
    And (S v11) <|
    JnB (fun r2 v12 =>
     If r2 (Jn [.b] (fun (t12 : Bool) v13 =>
      R t12 v13) fun J3 =>
      Held v12 fun S1 =>
      If (t661 != 0) (freeholdlaw10_alive.call v12 fun t90 v14 =>
       And (S1 v14) <|
       J3 t90 v14)
       (LdH S1 .s (Addr.add ⟨σ.size, 0, none⟩ 5) fun (t79 : Sl) =>
       LdH S1 (.i .i64) (Addr.add ⟨σ.size, 0, none⟩ 2) fun (t83 : Int) =>
       Ix table.a table.len t83 3 fun a84 =>
       LdH S1 (.i .i64) (a84.add 2) fun (t86 : Int) =>
       If (((t79.len : Nat) : Int) == t86) (freeholdlaw10_alive.call v12 fun t901 v15 =>
        And (S1 v15) <|
        J3 t901 v15)
        (J3 false v12)))
      (Held v12 fun S2 =>
      NilP t34 fun a94 =>
      LdH S2 .s (a94.add 1) fun (t96 : Sl) =>
      Ix t96.a t96.len k 1 fun a98 =>
      LdH S2 .p a98 fun (t99 : Option Addr) =>
      LdH S2 (.i .i64) (Addr.add ⟨σ.size, 0, none⟩ 2) fun (t101 : Int) =>
      arena_Arena_FromTransfer.call t99 t101 v12 fun t102 t1021 v16 =>
      And (S2 v16) <|
      JnB (fun r3 v17 =>
       JnB (fun r4 v18 =>
        R r4 v18) fun J5 =>
       If r3 (freeholdlaw10_alive.call v17 fun t114 v19 =>
        J5 t114 v19)
        (J5 false v17)) fun J4 =>
      If (t1021 == 0) (LdS (Addr.add ⟨σ.size, 0, none⟩ 5) v16 fun t110 =>
       freeholdref01_Ints.call t102 t110 v16 fun t111 v20 =>
       J4 t111 v20)
       (J4 false v16))) fun J2 =>
    If (t661 != 0) (J2 true v11)
     (J2 (!t66) v11)))) := by
  intro r w ew bw hsz hr0
  refine iff_ (fun hr => alive_ok (g.keep0 ew) fun w' e' => hR w' (Ext.trans ew e')) fun hr => ?_
  obtain ⟨hgr, h40⟩ := hr0 hr
  have gw := g.keep0 ew
  have hz1 := ew.1
  have hbl := bw.lt
  refine start_ok gw (gd.keep0 ew) (Nat.le_refl _) (gl_lt gw) (by have := gd_lt gd; omega) (acts_keep0 ht ew) (fun hne b o hbo => by have := acts_below ht hne b o hbo; omega) hp hm hr9 ((hl.keep0 ew).weak hz1 (Nat.le_refl _)) hgr (fun w' e' => hR w' (Ext.trans ew e')) fun hv v4 L e4 hw => ?_
  have E4 := Ext.trans ew (e4.mono (G := fun _ => False) fun b hb hc => by omega)
  have b4 := Ext.blk (e4.mono (G := fun _ => False) fun b hb hc => by omega) bw id
  have h4 := hw.d.h
  have wi := hw.d.wi
  have hlen := wi.len
  have hk1 := hw.d.k1; have hk2 := hw.d.k2
  generalize theW xs pages many room us = W at hw h4 wi hlen hk1 hk2
  have hs4 := (SlR.loc _ _ _).keep0 hs E4
  refine b4.rI rfl (b4.rI rfl (b4.rI rfl (b4.rI rfl (b4.rI rfl (b4.rS rfl (number_ok h4 (by omega) (by omega) _ _ _ _ _ _ fun v8 e8 => ?_))))))
  have b8 := Ext.blk e8 b4 id
  have hs8 := (SlR.loc _ _ _).keep0 hs4 e8
  have hkl := (num_lt x.ar (n := W.ars.length) (by omega)).1
  have hA : W.ars[numW W.ars.length x.ar]? = some (W.ars[numW W.ars.length x.ar]'hkl) := List.getElem?_eq_getElem _
  generalize (W.ars[numW W.ars.length x.ar]'hkl) = A at hA
  generalize numW W.ars.length x.ar = k at hA
  have ga := wi.ga k A hA
  refine b8.rI rfl (b8.rI rfl (b8.rI rfl (b8.rI rfl (b8.rI rfl (b8.rS rfl (own_ok (h4.keep0 e8) k _ _ _ _ _ hs8 (by omega) (by omega) fun v9 e9 => ?_))))))
  have E89 := Ext.trans e8 e9
  have E9 := Ext.trans E4 E89
  have b9 := Ext.blk e9 b8 id
  have hs9 := (SlR.loc _ _ _).keep0 hs8 e9
  refine iff_ (fun ho => alive_ok (g.keep0 E9) fun w' e' => hR w' (Ext.trans E9 e')) fun ho => ?_
  have ho : ownW W.held k x.cl x.l = true := by simpa using ho
  have hw9 := hw.keep0 E89
  have h9 := hw9.d.h
  obtain ⟨Y, G, hy, hYh, hG, hAH, put⟩ := h9.stepA hA
  have hz0 := e.1
  let S : Hp -> Prop := fun m => Blk m L.w (hdW L) /\ (∃ G, RowR L.arow 1 (ptrV (L.ys.map (·.p))) m G) /\ Blk m σ.size (actV x s)
  have rowS : ∀ m, S m -> ∃ G, RowR L.arow 1 (ptrV (L.ys.map (·.p))) m G := fun m hm => hm.2.1
  have S9 : S v9 := ⟨h9.hd, ⟨_, h9.arow⟩, b9⟩
  refine ⟨S, S9, nilP ⟨L.arow, fun m hm => by rw [add_lit, hm.1.cell]; rfl, ?_⟩⟩
  refine ptr_S rowS S9 (q := Y.p) (by simp [hy]) ⟨x.cl, fun m hm => by rw [add_lit, hm.2.2.cell]; rfl, ⟨s, fun m hm => by rw [add_lit, hm.2.2.cell]; rfl, ?_⟩⟩
  refine ToTransfer_ok hAH x.cl hs9 hx fun v11 ex hA2 => ?_
  obtain ⟨o, f1, f2, f3⟩ := toTr_ok ga x.cl (xs := x.l) (ownW_iff.1 ho).2 (fun y hy => by
   by_cases hcl : 0 <= x.cl
   ·exact wi.own1 hA ho (j := x.cl.toNat) (by omega) y hy
   ·rintro ⟨t, ht, hyt⟩
    obtain ⟨p, hp, hpx⟩ := (ownW_iff.1 ho).1 y hy
    obtain ⟨p1, p2, p3, p4⟩ := isAt_iff.1 hpx
    rcases wi.hd hA hp p1 with ⟨c1, _, r, hr, c2, _⟩ | ⟨j, c, c1, _⟩
    ·have h0 : x.cl.toNat = 0 := by omega
     rw [h0] at ht
     have hkl0 : 0 < A.tb.length := by rw [← ga.lt]; exact (List.getElem?_eq_some_iff.1 ht).1
     obtain ⟨c, ss, t', hc, _⟩ := ga.cl hkl0
     have htk := (TkA_cl hc).2 (ga.trt 0 c ss t hc ht y hyt)
     obtain ⟨y', rfl, hf⟩ := htk.find ga
     have hr2 := ga.rpos r hr
     have hfr := findA_run ga hr (x := y') (by omega) (by rw [Nat.add_mul]; omega)
     rw [hf] at hfr
     have := congrArg Prod.fst (Option.some.inj hfr)
     simp only at this; omega
    ·omega)
  obtain ⟨e11, h11⟩ := put v11 _ (Grow G v9) ex (fun b hb => hb) hA2
  have nb : ¬ v9.size <= σ.size := by have := E9.1; have := b9.lt; omega
  have nG : ¬ G σ.size := fun hf => by have := hG _ hf; omega
  have b11 := ex.blk b9 nG
  have E11 : Ext0 σ v11 := Ext.fresh E9 e11 fun b hb => by omega
  have S11 : S v11 := ⟨h11.hd, ⟨_, h11.arow⟩, b11⟩
  refine ⟨S11, JnB.intro ?_⟩
  have al : ∀ (v : Hp), Ext0 v11 v -> ∀ (K : Bool -> Hp -> Prop), (∀ w, Ext0 v w -> R true w -> K true w) -> freeholdlaw10_alive.call v K := fun v ev K hK => alive_ok (g.keep0 (Ext.trans E11 ev)) fun w ew => hK w ew (hR w (Ext.trans (Ext.trans E11 ev) ew))
  have no : (toTrE A x.cl x.l ≠ 0 ∨ toTrV A x.cl x.l = false) -> Jn [.b] (fun (t12 : Bool) v13 =>
   R t12 v13) fun J3 =>
   Held v11 fun S1 =>
   If (toTrE A x.cl x.l != 0) (freeholdlaw10_alive.call v11 fun t90 v14 =>
    And (S1 v14) <|
    J3 t90 v14)
    (LdH S1 .s (Addr.add ⟨σ.size, 0, none⟩ 5) fun (t79 : Sl) =>
    LdH S1 (.i .i64) (Addr.add ⟨σ.size, 0, none⟩ 2) fun (t83 : Int) =>
    Ix table.a table.len t83 3 fun a84 =>
    LdH S1 (.i .i64) (a84.add 2) fun (t86 : Int) =>
    If (((t79.len : Nat) : Int) == t86) (freeholdlaw10_alive.call v11 fun t901 v15 =>
     And (S1 v15) <|
     J3 t901 v15)
     (J3 false v11)) := by
   intro hno
   refine Jn.intro ⟨fun m => Ext0 v11 m, Ext.refl _ _, ?_⟩
   refine iff_ (fun hne => al v11 (Ext.refl _ _) _ fun w ew hw => ⟨ew, hw⟩) fun he => ?_
   have he : toTrE A x.cl x.l = 0 := by simpa using he
   obtain ⟨j, c, hj, hc, hlb⟩ := toTr_batch ga he
   have htab := acts_keep0 ht E11
   have hcx : (xs.map toCls)[j]? = some c := by rw [← hw.d.tb, ← wi.tb k A hA]; exact hc
   obtain ⟨hxj, hok⟩ := acts_cls ht hv hcx
   have hjl := (List.getElem?_eq_some_iff.1 hxj).1
   have htl := ht.1
   refine ⟨s, fun m hm => by rw [add_lit, (Ext.blk hm b11 id).cell]; rfl, ⟨x.cl, fun m hm => by rw [add_lit, (Ext.blk hm b11 id).cell]; rfl, ?_⟩⟩
   obtain ⟨tb, to, hta, _, _⟩ := htab.2 j _ _ _ hxj
   rw [hta, hj]
   refine ix (by omega) (by omega) ⟨(c.batch : Int), fun u hu => ?_, ?_⟩
   ·obtain ⟨tb', to', hta', _, _, _, hc⟩ := (acts_keep0 htab hu).2 j _ _ _ hxj
    rw [hta] at hta'; cases hta'
    rw [add_lit, add_lit, show to + (j : Int).toNat * 3 + 2 = to + j * 3 + 2 by omega]; exact hc
   ·rw [hslen, hlb]
    exact ifT (by simp) (al v11 (Ext.refl _ _) _ fun w ew hw => ⟨ew, hw⟩)
  refine iff_ (fun hne => ?_) fun he => ?_
  ·have hne : toTrE A x.cl x.l ≠ 0 := by simpa using hne
   exact ifT rfl (no (.inl hne))
  ·have he : toTrE A x.cl x.l = 0 := by simpa using he
   refine iff_ (fun hf => no (.inr (by simpa using hf))) fun hf => ?_
   have hvt : toTrV A x.cl x.l = true := by simpa using hf
   obtain ⟨q1, q2⟩ := toTr_from ga hvt
   have hB : (W.ars.set k (toTrS A x.cl x.l))[k]? = some (toTrS A x.cl x.l) := List.getElem?_set_self (List.getElem?_eq_some_iff.1 hA).1
   obtain ⟨Y', G', hy', _, hG', hAH', put'⟩ := h11.stepA hB
   rw [hy] at hy'; cases hy'
   refine ⟨S, S11, nilP ⟨L.arow, fun m hm => by rw [add_lit, hm.1.cell]; rfl, ?_⟩⟩
   refine ptr_S rowS S11 (q := Y.p) (by simp [hy]) ⟨x.cl, fun m hm => by rw [add_lit, hm.2.2.cell]; rfl, ?_⟩
   refine FromTransfer_ok hAH' x.cl fun s2 v16 ex2 hs2 hcap2 hA3 => ?_
   obtain ⟨e16, h16⟩ := put' v16 _ G' ex2 (fun b hb => .inl hb) hA3
   have hG'0 : ∀ b, G' b -> σ.size < b := fun b hb => by
    rcases hG' b hb with h | h
    ·have := h.1; omega
    ·have := hb; rcases h with h | h
     ·have := hG _ h; omega
     ·omega
   have b16 := ex2.blk b11 fun hf => by have := hG'0 _ hf; omega
   have E16 : Ext0 σ v16 := Ext.fresh E11 ex2 fun b hb => by have := hG'0 b hb; omega
   refine ⟨⟨h16.hd, ⟨_, h16.arow⟩, b16⟩, JnB.intro ?_⟩
   rw [q1]
   rw [q2] at hs2
   refine ifT rfl (b16.rS rfl (RInts_ok hs2 ((SlR.loc _ _ _).keep0 hs E16) (by omega) (JnB.intro ?_)))
   exact ifT (by simp) (alive_ok (g.keep0 E16) fun w ew => hR w (Ext.trans E16 ew))
 refine great_ok (hl.keep0 e) hll (JnB.intro (iff_ (fun hgt => ?_) fun hgt => ?_))
 ·exact hgb true v e b (Nat.le_refl _) fun h => by cases h
 ·refine b.rI rfl (b.rI rfl (b.rI rfl (b.rI rfl (b.rI rfl (b.rS rfl ?_)))))
  refine nw (cs := actV x s) fun v1 z1 e1 b1 => ?_
  refine great1_ok b1 hslen (hgb _ v1 (Ext.trans e e1) (Ext.blk e1 b id) (by omega) fun h => ⟨hgt, by simpa using h⟩)
end Go.Ar
namespace Go.Ar
open Go Go.Vc Go.Proofs Go.ChangeShapes Go.WideShapes Go.RowKit Go.Deep


theorem bool_of_trod {H : Type} {enc : TypeId × Value -> H} {P : Program} {w : World} {base : Nat} {sp : Nat -> Bool} {held : Bool} {fuel : Nat} {t : TypeId} {c : Value} {y : DataW H × List MemPlace}
 (ht : P.underlying t = some .bool) (h : DataW.trod enc P w base sp held fuel t [c] = some y) : ∃ n, c = .bool n /\ y = (.lit (.bool n), []) := by
 cases fuel with
 | zero => simp [DataW.trod] at h
 | succ fuel =>
  cases c <;> simp [DataW.trod, ht] at h
  rename_i n
  exact ⟨n, rfl, by simpa using h.symm⟩
theorem two_cells {P : Program} {w : World} {t : TypeId} {f0 f1 : Field} {cs : Array Value} {fuel : Nat} {p : List MemPlace} {x y : Bool} (ht : P.underlying t = some (.struct #[f0, f1])) (hone : oneCellFields P #[f0, f1] = true) (hC : P.cellsOf t = 2)
 (h0 : P.underlying f0.type = some .bool) (h1 : P.underlying f1.type = some .bool) (h : DataW.trod (fun _ => ()) P w 0 (fun _ => true) false fuel t cs.toList = some (.agg [.lit (.bool x), .lit (.bool y)], p)) : cs = #[.bool x, .bool y] := by
 obtain ⟨ys, n, hn, hy, hlen, hyl, hff⟩ := DataW.trod_struct ht h
 obtain ⟨l⟩ := cs
 have hl2 : l.length = 2 := by rw [← hC]; simpa using hlen
 match l, hl2 with
 | [c0, c1], _ =>
  have k0 := hff 0 f0 rfl
  have k1 := hff 1 f1 rfl
  obtain ⟨o0, q0⟩ := hone_of hone 0 f0 rfl
  obtain ⟨o1, q1⟩ := hone_of hone 1 f1 rfl
  rw [o0, q0] at k0
  rw [o1, q1] at k1
  match ys, hyl with
  | [y0, y1], _ =>
   obtain ⟨n0, rfl, e0⟩ := bool_of_trod h0 (c := c0) (y := y0) (by simpa using k0)
   obtain ⟨n1, rfl, e1⟩ := bool_of_trod h1 (c := c1) (y := y1) (by simpa using k1)
   subst e0; subst e1
   simp at hy
   obtain ⟨⟨rfl, rfl⟩, _⟩ := hy
   rfl
theorem cell_of {w : World} {a : Addr} {v : Value} (h : w.cell? a = some v) : cell w.heap a = some v := h
end Go.Ar
namespace Go.Ar
open Go Go.Vc Go.Proofs Go.ChangeShapes Go.WideShapes Go.RowKit Go.Deep


section
variable {H : Type} {enc : TypeId × Value -> H} {P : Program} {w : World}
theorem i63_of {x : Int} (h : (Lit.int .i64 x).wf = true) : I63 x := by
 unfold I63
 simp [Lit.wf, IntKind.min, IntKind.max, IntKind.bits, IntKind.signed] at h
 omega
theorem u8_of {x : Int} (h : (Lit.int .u8 x).wf = true) : 0 <= x /\ x <= 255 := by
 simp [Lit.wf, IntKind.min, IntKind.max, IntKind.bits, IntKind.signed] at h
 omega
theorem ints_open {t e : TypeId} {fuel : Nat} {c : Value} {y : DataW H × List MemPlace} (ht : P.underlying t = some (.slice e)) (hC : P.cellsOf e = 1) (he : P.underlying e = some (.int .i64)) (h : DataW.trod enc P w 0 (fun _ => true) true fuel t [c] = some y) :
 ∃ (s : Sl) (l : List Int), c = .slice s.a s.len s.cap /\ SlR s 1 (intsI l) w.heap (fun b => b < w.heap.size) /\ s.len <= s.cap /\ (∀ x ∈ l, I63 x) /\ l.length <= 9223372036854775807 := by
 rcases open_slice1 ht hC h with ⟨hcs, _⟩ | ⟨a, len, cap, m, n, V, D, Pl, hcs, _, hl, hm, hmm, _, hV⟩
 ·simp only [List.cons.injEq, and_true] at hcs
  exact ⟨⟨none, 0, 0⟩, [], hcs, SlR.nil _ _ _ _, Nat.le_refl _, by simp, by simp⟩
 ·simp only [List.cons.injEq, and_true] at hcs
  have hmc : m = cap := by simpa using hmm
  have hx : ∀ i, i < len -> ∃ x : Int, cell w.heap (a.add i) = some (.int .i64 x) /\ I63 x := fun i hi => by
   obtain ⟨h1, h2⟩ := hV i (by omega)
   obtain ⟨x, hx1, _, hw⟩ := DataW.trod_int he h2
   simp only [List.cons.injEq, and_true] at hx1
   rw [hx1] at h1
   exact ⟨x, h1, i63_of hw⟩
  let g : Nat -> Int := fun i => if hi : i < len then (hx i hi).choose else 0
  have hg : ∀ i, (hi : i < len) -> cell w.heap (a.add i) = some (.int .i64 (g i)) /\ I63 (g i) := fun i hi => by
   have := (hx i hi).choose_spec
   simp only [g, hi, dif_pos]; exact this
  refine ⟨⟨some a, len, cap⟩, (List.range len).map g, hcs, ⟨by simp [intsI], ?_⟩, hl, fun x hx => ?_, ?_⟩
  ·rcases Nat.eq_zero_or_pos len with h0 | h0
   ·left; subst h0; rfl
   ·right
    have hc0 := (hg 0 h0).1
    have hsp := cell_lt hc0
    rw [Addr.add_zero'] at hsp
    obtain ⟨b, o, s⟩ := a
    have hs : s = none := hsp.2
    subst hs
    have hob : ∃ arr ty z, w.heap[b]? = some (.cells arr ty z) := by
     rw [add_lit] at hc0
     unfold cell at hc0
     split at hc0
     ·rename_i arr ty z heq; exact ⟨arr, ty, z, heq⟩
     ·cases hc0
    obtain ⟨arr, ty, z, hobj⟩ := hob
    refine ⟨b, o, arr.toList, hsp.1, rfl, ⟨ty, z, by simpa using hobj⟩, fun j hj => ?_⟩
    have hj' : j < len := by simpa [intsI] using hj
    have hc := (hg j hj').1
    rw [add_lit] at hc
    unfold cell at hc
    simp only [hobj] at hc
    rw [Array.getElem?_toList]
    simp [intsI, List.getElem?_range hj']
    simpa using hc
  ·obtain ⟨i, hi, rfl⟩ := List.mem_map.1 hx
   exact (hg i (List.mem_range.1 hi)).2
  ·have : maxLen = 9223372036854775807 := rfl
   simp; omega
theorem act_cells {t ei : TypeId} {f0 f1 f2 f3 f4 f5 : Field} {fuel : Nat} {cs : List Value} {y : DataW H × List MemPlace}
 (ht : P.underlying t = some (.struct #[f0, f1, f2, f3, f4, f5])) (hone : oneCellFields P #[f0, f1, f2, f3, f4, f5] = true) (hC : P.cellsOf t = 6)
 (h0 : P.underlying f0.type = some (.int .i64)) (h1 : P.underlying f1.type = some (.int .i64)) (h2 : P.underlying f2.type = some (.int .i64)) (h3 : P.underlying f3.type = some (.int .i64)) (h4 : P.underlying f4.type = some (.int .i64)) (h5 : P.underlying f5.type = some (.slice ei)) (hCi : P.cellsOf ei = 1) (hei : P.underlying ei = some (.int .i64))
 (h : DataW.trod enc P w 0 (fun _ => true) true fuel t cs = some y) :
 ∃ (x : Act) (s : Sl), cs = [.int .i64 x.kd, .int .i64 x.ar, .int .i64 x.cl, .int .i64 x.a, .int .i64 x.b, .slice s.a s.len s.cap] /\ SlR s 1 (intsI x.l) w.heap (fun b => b < w.heap.size) /\ s.len <= s.cap /\ I63 x.a /\ (∀ z ∈ x.l, I63 z) /\ x.l.length <= 9223372036854775807 := by
 obtain ⟨ys, n, hn, hy, hlen, hyl, hff⟩ := DataW.trod_struct ht h
 have hl6 : cs.length = 6 := by rw [← hC]; exact hlen
 match cs, hl6 with
 | [c0, c1, c2, c3, c4, c5], _ =>
  have one : ∀ (j : Nat) (f : Field) (c : Value), (#[f0, f1, f2, f3, f4, f5] : Array Field)[j]? = some f -> [c0, c1, c2, c3, c4, c5][j]? = some c -> ∃ z, DataW.trod enc P w 0 (fun _ => true) true n f.type [c] = some z := by
   intro j f c hj hc
   obtain ⟨ho, hk⟩ := hone_of hone j f hj
   have h3 := hff j f hj
   rw [ho, hk] at h3
   have hjl := (List.getElem?_eq_some_iff.1 hc).1
   have e1 : ([c0, c1, c2, c3, c4, c5].drop j).take 1 = [c] := by
    rw [List.drop_eq_getElem_cons hjl, List.take_succ_cons, List.take_zero, (List.getElem?_eq_some_iff.1 hc).2]
   rw [e1] at h3
   have hys : ys[j]? = some (ys[j]'(by rw [hyl]; simp at hjl ⊢; omega)) := List.getElem?_eq_getElem _
   rw [hys] at h3
   exact ⟨_, h3⟩
  have int : ∀ (j : Nat) (f : Field) (c : Value), (#[f0, f1, f2, f3, f4, f5] : Array Field)[j]? = some f -> [c0, c1, c2, c3, c4, c5][j]? = some c -> P.underlying f.type = some (.int .i64) -> ∃ x : Int, c = .int .i64 x /\ I63 x := by
   intro j f c hj hc hu
   obtain ⟨z, hz⟩ := one j f c hj hc
   obtain ⟨x, hx1, _, hw⟩ := DataW.trod_int hu hz
   simp only [List.cons.injEq, and_true] at hx1
   exact ⟨x, hx1, i63_of hw⟩
  obtain ⟨x0, rfl, _⟩ := int 0 f0 c0 rfl rfl h0
  obtain ⟨x1, rfl, _⟩ := int 1 f1 c1 rfl rfl h1
  obtain ⟨x2, rfl, _⟩ := int 2 f2 c2 rfl rfl h2
  obtain ⟨x3, rfl, hx3⟩ := int 3 f3 c3 rfl rfl h3
  obtain ⟨x4, rfl, _⟩ := int 4 f4 c4 rfl rfl h4
  obtain ⟨z, hz⟩ := one 5 f5 c5 rfl rfl
  obtain ⟨s, l, rfl, q1, q2, q3, q4⟩ := ints_open h5 hCi hei hz
  exact ⟨⟨x0, x1, x2, x3, x4, l⟩, s, rfl, q1, q2, hx3, q3, q4⟩
theorem act_open {b0 : Nat} {t ei : TypeId} {f0 f1 f2 f3 f4 f5 : Field} {v : Value} {d : DataW H} {ps : List MemPlace}
 (ht : P.underlying t = some (.struct #[f0, f1, f2, f3, f4, f5])) (hone : oneCellFields P #[f0, f1, f2, f3, f4, f5] = true) (hC : P.cellsOf t = 6)
 (h0 : P.underlying f0.type = some (.int .i64)) (h1 : P.underlying f1.type = some (.int .i64)) (h2 : P.underlying f2.type = some (.int .i64)) (h3 : P.underlying f3.type = some (.int .i64)) (h4 : P.underlying f4.type = some (.int .i64)) (h5 : P.underlying f5.type = some (.slice ei)) (hCi : P.cellsOf ei = 1) (hei : P.underlying ei = some (.int .i64))
 (hval : Value.okWide P w .any b0 t v) (h : DataW.Trod enc P w 0 (fun _ => true) true t v d ps) :
 ∃ (x : Act) (s : Sl), v = .agg #[.int .i64 x.kd, .int .i64 x.ar, .int .i64 x.cl, .int .i64 x.a, .int .i64 x.b, .slice s.a s.len s.cap] /\ SlR s 1 (intsI x.l) w.heap (fun b => b < w.heap.size) /\ s.len <= s.cap /\ I63 x.a /\ (∀ z ∈ x.l, I63 z) /\ x.l.length <= 9223372036854775807 := by
 unfold Value.okWide at hval
 rw [ht] at hval
 obtain ⟨cs, rfl, hsz, _⟩ := hval
 obtain ⟨fuel, hf⟩ := h
 obtain ⟨x, s, hcs, rest⟩ := act_cells ht hone hC h0 h1 h2 h3 h4 h5 hCi hei hf
 refine ⟨x, s, ?_, rest⟩
 obtain ⟨l⟩ := cs
 have : l = _ := hcs
 rw [this]
theorem acts6_open {t e ei : TypeId} {f0 f1 f2 f3 f4 f5 : Field} {a : Option Addr} {len cap : Nat} {d : DataW H} {ps : List MemPlace}
 (htl : P.underlying t = some (.slice e)) (ht : P.underlying e = some (.struct #[f0, f1, f2, f3, f4, f5])) (hone : oneCellFields P #[f0, f1, f2, f3, f4, f5] = true) (hC : P.cellsOf e = 6)
 (h0 : P.underlying f0.type = some (.int .i64)) (h1 : P.underlying f1.type = some (.int .i64)) (h2 : P.underlying f2.type = some (.int .i64)) (h3 : P.underlying f3.type = some (.int .i64)) (h4 : P.underlying f4.type = some (.int .i64)) (h5 : P.underlying f5.type = some (.slice ei)) (hCi : P.cellsOf ei = 1) (hei : P.underlying ei = some (.int .i64))
 (h : DataW.Trod enc P w 0 (fun _ => true) true t (.slice a len cap) d ps) : ∃ us, Acts6 w.heap w.heap.size ⟨a, len, cap⟩ us /\ us.length <= 9223372036854775807 := by
 obtain ⟨fuel, hf⟩ := h
 rcases open_slice htl hf with ⟨hcs, _⟩ | ⟨ad, len', cap', m, n, D, Pl, hcs, _, hl, hm, hmm, hx, hi⟩
 ·simp [Value.cells] at hcs
  obtain ⟨rfl, rfl, rfl⟩ := hcs
  exact ⟨[], ⟨rfl, fun i x hx => by simp at hx, by simp, Nat.le_refl _⟩, by simp⟩
 ·simp [Value.cells] at hcs
  obtain ⟨rfl, rfl, rfl⟩ := hcs
  have hmc : m = cap := by simpa using hmm
  have key : ∀ i, i < len -> ∃ u : Act × Sl, (∀ j v, [Value.int .i64 u.1.kd, .int .i64 u.1.ar, .int .i64 u.1.cl, .int .i64 u.1.a, .int .i64 u.1.b, .slice u.2.a u.2.len u.2.cap][j]? = some v -> cell w.heap ((ad.add (i * 6)).add j) = some v) ∧
   SlR u.2 1 (intsI u.1.l) w.heap (fun b => b < w.heap.size) /\ u.2.len <= u.2.cap /\ I63 u.1.a /\ (∀ z ∈ u.1.l, I63 z) := by
   intro i hil
   obtain ⟨cs', hc, ht'⟩ := hi i (by omega)
   rw [hC] at hc
   obtain ⟨x, s, hcs, q1, q2, q3, q4, _⟩ := act_cells ht hone hC h0 h1 h2 h3 h4 h5 hCi hei ht'
   obtain ⟨_, hcl, hat⟩ := World.cells?_some hc
   refine ⟨(x, s), fun j v hv => ?_, q1, q2, q3, q4⟩
   have hj := (List.getElem?_eq_some_iff.1 hv).1
   have := hat j (by simpa using hj)
   rw [hcs] at this
   rw [hv] at this
   exact this
  let g : Nat -> Act := fun i => if hi : i < len then (key i hi).choose.1 else ⟨0, 0, 0, 0, 0, []⟩
  have hg : ∀ i, (hi : i < len) -> g i = (key i hi).choose.1 := fun i hi => by simp only [g, hi, dif_pos]
  refine ⟨(List.range len).map g, ⟨by simp, fun i x hx => ?_, fun x hx => ?_, Nat.le_refl _⟩, ?_⟩
  ·have hil : i < len := by
    have := (List.getElem?_eq_some_iff.1 hx).1
    simpa using this
   have hgx : g i = x := by simpa [hil] using hx
   rw [hg i hil] at hgx
   obtain ⟨⟨x', s2⟩, hu, hc, q1, q2, _⟩ : ∃ u : Act × Sl, u.1 = x /\ (∀ j v, [Value.int .i64 u.1.kd, .int .i64 u.1.ar, .int .i64 u.1.cl, .int .i64 u.1.a, .int .i64 u.1.b, .slice u.2.a u.2.len u.2.cap][j]? = some v -> cell w.heap ((ad.add (i * 6)).add j) = some v) ∧
    SlR u.2 1 (intsI u.1.l) w.heap (fun b => b < w.heap.size) /\ u.2.len <= u.2.cap /\ I63 u.1.a /\ (∀ z ∈ u.1.l, I63 z) := ⟨_, hgx, (key i hil).choose_spec⟩
   have hu : x' = x := hu
   subst hu
   simp only at hc q1 q2
   have hz0 := (key 0 (by omega)).choose_spec.1
   have hz1 := hz0 0 _ rfl
   have hsp := cell_lt hz1
   simp only [Nat.zero_mul, Addr.add_zero'] at hsp
   obtain ⟨b, o, s⟩ := ad
   have hs : s = none := hsp.2
   subst hs
   rw [add_lit] at hc
   refine ⟨b, o, _, rfl, hsp.1, ?_, ?_, ?_, ?_, ?_, ?_, q1, q2⟩
   ·have := hc 0 _ rfl; rw [add_lit] at this; exact this
   ·have := hc 1 _ rfl; rw [add_lit] at this; exact this
   ·have := hc 2 _ rfl; rw [add_lit] at this; exact this
   ·have := hc 3 _ rfl; rw [add_lit] at this; exact this
   ·have := hc 4 _ rfl; rw [add_lit] at this; exact this
   ·have := hc 5 _ rfl; rw [add_lit] at this; exact this
  ·obtain ⟨i, hi, rfl⟩ := List.mem_map.1 hx
   have hil := List.mem_range.1 hi
   rw [hg i hil]
   obtain ⟨_, _, _, q3, q4⟩ := (key i hil).choose_spec
   exact ⟨q3, q4⟩
  ·have : maxLen = 9223372036854775807 := rfl
   simp; omega
end
end Go.Ar