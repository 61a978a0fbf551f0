/- Texts joined. -/
import Derived.Test.YtmjjhknmbflfhaaGreatDoorRows
import Derived.ChangeVars
import Derived.JoinedOf
import Derived.RowKit
import Derived.WalkKit
import Derived.ProofKit
import Derived.OpenShut
import Derived.ChangeOld
import Derived.Carry
import Derived.Test.YtmjjhknmbflfhaaGreatDoorV5
set_option linter.unusedVariables false
set_option linter.unusedSimpArgs false
namespace Go.Ar
open Go Go.Vc Go.Proofs
open Go.Bu (runOk giveS takeAt cnt)


variable {σ : Hp} {xs : List (Int × Int × Int)}
theorem ownsA_iff {A : AR} {p : Nat} : ownsA A (p : Int) = true ↔ A.f p ≠ 0 := by
 unfold ownsA AR.f gf
 rw [decide_eq_true (show (0 : Int) <= (p : Int) by omega), Bool.true_and, Int.toNat_natCast, decide_eq_true_eq]
end Go.Ar
namespace Go.Proofs
open Go.Vc

set_option maxRecDepth 100000
def freeholdlaw10_ArenaApart.hint : Hn := .seq (.o 1) (.seq (.seq (.o 2) (.cond (.seq (.o 2) (.leaf)) (.leaf))) (.seq (.o 11) (.seq (.seq (.o 2) (.cond (.seq (.reg (.seq [.op, .op, .op, .op, .grd true 1 [.op], .op])) (.leaf)) (.leaf))) (.seq (.o 9) (.seq (.seq (.o 1) (.block (.loop [(14, .one (.i .i64))] (.seq (.seq (.o 7) (.cond (.leaf) (.leaf))) (.seq (.block (.seq (.o 9) (.seq (.seq (.reg (.heldJ true [] [(86, .one .b)] (.take 0 (.take 1 (.take 2 (.take 3 (.split 67 (.take 4 (.take 5 (.take 6 (.take 7 (.take 8 (.take 9 (.take 10 (.take 11 (.take 12 (.take 13 (.take 14 (.take 15 (.take 16 (.take 17 (.take 18 (.take 19 (.take 20 (.take 21 (.take 22 (.done)))))))))))))))))))) (.take 4 (.take 5 (.take 6 (.take 7 (.take 8 (.take 9 (.take 10 (.take 11 (.take 12 (.all [(13, .take 14 (.take 15 (.take 16 (.take 17 (.split 81 (.take 18 (.take 19 (.take 20 (.take 21 (.take 22 (.done)))))) (.take 18 (.all [(19, .take 20 (.take 21 (.take 22 (.done))))])))))))]))))))))))))))))) (.cond (.seq (.o 1) (.leaf)) (.leaf))) (.seq (.o 3) (.block (.loop [(16, .one (.i .i64))] (.seq (.seq (.o 7) (.cond (.leaf) (.leaf))) (.seq (.block (.seq (.o 8) (.seq (.reg (.heldJ true [] [(134, .one .b)] (.take 0 (.take 1 (.take 2 (.take 3 (.take 4 (.take 5 (.take 6 (.split 111 (.take 7 (.take 8 (.take 9 (.take 10 (.take 11 (.take 12 (.take 13 (.take 14 (.take 15 (.take 16 (.take 17 (.take 18 (.take 19 (.take 20 (.take 21 (.take 22 (.take 23 (.take 24 (.take 25 (.take 26 (.take 27 (.take 28 (.take 29 (.done)))))))))))))))))))))))) (.take 7 (.take 8 (.take 9 (.take 10 (.take 11 (.take 12 (.all [(13, .take 14 (.take 15 (.take 16 (.split 121 (.take 17 (.take 18 (.take 19 (.take 20 (.take 21 (.take 22 (.take 23 (.take 24 (.take 25 (.take 26 (.take 27 (.take 28 (.take 29 (.done)))))))))))))) (.take 17 (.take 18 (.take 19 (.take 21 (.take 25 (.take 26 (.all [(20, .all [(22, .take 23 (.all [(24, .all [(27, .take 28 (.take 29 (.done)))])]))]), (22, .all [(20, .take 23 (.all [(24, .all [(27, .take 28 (.take 29 (.done)))])]))])])))))))))))]))))))))))))))))) (.cond (.seq (.o 1) (.leaf)) (.leaf))))) (.o 3))))))))) (.o 3)))))) (.seq (.seq (.o 1) (.block (.loop [(17, .one (.i .i64))] (.seq (.seq (.o 7) (.cond (.leaf) (.leaf))) (.seq (.block (.seq (.o 1) (.seq (.seq (.o 1) (.block (.loop [(18, .one (.i .i64)), (19, .one (.i .i64))] (.seq (.seq (.o 7) (.cond (.leaf) (.leaf))) (.seq (.block (.seq (.o 9) (.cond (.o 3) (.leaf)))) (.o 3)))))) (.seq (.reg (.seq [.op, .op, .op, .grd false 10 [.op, .op, .op, .op, .op, .op, .op, .op, .op, .op], .op, .grd false 6 [.op, .op, .op, .grd true 2 [.op, .op]]])) (.cond (.seq (.o 1) (.leaf)) (.leaf)))))) (.o 3)))))) (.seq (.o 2) (.leaf))))))))
def freeholdlaw10_ArenaApart.vc (table : Sl) (pages : Int) (many : Int) (room : Int) (l : Sl) (σ : Hp) (R : Bool -> Hp -> Prop) : Prop :=
 freeholdlaw10_great.call l σ fun t21 v =>
 If t21 (freeholdlaw10_alive.call v fun t22 v1 =>
 R t22 v1)
 (freeholdlaw10_world.call table pages many room l v fun t29 t291 v2 =>
 If (!t291) (freeholdref01_Valid.call table v2 fun t35 v3 =>
 JnB (fun r v4 =>
 R r v4) fun J =>
 If (!t35) (freeholdlaw10_alive.call v3 fun t38 v5 =>
 J t38 v5)
 (J false v3))
 (NilP t29 fun a41 =>
 LdP (a41.add 0) v2 fun t43 =>
 space_Space_Pages.call t43 v2 fun t44 v6 =>
 Ar .i64 (t44 * 256) fun t45 =>
 Nz 8 <| Ar .i64 (t45.tdiv 8) fun t46 =>
 Mk t46 t46 8 3 [.int .i64 0] v6 fun told v7 =>
 LoopK [(.i .i64)] (fun I => I 0 v7) fun J1 (i : Int) v8 =>
 NilP t29 fun a50 =>
 LdS (a50.add 3) v8 fun t52 =>
 If (decide (i < ((t52.len : Nat) : Int))) (NilP t29 fun a58 =>
 LdS (a58.add 3) v8 fun t60 =>
 Ix t60.a t60.len i 5 fun a62 =>
 LdI .i64 (a62.add 0) v8 fun t63 =>
 LdI .i64 (a62.add 1) v8 fun t631 =>
 LdI .i64 (a62.add 2) v8 fun t632 =>
 LdI .i64 (a62.add 3) v8 fun t633 =>
 LdB (a62.add 4) v8 fun t634 =>
 Nw (.cells #[.int .i64 0, .int .i64 0, .int .i64 0, .int .i64 0, .bool false] 39 (0, 0)) v8 fun n15 v9 =>
 St1 (n15.add 0) (.int .i64 t63) v9 fun v10 =>
 St1 (n15.add 1) (.int .i64 t631) v10 fun v11 =>
 St1 (n15.add 2) (.int .i64 t632) v11 fun v12 =>
 St1 (n15.add 3) (.int .i64 t633) v12 fun v13 =>
 St1 (n15.add 4) (.bool t634) v13 fun v14 =>
 Jn [.b] (fun (t86 : Bool) v15 =>
 If t86 (R false v15)
 (LdI .i64 (n15.add 2) v15 fun n =>
 LoopK [(.i .i64)] (fun I1 => I1 n v15) fun J3 (n1 : Int) v16 =>
 LdI .i64 (n15.add 2) v16 fun t91 =>
 LdI .i64 (n15.add 3) v16 fun t93 =>
 Ar .i64 (t91 + t93) fun t94 =>
 If (decide (n1 < t94)) (Nz 8 <| Ar .i64 (n1.tdiv 8) fun t100 =>
 Ix told.a told.len t100 1 fun a101 =>
 LdI .i64 a101 v16 fun t102 =>
 Ar .i64 (t102 + 1) fun t103 =>
 Ix told.a told.len t100 1 fun a104 =>
 St1 a104 (.int .i64 t103) v16 fun v17 =>
 Jn [.b] (fun (t134 : Bool) v18 =>
 If t134 (R false v18)
 (Ar .i64 (n1 + 8) fun n2 =>
 J3 n2 v18)) fun J4 =>
 Held v17 fun S1 =>
 Nz 8 <| Ar .i64 (n1.tdiv 8) fun t107 =>
 Ix told.a told.len t107 1 fun a108 =>
 LdH S1 (.i .i64) a108 fun (t109 : Int) =>
 If (decide (t109 > 1)) (J4 true v17)
 (NilP t29 fun a113 =>
 LdH S1 .p (a113.add 0) fun (t115 : Option Addr) =>
 Nz 256 <| Ar .i64 (n1.tdiv 256) fun t117 =>
 space_Space_State.call t115 t117 v17 fun t118 v19 =>
 And (S1 v19) <|
 If (decide (t118 < 1)) (J4 true v19)
 (NilP t29 fun a123 =>
 Nz 256 <| Ar .i64 (n1.tdiv 256) fun t131 =>
 (LdS (a123.add 1) v19 fun t125 =>
 And (S1 v19) <|
 LdI .i64 (n15.add 0) v19 fun t127 =>
 And (S1 v19) <|
 Ix t125.a t125.len t127 1 fun a128 =>
 LdP a128 v19 fun t129 =>
 And (S1 v19) <|
 arena_Arena_Owns.call t129 t131 v19 fun t132 v20 =>
 And (S1 v20) <|
 J4 (!t132) v20) ∧
 (LdI .i64 (n15.add 0) v19 fun t1271 =>
 And (S1 v19) <|
 LdS (a123.add 1) v19 fun t1251 =>
 And (S1 v19) <|
 Ix t1251.a t1251.len t1271 1 fun a1281 =>
 LdP a1281 v19 fun t1291 =>
 And (S1 v19) <|
 arena_Arena_Owns.call t1291 t131 v19 fun t1321 v21 =>
 And (S1 v21) <|
 J4 (!t1321) v21))))
 (Ar .i64 (i + 1) fun i1 =>
 J1 i1 v16))) fun J2 =>
 Held v14 fun S =>
 LdH S (.i .i64) (n15.add 2) fun (t65 : Int) =>
 If (decide (t65 < 256)) (J2 true v14)
 (LdH S (.i .i64) (n15.add 2) fun (t69 : Int) =>
 LdH S (.i .i64) (n15.add 3) fun (t71 : Int) =>
 Ar .i64 (t69 + t71) fun t72 =>
 NilP t29 fun a74 =>
 LdH S .p (a74.add 0) fun (t76 : Option Addr) =>
 space_Space_Pages.call t76 v14 fun t77 v22 =>
 And (S v22) <|
 Ar .i64 (t77 * 256) fun t78 =>
 If (decide (t72 > t78)) (J2 true v22)
 (LdI .i64 (n15.add 2) v22 fun t83 =>
 And (S v22) <|
 Nz 8 <|
 J2 ((t83.tmod 8) != 0) v22)))
 (LoopK [(.i .i64)] (fun I2 => I2 0 v8) fun J5 (p : Int) v23 =>
 NilP t29 fun a137 =>
 LdP (a137.add 0) v23 fun t139 =>
 space_Space_Pages.call t139 v23 fun t140 v24 =>
 If (decide (p < t140)) (LoopK [(.i .i64), (.i .i64)] (fun I3 => I3 0 0 v24) fun J6 (n3 : Int) (k : Int) v25 =>
 NilP t29 fun a146 =>
 LdS (a146.add 1) v25 fun t148 =>
 If (decide (k < ((t148.len : Nat) : Int))) (NilP t29 fun a154 =>
 LdS (a154.add 1) v25 fun t156 =>
 Ix t156.a t156.len k 1 fun a158 =>
 LdP a158 v25 fun t159 =>
 arena_Arena_Owns.call t159 p v25 fun t161 v26 =>
 If t161 (Ar .i64 (n3 + 1) fun n4 =>
 Ar .i64 (k + 1) fun k1 =>
 J6 n4 k1 v26)
 (Ar .i64 (k + 1) fun k2 =>
 J6 n3 k2 v26))
 (JnB (fun r1 v27 =>
 JnB (fun r2 v28 =>
 If r2 (R false v28)
 (Ar .i64 (p + 1) fun p1 =>
 J5 p1 v28)) fun J8 =>
 If r1 (J8 true v27)
 (JnB (fun r3 v29 =>
 J8 r3 v29) fun J9 =>
 If (p == 0) (J9 (decide (n3 > 0)) v27)
 (J9 false v27))) fun J7 =>
 If (decide (n3 > 1)) (J7 true v25)
 (NilP t29 fun a170 =>
 LdP (a170.add 0) v25 fun t172 =>
 space_Space_State.call t172 p v25 fun t174 v30 =>
 J7 (!((n3 == 1) == (decide (t174 > 0)))) v30)))
 (freeholdlaw10_alive.call v24 fun t186 v31 =>
 R t186 v31))))
theorem freeholdlaw10_ArenaApart.of_vc {table : Sl} {pages : Int} {many : Int} {room : Int} {l : Sl} {σ : Hp} {R : Bool -> Hp -> Prop} (hv : freeholdlaw10_ArenaApart.vc table pages many room l σ R) : freeholdlaw10_ArenaApart.call table pages many room l σ R :=
 fnK_sound Tryz.func7 (x := freeholdlaw10_ArenaApart.hint) (args := [.slice table.a table.len table.cap, .int .u8 pages, .int .u8 many, .int .u8 room, .slice l.a l.len l.cap]) (rs := [.one .b]) (R := R) (Eq.mpr (by kernel_rfl) hv)
end Go.Proofs
namespace Go.Ar
open Go Go.Vc Go.Proofs
open Go.Bu (runOk giveS takeAt cnt)


variable {σ : Hp} {xs : List (Int × Int × Int)} {W : Wd} {F : Rg} {L : LayW}
theorem WI.addr8 (h : WI W) {p : Pc} (hp : p ∈ W.held) : p.addr % 8 = 0 /\ 256 <= p.addr /\ p.addr + p.size <= W.sp.st.length * 256 := by
 obtain ⟨A, hA, hh⟩ := h.hf p hp
 have ga := h.ga _ A hA
 have hs := h.size_pos hp
 have e1 := h.page hp hA (x := p.addr) (Nat.le_refl _) (by omega)
 have e2 := h.page hp hA (x := p.addr + p.size - 1) (by omega) (by omega)
 have hl : ¬ p.addr / 256 < 16 := fun hx => by have := h.low _ A hA _ hx; omega
 have hn : (p.addr + p.size - 1) / 256 < A.n := ga.pg.lt (by omega)
 have hAn : A.n = W.sp.st.length := (h.ow _ A hA).l.symm
 refine ⟨?_, by omega, by omega⟩
 rcases hh with ⟨_, _, r, hr, h1, h2⟩ | ⟨j, c, _, hc, h2, h3, _⟩
 ·omega
 ·obtain ⟨c', ss, hcl, ht⟩ := h3
  have : c' = c := Option.some.inj (hcl.1.symm.trans hc)
  subst this
  have hC := ga.cen j _ ss hcl
  have hok := hC.ok
  unfold Cls.ok at hok
  obtain ⟨l, s, i, _, _, e, _⟩ := (Tk_iff hC).1 ht
  have e' : p.addr = at_ c' s i := Int.ofNat.inj e
  unfold at_ at e'
  obtain ⟨m, hm⟩ : ∃ m, c'.size = 8 * m := ⟨c'.size / 8, by omega⟩
  rw [hm, show i * (8 * m) = 8 * (i * m) by rw [Nat.mul_left_comm]] at e'
  omega
def covB (l : List Pc) (w : Nat) : Bool := l.any fun p => decide (p.addr <= 8 * w) && decide (8 * w < p.addr + p.size)
theorem covB_snoc (l : List Pc) (p : Pc) (w : Nat) : covB (l ++ [p]) w = (covB l w || (decide (p.addr <= 8 * w) && decide (8 * w < p.addr + p.size))) := by
 unfold covB; rw [List.any_append]; simp
theorem WI.fresh (h : WI W) {i : Nat} {p : Pc} (hp : W.held[i]? = some p) {w : Nat} (h1 : p.addr <= 8 * w) (h2 : 8 * w < p.addr + p.size) : covB (W.held.take i) w = false := by
 apply Bool.eq_false_iff.2
 intro hc
 unfold covB at hc
 obtain ⟨q, hq, hc⟩ := List.any_eq_true.1 hc
 simp only [Bool.and_eq_true, decide_eq_true_eq] at hc
 have hqm := List.mem_of_mem_take hq
 have e : p = q := h.apart (List.mem_of_getElem? hp) hqm (x := 8 * w) h1 h2 hc.1 hc.2
 subst e
 obtain ⟨j, hj⟩ := List.getElem?_of_mem hq
 have hjl := (List.getElem?_eq_some_iff.1 hj).1
 rw [List.length_take] at hjl
 rw [List.getElem?_take_of_lt (by omega)] at hj
 obtain ⟨hi1, hi2⟩ := List.getElem?_eq_some_iff.1 hp
 obtain ⟨hj1, hj2⟩ := List.getElem?_eq_some_iff.1 hj
 have := List.pairwise_iff_getElem.1 h.hk j i (by simpa using hj1) (by simpa using hi1) (by omega)
 simp only [List.getElem_map, hi2, hj2] at this
 exact this rfl
def ownK (l : List AR) (p : Nat) : Nat := l.countP fun A => ownsA A (p : Int)
theorem ownK_snoc (l : List AR) (A : AR) (p : Nat) : ownK (l ++ [A]) p = ownK l p + if ownsA A (p : Int) then 1 else 0 := by
 unfold ownK
 rw [List.countP_append]
 cases h : ownsA A (p : Int) <;> simp [h]
theorem ownK_one (h : WI W) (p : Nat) : ∀ k, k <= W.ars.length -> ownK (W.ars.take k) p <= 1 /\ (ownK (W.ars.take k) p = 1 ↔ ∃ (j : Nat) (A : AR), j < k /\ W.ars[j]? = some A /\ A.f p ≠ 0) := by
 intro k
 induction k with
 | zero => intro _; refine ⟨by simp [ownK], ⟨fun h => by simp [ownK] at h, fun ⟨j, A, hj, _⟩ => by omega⟩⟩
 | succ k ih =>
  intro hk
  obtain ⟨i1, i2⟩ := ih (by omega)
  have hk' : k < W.ars.length := by omega
  have hA : W.ars[k]? = some W.ars[k] := List.getElem?_eq_getElem hk'
  generalize W.ars[k] = A at hA
  rw [List.take_add_one, hA, Option.toList_some, ownK_snoc]
  by_cases ho : ownsA A (p : Int) = true
  ·rw [if_pos ho]
   have hf := ownsA_iff.1 ho
   have h0 : ownK (W.ars.take k) p = 0 := by
    have : ¬ ownK (W.ars.take k) p = 1 := fun e => by
     obtain ⟨j, B, hj, hB, hBf⟩ := i2.1 e
     have := h.one p j k B A hB hA hBf hf
     omega
    omega
   rw [h0]
   exact ⟨Nat.le_refl _, ⟨fun _ => ⟨k, A, by omega, hA, hf⟩, fun _ => rfl⟩⟩
  ·rw [if_neg ho]
   refine ⟨by omega, ?_⟩
   show ownK (W.ars.take k) p = 1 ↔ _
   rw [i2]
   constructor
   ·rintro ⟨j, B, hj, hB, hBf⟩; exact ⟨j, B, by omega, hB, hBf⟩
   ·rintro ⟨j, B, hj, hB, hBf⟩
    refine ⟨j, B, ?_, hB, hBf⟩
    have : j ≠ k := by
     rintro rfl
     rw [hA] at hB; cases hB
     exact ho (ownsA_iff.2 hBf)
    omega
theorem apart_law (h : WI W) (p : Nat) : ownK W.ars p <= 1 /\ (ownK W.ars p = 1 ↔ gf W.sp.st p ≠ 0) /\ (p = 0 -> ownK W.ars p = 0) := by
 obtain ⟨i1, i2⟩ := ownK_one h p W.ars.length (Nat.le_refl _)
 rw [List.take_length] at i1 i2
 refine ⟨i1, ?_, fun hp => ?_⟩
 ·rw [i2]
  constructor
  ·rintro ⟨j, A, _, hA, hf⟩; exact (h.ow j A hA).own p hf
  ·intro hg
   obtain ⟨j, A, hA, hf⟩ := h.own p hg
   exact ⟨j, A, (List.getElem?_eq_some_iff.1 hA).1, hA, hf⟩
 ·have : ¬ ownK W.ars p = 1 := fun e => by
   obtain ⟨j, A, _, hA, hf⟩ := i2.1 e
   exact hf (h.low j A hA p (by omega))
  omega
theorem SStateN_ok {p : Nat} {sp : Sp} (h : SpH3 σ F p sp) (g : Gl σ) {y : Nat} (hy : y < sp.st.length) {R : Int -> Hp -> Prop} (hR : ∀ σ', Ext0 σ σ' -> R (gf sp.st y : Int) σ') : space_Space_State.call (some ⟨p, 0, none⟩) (y : Int) σ R := by
 refine SState_ok h g _ fun σ' e => ?_
 rw [if_pos (by omega)]
 exact hR σ' e
set_option maxRecDepth 8000 in
theorem LApart_ok (g : Gl σ) (gd : Gd σ) {table : Sl} (ht : Acts σ table xs) {pages many room : Int} (hp : 0 <= pages /\ pages <= 255) (hm : 0 <= many /\ many <= 255) (hr : 0 <= room /\ room <= 255)
 {l : Sl} {us : List Act} (hl : Acts6 σ σ.size l us) (hll : us.length <= 9223372036854775807) {R : Bool -> Hp -> Prop} (hR : ∀ σ', Ext0 σ σ' -> R true σ') : freeholdlaw10_ArenaApart.call table pages many room l σ R := by
 refine freeholdlaw10_ArenaApart.of_vc ?_
 unfold freeholdlaw10_ArenaApart.vc
 refine begin_ok g gd ht hp hm hr hl hll hR fun hv v2 L e2 hw => ?_
 have hlen := hw.d.wi.len
 generalize theW xs pages many room us = W at hw hlen
 have hn := hw.d.n
 have hk2 := hw.d.k2
 have wi := hw.d.wi
 refine nilP (hw.d.h.hd.rP rfl (pages_ok' hw.d.h (arN (m := W.sp.st.length * 256) (by simp) (by omega) (nz (by decide) (arN (m := W.sp.st.length * 32) (by rw [tdiv_nn (by omega)]; omega) (by omega) ?_)))))
 refine mk (by omega) (by omega) fun v7 z7 e7 b7 => ?_
 have hcs0 : (List.replicate (W.sp.st.length * 32) [Value.int .i64 0]).flatten = List.replicate (W.sp.st.length * 32) (Value.int .i64 0) := by
  generalize W.sp.st.length * 32 = n
  induction n with
  | zero => rfl
  | succ n ih => rw [List.replicate_succ, List.flatten_cons, ih, List.replicate_succ]; rfl
 rw [hcs0] at b7
 let T (f : Nat -> Bool) (v : Hp) : Prop := ∃ cs, Blk v v2.size cs /\ cs.length = W.sp.st.length * 32 /\ ∀ w, w < W.sp.st.length * 32 -> cs[w]? = some (Value.int .i64 (if f w then 1 else 0))
 refine loop1 (a := .i .i64) (fun (t : Int) w => ∃ i : Nat, t = (i : Int) /\ i <= W.held.length /\ Ext0 v2 w /\ T (covB (W.held.take i)) w) (fun t _ => W.held.length - t.toNat)
  ⟨0, rfl, by omega, e7, _, b7, by simp, fun w hw' => by rw [List.getElem?_replicate, if_pos hw']; rfl⟩ ?_
 rintro (lo : Int) v8 ⟨i, rfl, hi, e8, hT⟩
 have hw8 := hw.keep0 e8
 have h8 := hw8.d.h
 have hhl := h8.heldL
 refine nilP (h8.hd.rS rfl (ifD (fun hlt => ?_) fun hge => ?_))
 ·simp only at hlt
  have hi' : i < W.held.length := by omega
  have hpi : W.held[i]? = some W.held[i] := List.getElem?_eq_getElem hi'
  generalize W.held[i] = p at hpi
  have hpm := List.mem_of_getElem? hpi
  have hal := wi.addr_lt hpm
  have ha8 := wi.addr8 hpm
  have hsp := wi.size_pos hpm
  obtain ⟨A, hA, _⟩ := wi.hf p hpm
  refine nilP (h8.hd.rS rfl (pc_box h8.held.slR hpi fun v14 e14 bw => ?_))
  have h14 := (hw8.keep0 e14).d.h
  refine Jn.intro ⟨fun m => Ext0 v14 m, Ext.refl _ _, ⟨(p.addr : Int), fun m hm => by rw [add_lit, (Ext.blk hm bw id).cell]; rfl, ?_⟩⟩
  have hlow : ¬ ((p.addr : Nat) : Int) < 256 := by omega
  refine ifF (decide_eq_false hlow) ?_
  refine ⟨(p.addr : Int), fun m hm => by rw [add_lit, (Ext.blk hm bw id).cell]; rfl, ?_⟩
  refine ⟨(p.size : Int), fun m hm => by rw [add_lit, (Ext.blk hm bw id).cell]; rfl, ?_⟩
  refine arN (m := p.addr + p.size) (by simp) (by omega) (nilP ⟨some ⟨L.hs, 0, none⟩, fun m hm => by rw [add_lit, (Ext.blk hm h14.hd id).cell]; rfl, ?_⟩)
  refine pages_ok' h14 ⟨Ext.refl _ _, arN (m := W.sp.st.length * 256) (by simp) (by omega) (ifDF (by omega) (bw.rI rfl ⟨Ext.refl _ _, nz (by decide) ?_⟩))⟩
  refine ifF (by rw [tmod_nn (by omega)]; simp; omega) (bw.rI rfl ?_)
  have hbb : v2.size ≠ v8.size := by
   obtain ⟨cs, hb, _⟩ := hT
   have := hb.lt; omega
  refine loop1 (a := .i .i64) (fun (t : Int) w => ∃ m : Nat, t = ((p.addr + 8 * m : Nat) : Int) /\ 8 * m <= p.size /\ Ext0 v2 w /\ Blk w v8.size (pc1 p) /\ T (fun x => covB (W.held.take i) x || (decide (p.addr <= 8 * x) && decide (8 * x < p.addr + 8 * m))) w) (fun t _ => p.addr + p.size - t.toNat)
   ⟨0, by simp, by omega, Ext.trans e8 e14, bw, ?_⟩ ?_
  ·obtain ⟨cs, hb, c1, c2⟩ := hT
   refine ⟨cs, Ext.blk e14 hb id, c1, fun w hw' => ?_⟩
   rw [c2 w hw']
   have : (decide (p.addr <= 8 * w) && decide (8 * w < p.addr + 8 * 0)) = false := by
    apply Bool.eq_false_iff.2; simp only [ne_eq, Bool.and_eq_true, decide_eq_true_eq]; omega
   simp only [this, Bool.or_false]
  rintro (n1 : Int) v16 ⟨m, rfl, hm8, e16, b16, cs, hb, c1, c2⟩
  have c2 : ∀ w, w < W.sp.st.length * 32 -> cs[w]? = some (Value.int .i64 (if (covB (W.held.take i) w || (decide (p.addr <= 8 * w) && decide (8 * w < p.addr + 8 * m))) = true then 1 else 0)) := c2
  refine b16.rI rfl (b16.rI rfl (arN (m := p.addr + p.size) (by simp) (by omega) (ifD (fun hlt2 => ?_) fun hge2 => ?_)))
  ·have hw8' : 8 * m + 8 <= p.size := by omega
   obtain ⟨w, hwa⟩ : ∃ w, p.addr = 8 * w := ⟨p.addr / 8, by omega⟩
   have hwl : w + m < W.sp.st.length * 32 := by omega
   have hf0 : covB (W.held.take i) (w + m) = false := wi.fresh hpi (by omega) (by omega)
   have h0 : cs[w + m]? = some (Value.int .i64 0) := by
    rw [c2 _ hwl, hf0]
    have : (decide (p.addr <= 8 * (w + m)) && decide (8 * (w + m) < p.addr + 8 * m)) = false := by
     apply Bool.eq_false_iff.2; simp only [ne_eq, Bool.and_eq_true, decide_eq_true_eq]; omega
    rw [this]; rfl
   have tw : (((p.addr + 8 * m : Nat) : Int).tdiv 8) = ((w + m : Nat) : Int) := by rw [tdiv_nn (by omega)]; omega
   refine nz (by decide) (arN (m := w + m) tw (by omega) ?_)
   refine ix (by omega) (by simp only; omega) ?_
   rw [add_lit, show 0 + ((w + m : Nat) : Int).toNat * 1 = w + m by omega]
   refine hb.rI0 h0 (arN (m := 1) rfl (by omega) ?_)
   refine ix (by omega) (by simp only; omega) ?_
   rw [add_lit, show 0 + ((w + m : Nat) : Int).toNat * 1 = w + m by omega]
   refine hb.s0 (by rw [c1]; exact hwl) fun v17 o17 b17 => ?_
   have hbz : ¬ v2.size < v2.size := by omega
   have e17 : Ext0 v2 v17 := Ext.fresh e16 o17.ext fun b hb' => by omega
   have bp17 : Blk v17 v8.size (pc1 p) := o17.ext.blk b16 fun hx => hbb hx.symm
   have hw17 := hw.keep0 e17
   have h17 := hw17.d.h
   refine Jn.intro ⟨fun m => Ext0 v17 m, Ext.refl _ _, nz (by decide) (arN (m := w + m) tw (by omega) ?_)⟩
   refine ix (by omega) (by simp only; omega) ?_
   rw [add_lit, show 0 + ((w + m : Nat) : Int).toNat * 1 = w + m by omega]
   refine ⟨1, fun u hu => by rw [(Ext.blk hu b17 id).cell, List.getElem?_set_self (by rw [c1]; exact hwl)]; rfl, ifDF (by omega) ?_⟩
   refine nilP ⟨some ⟨L.hs, 0, none⟩, fun u hu => by rw [add_lit, (Ext.blk hu h17.hd id).cell]; rfl, ?_⟩
   generalize hpg : (p.addr + 8 * m) / 256 = pg
   have hAf : A.f pg = 1 := by rw [← hpg]; exact wi.page hpm hA (by omega) (by omega)
   have tp : (((p.addr + 8 * m : Nat) : Int).tdiv 256) = (pg : Int) := by rw [tdiv_nn (by omega)]; omega
   have hgf : gf W.sp.st pg ≠ 0 := (wi.ow _ A hA).own pg (by omega)
   refine nz (by decide) (arN (m := pg) tp (by omega) (SStateN_ok h17.sp (g.keep0 (Ext.trans e2 e17)) (gf_lt hgf) fun v19 e19 => ⟨e19, ifDF (by omega) ?_⟩))
   have hw19 := hw17.keep0 e19
   have h19 := hw19.d.h
   have b19 := Ext.blk e19 bp17 id
   obtain ⟨Y, hy, hYh, hAH⟩ := h19.ar hA
   have hown : ownsA A (pg : Int) = true := ownsA_iff.2 (by omega)
   have fin : If (!true) (R false v19) (Ar .i64 (((p.addr + 8 * m : Nat) : Int) + 8) fun n2 => (∃ m : Nat, n2 = ((p.addr + 8 * m : Nat) : Int) /\ 8 * m <= p.size /\ Ext0 v2 v19 /\ Blk v19 v8.size (pc1 p) /\ T (fun x => covB (W.held.take i) x || (decide (p.addr <= 8 * x) && decide (8 * x < p.addr + 8 * m))) v19) /\ p.addr + p.size - n2.toNat < p.addr + p.size - ((p.addr + 8 * m : Nat) : Int).toNat) := by
    refine ifF rfl (arN (m := p.addr + 8 * (m + 1)) (by omega) (by omega) ⟨⟨m + 1, rfl, by omega, Ext.trans e17 e19, b19, _, Ext.blk e19 b17 id, by rw [List.length_set]; exact c1, fun x hx => ?_⟩, by omega⟩)
    by_cases hxe : x = w + m
    ·subst hxe
     rw [List.getElem?_set_self (by rw [c1]; exact hwl)]
     have : (decide (p.addr <= 8 * (w + m)) && decide (8 * (w + m) < p.addr + 8 * (m + 1))) = true := by
      simp only [Bool.and_eq_true, decide_eq_true_eq]; omega
     show _ = some (Value.int .i64 (if (covB (W.held.take i) (w + m) || (decide (p.addr <= 8 * (w + m)) && decide (8 * (w + m) < p.addr + 8 * (m + 1)))) = true then 1 else 0))
     rw [this, Bool.or_true]; rfl
    ·rw [List.getElem?_set_ne (Ne.symm hxe), c2 x hx]
     have : (decide (p.addr <= 8 * x) && decide (8 * x < p.addr + 8 * m)) = (decide (p.addr <= 8 * x) && decide (8 * x < p.addr + 8 * (m + 1))) := by
      rw [Bool.eq_iff_iff]; simp only [Bool.and_eq_true, decide_eq_true_eq]; omega
     rw [this]
   refine nilP (nz (by decide) (arN (m := pg) tp (by omega) ⟨?_, ?_⟩))
   ·refine h19.hd.rS rfl ⟨e19, b19.rI rfl ⟨e19, h19.rA hy ⟨e19, Owns_ok hAH _ ⟨e19, ?_⟩⟩⟩⟩
    rw [hown]; exact fin
   ·refine b19.rI rfl ⟨e19, h19.hd.rS rfl ⟨e19, h19.rA hy ⟨e19, Owns_ok hAH _ ⟨e19, ?_⟩⟩⟩⟩
    rw [hown]; exact fin
  ·have hmm : 8 * m = p.size := by omega
   refine arN (m := i + 1) (by omega) (by omega) ⟨⟨i + 1, rfl, by omega, e16, cs, hb, c1, fun x hx => ?_⟩, by omega⟩
   rw [c2 x hx, List.take_add_one, hpi, Option.toList_some, covB_snoc, hmm]
 ·refine loop1 (a := .i .i64) (fun (t : Int) w => ∃ q : Nat, t = (q : Int) /\ q <= W.sp.st.length /\ Ext0 v8 w) (fun t _ => W.sp.st.length - t.toNat) ⟨0, rfl, by omega, Ext.refl _ _⟩ ?_
  rintro (t : Int) v23 ⟨q, rfl, hq, e23⟩
  have hw23 := hw8.keep0 e23
  have h23 := hw23.d.h
  refine nilP (h23.hd.rP rfl (pages_ok' h23 (ifD (fun hlt => ?_) fun hge2 => ?_)))
  ·refine loop2 (a := .i .i64) (bb := .i .i64) (fun (n : Int) (t : Int) w => ∃ k : Nat, t = (k : Int) /\ k <= W.ars.length /\ w = v23 /\ n = ((ownK (W.ars.take k) q : Nat) : Int)) (fun _ t _ => W.ars.length - t.toNat) ⟨0, rfl, by omega, rfl, rfl⟩ ?_
   rintro (n : Int) (t : Int) v25 ⟨k, rfl, hk, rfl, rfl⟩
   have harl := h23.arowL
   refine nilP (h23.hd.rS rfl (ifD (fun hlt2 => ?_) fun hge3 => ?_))
   ·simp only at hlt2
    have hk' : k < W.ars.length := by omega
    have hA : W.ars[k]? = some W.ars[k] := List.getElem?_eq_getElem hk'
    generalize W.ars[k] = A at hA
    obtain ⟨Y, hy, hYh, hAH⟩ := h23.ar hA
    refine nilP (h23.hd.rS rfl (h23.rA hy (Owns_ok hAH _ ?_)))
    have hs := ownK_snoc (W.ars.take k) A q
    have hle := (ownK_one wi q k (by omega)).1
    have htk : W.ars.take (k + 1) = W.ars.take k ++ [A] := by rw [List.take_add_one, hA]; rfl
    rw [← htk] at hs
    refine iff_ (fun ho => ?_) fun ho => ?_
    ·rw [if_pos ho] at hs
     exact arN (m := ownK (W.ars.take k) q + 1) (by omega) (by omega) (arN (m := k + 1) (by omega) (by omega) ⟨⟨k + 1, rfl, by omega, rfl, by rw [hs]⟩, by omega⟩)
    ·rw [if_neg (by simp [ho])] at hs
     exact arN (m := k + 1) (by omega) (by omega) ⟨⟨k + 1, rfl, by omega, rfl, by rw [hs]; rfl⟩, by omega⟩
   ·have hkk : k = W.ars.length := by simp only at hge3; omega
    subst hkk
    rw [List.take_length]
    obtain ⟨a1, a2, a3⟩ := apart_law wi q
    refine JnB.intro (ifDF (by omega) (nilP (h23.hd.rP rfl (SStateN_ok h23.sp (g.keep0 (Ext.trans (Ext.trans e2 e8) e23)) (by omega) fun v30 e30 => ?_))))
    have e1 : ((((ownK W.ars q : Nat) : Int) == 1) == decide ((gf W.sp.st q : Int) > 0)) = true := by
     rw [Bool.eq_iff_iff]
     simp only [beq_iff_eq, iff_true]
     rw [Bool.eq_iff_iff]
     simp only [beq_iff_eq, decide_eq_true_eq]
     have : ((ownK W.ars q : Nat) : Int) = 1 ↔ ownK W.ars q = 1 := by omega
     rw [this, a2]; omega
    have next : ∀ r, r = false -> If r (R false v30) (Ar .i64 ((q : Int) + 1) fun p1 => (∃ q : Nat, p1 = (q : Int) /\ q <= W.sp.st.length /\ Ext0 v8 v30) /\ W.sp.st.length - p1.toNat < W.sp.st.length - (q : Int).toNat) := fun r hr =>
     ifF hr (arN (m := q + 1) (by omega) (by omega) ⟨⟨q + 1, rfl, by omega, Ext.trans e23 e30⟩, by omega⟩)
    refine JnB.intro (ifF (by rw [e1]; rfl) (JnB.intro (iff_ (fun h0 => next _ ?_) fun h0 => next _ rfl)))
    have : q = 0 := by simpa using h0
    rw [a3 this]; rfl
  ·exact alive_ok (g.keep0 (Ext.trans (Ext.trans e2 e8) e23)) fun v9 e9 => hR v9 (Ext.trans (Ext.trans (Ext.trans e2 e8) e23) e9)
end Go.Ar
namespace Go.Ar
open Go Go.Vc Go.Proofs Go.ChangeShapes Go.WideShapes Go.RowKit Go.Deep


theorem bool_of_trod {H : Type} {enc : TypeId × Value -> H} {P : Program} {w : World} {base : Nat} {sp : Nat -> Bool} {held : Bool} {fuel : Nat} {t : TypeId} {c : Value} {y : DataW H × List MemPlace}
 (ht : P.underlying t = some .bool) (h : DataW.trod enc P w base sp held fuel t [c] = some y) : ∃ n, c = .bool n /\ y = (.lit (.bool n), []) := by
 cases fuel with
 | zero => simp [DataW.trod] at h
 | succ fuel =>
  cases c <;> simp [DataW.trod, ht] at h
  rename_i n
  exact ⟨n, rfl, by simpa using h.symm⟩
theorem two_cells {P : Program} {w : World} {t : TypeId} {f0 f1 : Field} {cs : Array Value} {fuel : Nat} {p : List MemPlace} {x y : Bool} (ht : P.underlying t = some (.struct #[f0, f1])) (hone : oneCellFields P #[f0, f1] = true) (hC : P.cellsOf t = 2)
 (h0 : P.underlying f0.type = some .bool) (h1 : P.underlying f1.type = some .bool) (h : DataW.trod (fun _ => ()) P w 0 (fun _ => true) false fuel t cs.toList = some (.agg [.lit (.bool x), .lit (.bool y)], p)) : cs = #[.bool x, .bool y] := by
 obtain ⟨ys, n, hn, hy, hlen, hyl, hff⟩ := DataW.trod_struct ht h
 obtain ⟨l⟩ := cs
 have hl2 : l.length = 2 := by rw [← hC]; simpa using hlen
 match l, hl2 with
 | [c0, c1], _ =>
  have k0 := hff 0 f0 rfl
  have k1 := hff 1 f1 rfl
  obtain ⟨o0, q0⟩ := hone_of hone 0 f0 rfl
  obtain ⟨o1, q1⟩ := hone_of hone 1 f1 rfl
  rw [o0, q0] at k0
  rw [o1, q1] at k1
  match ys, hyl with
  | [y0, y1], _ =>
   obtain ⟨n0, rfl, e0⟩ := bool_of_trod h0 (c := c0) (y := y0) (by simpa using k0)
   obtain ⟨n1, rfl, e1⟩ := bool_of_trod h1 (c := c1) (y := y1) (by simpa using k1)
   subst e0; subst e1
   simp at hy
   obtain ⟨⟨rfl, rfl⟩, _⟩ := hy
   rfl
theorem cell_of {w : World} {a : Addr} {v : Value} (h : w.cell? a = some v) : cell w.heap a = some v := h
end Go.Ar
namespace Go.Ar
open Go Go.Vc Go.Proofs Go.ChangeShapes Go.WideShapes Go.RowKit Go.Deep


section
variable {H : Type} {enc : TypeId × Value -> H} {P : Program} {w : World}
theorem i63_of {x : Int} (h : (Lit.int .i64 x).wf = true) : I63 x := by
 unfold I63
 simp [Lit.wf, IntKind.min, IntKind.max, IntKind.bits, IntKind.signed] at h
 omega
theorem u8_of {x : Int} (h : (Lit.int .u8 x).wf = true) : 0 <= x /\ x <= 255 := by
 simp [Lit.wf, IntKind.min, IntKind.max, IntKind.bits, IntKind.signed] at h
 omega
theorem ints_open {t e : TypeId} {fuel : Nat} {c : Value} {y : DataW H × List MemPlace} (ht : P.underlying t = some (.slice e)) (hC : P.cellsOf e = 1) (he : P.underlying e = some (.int .i64)) (h : DataW.trod enc P w 0 (fun _ => true) true fuel t [c] = some y) :
 ∃ (s : Sl) (l : List Int), c = .slice s.a s.len s.cap /\ SlR s 1 (intsI l) w.heap (fun b => b < w.heap.size) /\ s.len <= s.cap /\ (∀ x ∈ l, I63 x) /\ l.length <= 9223372036854775807 := by
 rcases open_slice1 ht hC h with ⟨hcs, _⟩ | ⟨a, len, cap, m, n, V, D, Pl, hcs, _, hl, hm, hmm, _, hV⟩
 ·simp only [List.cons.injEq, and_true] at hcs
  exact ⟨⟨none, 0, 0⟩, [], hcs, SlR.nil _ _ _ _, Nat.le_refl _, by simp, by simp⟩
 ·simp only [List.cons.injEq, and_true] at hcs
  have hmc : m = cap := by simpa using hmm
  have hx : ∀ i, i < len -> ∃ x : Int, cell w.heap (a.add i) = some (.int .i64 x) /\ I63 x := fun i hi => by
   obtain ⟨h1, h2⟩ := hV i (by omega)
   obtain ⟨x, hx1, _, hw⟩ := DataW.trod_int he h2
   simp only [List.cons.injEq, and_true] at hx1
   rw [hx1] at h1
   exact ⟨x, h1, i63_of hw⟩
  let g : Nat -> Int := fun i => if hi : i < len then (hx i hi).choose else 0
  have hg : ∀ i, (hi : i < len) -> cell w.heap (a.add i) = some (.int .i64 (g i)) /\ I63 (g i) := fun i hi => by
   have := (hx i hi).choose_spec
   simp only [g, hi, dif_pos]; exact this
  refine ⟨⟨some a, len, cap⟩, (List.range len).map g, hcs, ⟨by simp [intsI], ?_⟩, hl, fun x hx => ?_, ?_⟩
  ·rcases Nat.eq_zero_or_pos len with h0 | h0
   ·left; subst h0; rfl
   ·right
    have hc0 := (hg 0 h0).1
    have hsp := cell_lt hc0
    rw [Addr.add_zero'] at hsp
    obtain ⟨b, o, s⟩ := a
    have hs : s = none := hsp.2
    subst hs
    have hob : ∃ arr ty z, w.heap[b]? = some (.cells arr ty z) := by
     rw [add_lit] at hc0
     unfold cell at hc0
     split at hc0
     ·rename_i arr ty z heq; exact ⟨arr, ty, z, heq⟩
     ·cases hc0
    obtain ⟨arr, ty, z, hobj⟩ := hob
    refine ⟨b, o, arr.toList, hsp.1, rfl, ⟨ty, z, by simpa using hobj⟩, fun j hj => ?_⟩
    have hj' : j < len := by simpa [intsI] using hj
    have hc := (hg j hj').1
    rw [add_lit] at hc
    unfold cell at hc
    simp only [hobj] at hc
    rw [Array.getElem?_toList]
    simp [intsI, List.getElem?_range hj']
    simpa using hc
  ·obtain ⟨i, hi, rfl⟩ := List.mem_map.1 hx
   exact (hg i (List.mem_range.1 hi)).2
  ·have : maxLen = 9223372036854775807 := rfl
   simp; omega
theorem act_cells {t ei : TypeId} {f0 f1 f2 f3 f4 f5 : Field} {fuel : Nat} {cs : List Value} {y : DataW H × List MemPlace}
 (ht : P.underlying t = some (.struct #[f0, f1, f2, f3, f4, f5])) (hone : oneCellFields P #[f0, f1, f2, f3, f4, f5] = true) (hC : P.cellsOf t = 6)
 (h0 : P.underlying f0.type = some (.int .i64)) (h1 : P.underlying f1.type = some (.int .i64)) (h2 : P.underlying f2.type = some (.int .i64)) (h3 : P.underlying f3.type = some (.int .i64)) (h4 : P.underlying f4.type = some (.int .i64)) (h5 : P.underlying f5.type = some (.slice ei)) (hCi : P.cellsOf ei = 1) (hei : P.underlying ei = some (.int .i64))
 (h : DataW.trod enc P w 0 (fun _ => true) true fuel t cs = some y) :
 ∃ (x : Act) (s : Sl), cs = [.int .i64 x.kd, .int .i64 x.ar, .int .i64 x.cl, .int .i64 x.a, .int .i64 x.b, .slice s.a s.len s.cap] /\ SlR s 1 (intsI x.l) w.heap (fun b => b < w.heap.size) /\ s.len <= s.cap /\ I63 x.a /\ (∀ z ∈ x.l, I63 z) /\ x.l.length <= 9223372036854775807 := by
 obtain ⟨ys, n, hn, hy, hlen, hyl, hff⟩ := DataW.trod_struct ht h
 have hl6 : cs.length = 6 := by rw [← hC]; exact hlen
 match cs, hl6 with
 | [c0, c1, c2, c3, c4, c5], _ =>
  have one : ∀ (j : Nat) (f : Field) (c : Value), (#[f0, f1, f2, f3, f4, f5] : Array Field)[j]? = some f -> [c0, c1, c2, c3, c4, c5][j]? = some c -> ∃ z, DataW.trod enc P w 0 (fun _ => true) true n f.type [c] = some z := by
   intro j f c hj hc
   obtain ⟨ho, hk⟩ := hone_of hone j f hj
   have h3 := hff j f hj
   rw [ho, hk] at h3
   have hjl := (List.getElem?_eq_some_iff.1 hc).1
   have e1 : ([c0, c1, c2, c3, c4, c5].drop j).take 1 = [c] := by
    rw [List.drop_eq_getElem_cons hjl, List.take_succ_cons, List.take_zero, (List.getElem?_eq_some_iff.1 hc).2]
   rw [e1] at h3
   have hys : ys[j]? = some (ys[j]'(by rw [hyl]; simp at hjl ⊢; omega)) := List.getElem?_eq_getElem _
   rw [hys] at h3
   exact ⟨_, h3⟩
  have int : ∀ (j : Nat) (f : Field) (c : Value), (#[f0, f1, f2, f3, f4, f5] : Array Field)[j]? = some f -> [c0, c1, c2, c3, c4, c5][j]? = some c -> P.underlying f.type = some (.int .i64) -> ∃ x : Int, c = .int .i64 x /\ I63 x := by
   intro j f c hj hc hu
   obtain ⟨z, hz⟩ := one j f c hj hc
   obtain ⟨x, hx1, _, hw⟩ := DataW.trod_int hu hz
   simp only [List.cons.injEq, and_true] at hx1
   exact ⟨x, hx1, i63_of hw⟩
  obtain ⟨x0, rfl, _⟩ := int 0 f0 c0 rfl rfl h0
  obtain ⟨x1, rfl, _⟩ := int 1 f1 c1 rfl rfl h1
  obtain ⟨x2, rfl, _⟩ := int 2 f2 c2 rfl rfl h2
  obtain ⟨x3, rfl, hx3⟩ := int 3 f3 c3 rfl rfl h3
  obtain ⟨x4, rfl, _⟩ := int 4 f4 c4 rfl rfl h4
  obtain ⟨z, hz⟩ := one 5 f5 c5 rfl rfl
  obtain ⟨s, l, rfl, q1, q2, q3, q4⟩ := ints_open h5 hCi hei hz
  exact ⟨⟨x0, x1, x2, x3, x4, l⟩, s, rfl, q1, q2, hx3, q3, q4⟩
theorem acts6_open {t e ei : TypeId} {f0 f1 f2 f3 f4 f5 : Field} {a : Option Addr} {len cap : Nat} {d : DataW H} {ps : List MemPlace}
 (htl : P.underlying t = some (.slice e)) (ht : P.underlying e = some (.struct #[f0, f1, f2, f3, f4, f5])) (hone : oneCellFields P #[f0, f1, f2, f3, f4, f5] = true) (hC : P.cellsOf e = 6)
 (h0 : P.underlying f0.type = some (.int .i64)) (h1 : P.underlying f1.type = some (.int .i64)) (h2 : P.underlying f2.type = some (.int .i64)) (h3 : P.underlying f3.type = some (.int .i64)) (h4 : P.underlying f4.type = some (.int .i64)) (h5 : P.underlying f5.type = some (.slice ei)) (hCi : P.cellsOf ei = 1) (hei : P.underlying ei = some (.int .i64))
 (h : DataW.Trod enc P w 0 (fun _ => true) true t (.slice a len cap) d ps) : ∃ us, Acts6 w.heap w.heap.size ⟨a, len, cap⟩ us /\ us.length <= 9223372036854775807 := by
 obtain ⟨fuel, hf⟩ := h
 rcases open_slice htl hf with ⟨hcs, _⟩ | ⟨ad, len', cap', m, n, D, Pl, hcs, _, hl, hm, hmm, hx, hi⟩
 ·simp [Value.cells] at hcs
  obtain ⟨rfl, rfl, rfl⟩ := hcs
  exact ⟨[], ⟨rfl, fun i x hx => by simp at hx, by simp, Nat.le_refl _⟩, by simp⟩
 ·simp [Value.cells] at hcs
  obtain ⟨rfl, rfl, rfl⟩ := hcs
  have hmc : m = cap := by simpa using hmm
  have key : ∀ i, i < len -> ∃ u : Act × Sl, (∀ j v, [Value.int .i64 u.1.kd, .int .i64 u.1.ar, .int .i64 u.1.cl, .int .i64 u.1.a, .int .i64 u.1.b, .slice u.2.a u.2.len u.2.cap][j]? = some v -> cell w.heap ((ad.add (i * 6)).add j) = some v) ∧
   SlR u.2 1 (intsI u.1.l) w.heap (fun b => b < w.heap.size) /\ u.2.len <= u.2.cap /\ I63 u.1.a /\ (∀ z ∈ u.1.l, I63 z) := by
   intro i hil
   obtain ⟨cs', hc, ht'⟩ := hi i (by omega)
   rw [hC] at hc
   obtain ⟨x, s, hcs, q1, q2, q3, q4, _⟩ := act_cells ht hone hC h0 h1 h2 h3 h4 h5 hCi hei ht'
   obtain ⟨_, hcl, hat⟩ := World.cells?_some hc
   refine ⟨(x, s), fun j v hv => ?_, q1, q2, q3, q4⟩
   have hj := (List.getElem?_eq_some_iff.1 hv).1
   have := hat j (by simpa using hj)
   rw [hcs] at this
   rw [hv] at this
   exact this
  let g : Nat -> Act := fun i => if hi : i < len then (key i hi).choose.1 else ⟨0, 0, 0, 0, 0, []⟩
  have hg : ∀ i, (hi : i < len) -> g i = (key i hi).choose.1 := fun i hi => by simp only [g, hi, dif_pos]
  refine ⟨(List.range len).map g, ⟨by simp, fun i x hx => ?_, fun x hx => ?_, Nat.le_refl _⟩, ?_⟩
  ·have hil : i < len := by
    have := (List.getElem?_eq_some_iff.1 hx).1
    simpa using this
   have hgx : g i = x := by simpa [hil] using hx
   rw [hg i hil] at hgx
   obtain ⟨⟨x', s2⟩, hu, hc, q1, q2, _⟩ : ∃ u : Act × Sl, u.1 = x /\ (∀ j v, [Value.int .i64 u.1.kd, .int .i64 u.1.ar, .int .i64 u.1.cl, .int .i64 u.1.a, .int .i64 u.1.b, .slice u.2.a u.2.len u.2.cap][j]? = some v -> cell w.heap ((ad.add (i * 6)).add j) = some v) ∧
    SlR u.2 1 (intsI u.1.l) w.heap (fun b => b < w.heap.size) /\ u.2.len <= u.2.cap /\ I63 u.1.a /\ (∀ z ∈ u.1.l, I63 z) := ⟨_, hgx, (key i hil).choose_spec⟩
   have hu : x' = x := hu
   subst hu
   simp only at hc q1 q2
   have hz0 := (key 0 (by omega)).choose_spec.1
   have hz1 := hz0 0 _ rfl
   have hsp := cell_lt hz1
   simp only [Nat.zero_mul, Addr.add_zero'] at hsp
   obtain ⟨b, o, s⟩ := ad
   have hs : s = none := hsp.2
   subst hs
   rw [add_lit] at hc
   refine ⟨b, o, _, rfl, hsp.1, ?_, ?_, ?_, ?_, ?_, ?_, q1, q2⟩
   ·have := hc 0 _ rfl; rw [add_lit] at this; exact this
   ·have := hc 1 _ rfl; rw [add_lit] at this; exact this
   ·have := hc 2 _ rfl; rw [add_lit] at this; exact this
   ·have := hc 3 _ rfl; rw [add_lit] at this; exact this
   ·have := hc 4 _ rfl; rw [add_lit] at this; exact this
   ·have := hc 5 _ rfl; rw [add_lit] at this; exact this
  ·obtain ⟨i, hi, rfl⟩ := List.mem_map.1 hx
   have hil := List.mem_range.1 hi
   rw [hg i hil]
   obtain ⟨_, _, _, q3, q4⟩ := (key i hil).choose_spec
   exact ⟨q3, q4⟩
  ·have : maxLen = 9223372036854775807 := rfl
   simp; omega
end
end Go.Ar