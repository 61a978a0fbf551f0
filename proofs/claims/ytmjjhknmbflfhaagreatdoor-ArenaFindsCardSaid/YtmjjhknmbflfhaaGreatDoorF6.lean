/- Texts joined. -/
import Derived.Test.YtmjjhknmbflfhaaGreatDoorRows
import Derived.ChangeVars
import Derived.JoinedOf
import Derived.RowKit
import Derived.WalkKit
import Derived.ProofKit
import Derived.OpenShut
import Derived.ChangeOld
import Derived.Carry
import Derived.Test.YtmjjhknmbflfhaaGreatDoorF5
set_option linter.unusedVariables false
set_option linter.unusedSimpArgs false
namespace Go.Proofs
open Go.Vc

set_option maxRecDepth 100000
def freeholdlaw10_ArenaFinds.hint : Hn := .seq (.o 1) (.seq (.seq (.o 2) (.cond (.seq (.o 2) (.leaf)) (.leaf))) (.seq (.o 11) (.seq (.seq (.o 2) (.cond (.seq (.reg (.seq [.op, .op, .op, .op, .grd true 1 [.op], .op])) (.leaf)) (.leaf))) (.seq (.seq (.o 1) (.block (.loop [(15, .one (.i .i64))] (.seq (.seq (.o 7) (.cond (.leaf) (.leaf))) (.seq (.block (.seq (.o 9) (.seq (.oq 9) (.seq (.o 1) (.block (.loop [(18, .one (.i .i64))] (.seq (.seq (.o 7) (.cond (.leaf) (.leaf))) (.seq (.block (.seq (.o 16) (.seq (.seq (.reg (.seq [.op, .op, .op, .op, .op, .grd true 14 [.op, .op, .op, .grd false 4 [.op, .op, .op, .op], .op, .grd false 4 [.op, .op, .op, .op]], .op, .grd false 8 [.op, .op, .op, .op, .op, .grd true 2 [.op, .op]]])) (.cond (.seq (.o 1) (.leaf)) (.leaf))) (.seq (.reg (.heldJ true [] [(137, .one .b)] (.take 0 (.take 1 (.take 2 (.take 3 (.take 4 (.take 5 (.take 6 (.take 7 (.take 9 (.take 10 (.take 11 (.take 12 (.all [(8, .take 13 (.split 131 (.take 14 (.take 15 (.all [(16, .take 17 (.take 18 (.take 19 (.done))))]))) (.take 14 (.take 15 (.take 16 (.take 17 (.take 18 (.take 19 (.done)))))))))]))))))))))))))) (.cond (.seq (.o 1) (.leaf)) (.leaf)))))) (.o 3))))))))) (.o 3)))))) (.seq (.o 2) (.leaf))))))
def freeholdlaw10_ArenaFinds.vc (table : Sl) (pages : Int) (many : Int) (room : Int) (l : Sl) (more : Int) (σ : Hp) (R : Bool -> Hp -> Prop) : Prop :=
 freeholdlaw10_great.call l σ fun t23 v =>
 If t23 (freeholdlaw10_alive.call v fun t24 v1 =>
 R t24 v1)
 (freeholdlaw10_world.call table pages many room l v fun t31 t311 v2 =>
 If (!t311) (freeholdref01_Valid.call table v2 fun t37 v3 =>
 JnB (fun r v4 =>
 R r v4) fun J =>
 If (!t37) (freeholdlaw10_alive.call v3 fun t40 v5 =>
 J t40 v5)
 (J false v3))
 (LoopK [(.i .i64)] (fun I => I 0 v2) fun J1 (i : Int) v6 =>
 NilP t31 fun a44 =>
 LdS (a44.add 3) v6 fun t46 =>
 If (decide (i < ((t46.len : Nat) : Int))) (NilP t31 fun a52 =>
 LdS (a52.add 3) v6 fun t54 =>
 Ix t54.a t54.len i 5 fun a56 =>
 LdI .i64 (a56.add 0) v6 fun t57 =>
 LdI .i64 (a56.add 1) v6 fun t571 =>
 LdI .i64 (a56.add 2) v6 fun t572 =>
 LdI .i64 (a56.add 3) v6 fun t573 =>
 LdB (a56.add 4) v6 fun t574 =>
 Nw (.cells #[.int .i64 0, .int .i64 0, .int .i64 0, .int .i64 0, .bool false] 39 (0, 0)) v6 fun n16 v7 =>
 St1 (n16.add 0) (.int .i64 t57) v7 fun v8 =>
 St1 (n16.add 1) (.int .i64 t571) v8 fun v9 =>
 St1 (n16.add 2) (.int .i64 t572) v9 fun v10 =>
 St1 (n16.add 3) (.int .i64 t573) v10 fun v11 =>
 St1 (n16.add 4) (.bool t574) v11 fun v12 =>
 LdI .i64 (n16.add 2) v12 fun t59 =>
 Ar .i64 more fun t61 =>
 LdI .i64 (n16.add 3) v12 fun t63 =>
 Nz t63 <|
 Ar .i64 (t59 + (t61.tmod t63)) fun addr =>
 LoopK [(.i .i64)] (fun I1 => I1 0 v12) fun J2 (k : Int) v13 =>
 NilP t31 fun a68 =>
 LdS (a68.add 1) v13 fun t70 =>
 If (decide (k < ((t70.len : Nat) : Int))) (NilP t31 fun a77 =>
 LdS (a77.add 1) v13 fun t79 =>
 Ix t79.a t79.len k 1 fun a81 =>
 LdP a81 v13 fun t82 =>
 arena_Arena_Find.call t82 addr v13 fun t84 t841 t842 v14 =>
 LdI .i64 (n16.add 0) v14 fun t90 =>
 JnB (fun r1 v15 =>
 JnB (fun r2 v16 =>
 If r2 (R false v16)
 (Jn [.b] (fun (t137 : Bool) v17 =>
 If t137 (R false v17)
 (Ar .i64 (k + 1) fun k1 =>
 J2 k1 v17)) fun J5 =>
 Held v16 fun S =>
 NilP t31 fun a119 =>
 LdH S .s (a119.add 1) fun (t121 : Sl) =>
 Ix t121.a t121.len k 1 fun a123 =>
 LdH S .p a123 fun (t124 : Option Addr) =>
 LdH S (.i .i64) (n16.add 0) fun (t129 : Int) =>
 arena_Arena_IsTaken.call t124 addr v16 fun t126 v18 =>
 And (S v18) <|
 If (k == t129) (LdI .i64 (n16.add 2) v18 fun t134 =>
 And (S v18) <|
 J5 (!(t126 == (addr == t134))) v18)
 (J5 (!(t126 == false)) v18))) fun J4 =>
 If r1 (J4 true v15)
 (LdI .i64 (n16.add 0) v15 fun t111 =>
 JnB (fun r3 v19 =>
 J4 r3 v19) fun J6 =>
 If (k != t111) (J6 (t842 != 8) v15)
 (J6 false v15))) fun J3 =>
 If (k == t90) (JnB (fun r4 v20 =>
 JnB (fun r5 v21 =>
 J3 r5 v21) fun J8 =>
 If r4 (J8 true v20)
 (LdI .i64 (n16.add 2) v20 fun t104 =>
 J8 (t841 != t104) v20)) fun J7 =>
 If (t842 != 0) (J7 true v14)
 (LdI .i64 (n16.add 1) v14 fun t98 =>
 J7 (t84 != t98) v14))
 (J3 false v14))
 (Ar .i64 (i + 1) fun i1 =>
 J1 i1 v13))
 (freeholdlaw10_alive.call v6 fun t138 v22 =>
 R t138 v22)))
theorem freeholdlaw10_ArenaFinds.of_vc {table : Sl} {pages : Int} {many : Int} {room : Int} {l : Sl} {more : Int} {σ : Hp} {R : Bool -> Hp -> Prop} (hv : freeholdlaw10_ArenaFinds.vc table pages many room l more σ R) : freeholdlaw10_ArenaFinds.call table pages many room l more σ R :=
 fnK_sound Tryz.func6 (x := freeholdlaw10_ArenaFinds.hint) (args := [.slice table.a table.len table.cap, .int .u8 pages, .int .u8 many, .int .u8 room, .slice l.a l.len l.cap, .int .u16 more]) (rs := [.one .b]) (R := R) (Eq.mpr (by kernel_rfl) hv)
end Go.Proofs
namespace Go.Ar
open Go Go.Vc Go.Proofs
open Go.Bu (runOk giveS takeAt cnt)


variable {σ : Hp} {xs : List (Int × Int × Int)}
theorem ow_zero {A : AR} (ga : GA A) {p : Nat} (h : A.f p = 0) : A.ow p = 0 := Classical.byContradiction fun hn => by have := (ga.pg.us p).2 hn; omega
theorem findA_out {A : AR} (ga : GA A) {x : Nat} (h : A.f (x / 256) = 0) : findA A (x : Int) = none := by
 unfold findA
 rw [if_neg (by omega), Int.toNat_natCast]
 simp only
 have := ow_zero ga h
 by_cases hlt : x / 256 < 1024
 ·rw [if_pos hlt, this, if_pos rfl]
 ·rw [if_neg hlt, if_pos rfl]
theorem finds_law {W : Wd} (h : WI W) {p : Pc} (hp : p ∈ W.held) {x : Nat} (h1 : p.addr <= x) (h2 : x < p.addr + p.size) {k : Nat} {A : AR} (hk : W.ars[k]? = some A) :
 (k = p.k -> findA A (x : Int) = some (p.cls, p.addr) /\ isTkA A (x : Int) = decide (x = p.addr)) /\ (k ≠ p.k -> findA A (x : Int) = none /\ isTkA A (x : Int) = false) := by
 have ga := h.ga k A hk
 refine ⟨fun e => ?_, fun e => ?_⟩
 ·subst e
  have hf : findA A (x : Int) = some (p.cls, p.addr) := by
   rcases h.hd hk hp rfl with ⟨c1, _, r, hr, c2, c3⟩ | ⟨j, c, c1, c2, c3, ⟨c', ss, hcl, ht⟩, _⟩
   ·rw [findA_run ga hr (by omega) (by rw [Nat.add_mul]; omega), c1, c2]
   ·have : c' = c := Option.some.inj (hcl.1.symm.trans c2)
    subst this
    have hC := ga.cen j c' ss hcl
    obtain ⟨l, s, i, hs, hi, e, _⟩ := (Tk_iff hC).1 ht
    have e' : p.addr = at_ c' s i := Int.ofNat.inj e
    rw [findA_obj ga hcl hs hi (by omega) (by omega), c1, e']
  refine ⟨hf, ?_⟩
  by_cases hx : x = p.addr
  ·rw [decide_eq_true hx, isTkA_iff ga]
   rcases h.hd hk hp rfl with ⟨c1, _, r, hr, c2, c3⟩ | ⟨j, c, c1, c2, c3, ht, _⟩
   ·exact .inr ⟨r, hr, by omega⟩
   ·exact .inl ⟨j, by rw [hx]; exact ht⟩
  ·rw [decide_eq_false hx]
   apply Bool.eq_false_iff.2
   intro ht
   rcases (isTkA_iff ga).1 ht with ⟨j, hj⟩ | ⟨r, hr, e⟩
   ·obtain ⟨y, e, hfy⟩ := hj.find ga
    rw [hf] at hfy
    have := congrArg Prod.snd (Option.some.inj hfy)
    simp only at this; omega
   ·have e' : x = r.1 * 256 := Int.ofNat.inj e
    have := ga.rpos r hr
    have hfr := findA_run ga hr (x := x) (by omega) (by rw [Nat.add_mul]; omega)
    rw [hf] at hfr
    have := congrArg Prod.snd (Option.some.inj hfr)
    simp only at this; omega
 ·obtain ⟨B, hB, _⟩ := h.hf p hp
  have hpg := h.page hp hB h1 h2
  have h0 : A.f (x / 256) = 0 := Classical.byContradiction fun hn => e (h.one (x / 256) k p.k A B hk hB hn (by omega))
  have hf := findA_out ga h0
  refine ⟨hf, ?_⟩
  unfold isTkA; rw [hf]
theorem LFinds_ok (g : Gl σ) (gd : Gd σ) {table : Sl} (ht : Acts σ table xs) {pages many room more : Int} (hp : 0 <= pages /\ pages <= 255) (hm : 0 <= many /\ many <= 255) (hr : 0 <= room /\ room <= 255) (hmo : 0 <= more /\ more <= 65535)
 {l : Sl} {us : List Act} (hl : Acts6 σ σ.size l us) (hll : us.length <= 9223372036854775807) {R : Bool -> Hp -> Prop} (hR : ∀ σ', Ext0 σ σ' -> R true σ') : freeholdlaw10_ArenaFinds.call table pages many room l more σ R := by
 refine freeholdlaw10_ArenaFinds.of_vc ?_
 unfold freeholdlaw10_ArenaFinds.vc
 refine begin_ok g gd ht hp hm hr hl hll hR fun hv v2 L e2 hw => ?_
 have hlen := hw.d.wi.len
 generalize theW xs pages many room us = W at hw hlen
 have hk2 := hw.d.k2
 have wi := hw.d.wi
 refine loop1 (a := .i .i64) (fun (t : Int) w => ∃ i : Nat, t = (i : Int) /\ i <= W.held.length /\ Ext0 v2 w) (fun t _ => W.held.length - t.toNat) ⟨0, rfl, by omega, Ext.refl _ _⟩ ?_
 rintro t v6 ⟨i, rfl, hi, e6⟩
 have hw6 := hw.keep0 e6
 have h6 := hw6.d.h
 have hhl := h6.heldL
 refine nilP (h6.hd.rS rfl (ifD (fun hlt => ?_) fun hge => ?_))
 ·simp only at hlt
  have hi' : i < W.held.length := by omega
  have hpi : W.held[i]? = some W.held[i] := List.getElem?_eq_getElem hi'
  generalize W.held[i] = p at hpi
  have hpm := List.mem_of_getElem? hpi
  have hal := wi.addr_lt hpm
  have hsp := (wi.size_pos hpm).1
  refine nilP (h6.hd.rS rfl (pc_box h6.held.slR hpi fun v12 e12 bw => ?_))
  obtain ⟨mo, rfl⟩ := Int.eq_ofNat_of_zero_le hmo.1
  have hml : mo % p.size < p.size := Nat.mod_lt _ (by omega)
  refine bw.rI rfl (ar (by omega) (by omega) (bw.rI rfl (nz (by omega) (arN (m := p.addr + mo % p.size) ?_ (by omega) ?_))))
  ·rw [tmod_nn (by omega)]; simp
  generalize hx : p.addr + mo % p.size = x
  have hx63 : I63 (x : Int) := by unfold I63; omega
  refine loop1 (a := .i .i64) (fun (t : Int) w => ∃ k : Nat, t = (k : Int) /\ k <= W.ars.length /\ Ext0 v12 w) (fun t _ => W.ars.length - t.toNat) ⟨0, rfl, by omega, Ext.refl _ _⟩ ?_
  rintro t v13 ⟨k, rfl, hk, e13⟩
  have hw13 := hw6.keep0 (Ext.trans e12 e13)
  have h13 := hw13.d.h
  have b13 := Ext.blk e13 bw id
  have harl := h13.arowL
  refine nilP (h13.hd.rS rfl (ifD (fun hlt2 => ?_) fun hge2 => ?_))
  ·simp only at hlt2
   have hk' : k < W.ars.length := by omega
   have hA : W.ars[k]? = some W.ars[k] := List.getElem?_eq_getElem hk'
   generalize W.ars[k] = A at hA
   have ga := wi.ga k A hA
   obtain ⟨Y, hy, hYh, hAH⟩ := h13.ar hA
   have fl := finds_law wi hpm (x := x) (by omega) (by omega) hA
   have eka : ((k : Int) == (p.k : Int)) = (k == p.k) := beqN _ _
   have ekb : ((k : Int) != (p.k : Int)) = (k != p.k) := bneN _ _
   have last : ∀ v16, Ext0 v13 v16 -> isTkA A (x : Int) = (k == p.k && decide (x = p.addr)) -> Jn [.b] (fun (t137 : Bool) v17 =>
    If t137 (R false v17)
     (Ar .i64 ((k : Int) + 1) fun k1 =>
     (∃ k : Nat, k1 = (k : Int) /\ k <= W.ars.length /\ Ext0 v12 v17) /\ W.ars.length - k1.toNat < W.ars.length - (k : Int).toNat)) fun J5 =>
    Held v16 fun S =>
    NilP (some ⟨L.w, 0, none⟩) fun a119 =>
    LdH S .s (a119.add 1) fun (t121 : Sl) =>
    Ix t121.a t121.len (k : Int) 1 fun a123 =>
    LdH S .p a123 fun (t124 : Option Addr) =>
    LdH S (.i .i64) (Addr.add ⟨v6.size, 0, none⟩ 0) fun (t129 : Int) =>
    arena_Arena_IsTaken.call t124 (x : Int) v16 fun t126 v18 =>
    And (S v18) <|
    If ((k : Int) == t129) (LdI .i64 (Addr.add ⟨v6.size, 0, none⟩ 2) v18 fun t134 =>
     And (S v18) <|
     J5 (!(t126 == ((x : Int) == t134))) v18)
     (J5 (!(t126 == false)) v18) := by
    intro v16 e16 htk
    have hw16 := hw13.keep0 e16
    have h16 := hw16.d.h
    have b16 := Ext.blk e16 b13 id
    obtain ⟨Y', hy', _, hAH16⟩ := h16.ar hA
    rw [hy] at hy'; cases hy'
    refine Jn.intro ⟨fun m => Ext0 v16 m, Ext.refl _ _, nilP ⟨L.arow, fun m hm => by rw [add_lit, (Ext.blk hm h16.hd id).cell]; rfl, ?_⟩⟩
    refine ptr_rdH h16.arow.slR (k := k) (q := Y.p) (by simp [hy]) ⟨(p.k : Int), fun m hm => by rw [add_lit, (Ext.blk hm b16 id).cell]; rfl, ?_⟩
    refine IsTaken_ok hAH16 ga.runsOk _ hx63 fun v18 e18 => ⟨e18, ?_⟩
    have b18 := Ext.blk e18 b16 id
    have next : ∀ r, r = false -> If r (R false v18) (Ar .i64 ((k : Int) + 1) fun k1 => (∃ k : Nat, k1 = (k : Int) /\ k <= W.ars.length /\ Ext0 v12 v18) /\ W.ars.length - k1.toNat < W.ars.length - (k : Int).toNat) := fun r hr =>
     ifF hr (arN (m := k + 1) (by omega) (by omega) ⟨⟨k + 1, rfl, by omega, Ext.trans (Ext.trans e13 e16) e18⟩, by omega⟩)
    rw [eka]
    refine iff_ (fun hkk => b18.rI rfl ⟨e18, next _ ?_⟩) fun hkk => next _ ?_
    ·rw [htk, hkk, Bool.true_and]
     have : ((x : Int) == (p.addr : Int)) = decide (x = p.addr) := by rw [beqN]; rw [Bool.eq_iff_iff]; simp
     rw [this]; simp
    ·rw [htk, hkk]; rfl
   refine nilP (h13.hd.rS rfl (h13.rA hy (Find_ok hAH ga.runsOk _ hx63 (fun v14 c a e14 hf => ?_) fun v14 e14 hf => ?_)))
   ·have b14 := Ext.blk e14 b13 id
    have hkk : k = p.k := Classical.byContradiction fun hn => by rw [(fl.2 hn).1] at hf; cases hf
    obtain ⟨f1, f2⟩ := fl.1 hkk
    rw [f1] at hf
    cases hf
    refine b14.rI rfl (JnB.intro ?_)
    rw [eka]
    have h1 : (k == p.k) = true := by simpa using hkk
    refine ifT h1 (JnB.intro (ifF rfl (b14.rI rfl (JnB.intro (ifF (by simp) (b14.rI rfl (JnB.intro (ifF (by simp) (b14.rI rfl (JnB.intro ?_))))))))))
    rw [ekb]
    refine ifF (by simp [hkk]) (ifF rfl (last v14 e14 ?_))
    rw [f2, h1, Bool.true_and]
   ·have b14 := Ext.blk e14 b13 id
    have hkk : k ≠ p.k := fun hn => by rw [(fl.1 hn).1] at hf; cases hf
    obtain ⟨f1, f2⟩ := fl.2 hkk
    have h1 : (k == p.k) = false := by simpa using hkk
    refine b14.rI rfl (JnB.intro ?_)
    rw [eka]
    refine ifF h1 (JnB.intro (ifF rfl (b14.rI rfl (JnB.intro ?_))))
    rw [ekb]
    refine ifT (by simp [hkk]) (ifF rfl (last v14 e14 ?_))
    rw [f2, h1]; rfl
  ·exact arN (m := i + 1) (by omega) (by omega) ⟨⟨i + 1, rfl, by omega, Ext.trans (Ext.trans e6 e12) e13⟩, by omega⟩
 ·exact alive_ok (g.keep0 (Ext.trans e2 e6)) fun v9 e9 => hR v9 (Ext.trans (Ext.trans e2 e6) e9)
end Go.Ar
namespace Go.Ar
open Go Go.Vc Go.Proofs Go.ChangeShapes Go.WideShapes Go.RowKit Go.Deep


theorem bool_of_trod {H : Type} {enc : TypeId × Value -> H} {P : Program} {w : World} {base : Nat} {sp : Nat -> Bool} {held : Bool} {fuel : Nat} {t : TypeId} {c : Value} {y : DataW H × List MemPlace}
 (ht : P.underlying t = some .bool) (h : DataW.trod enc P w base sp held fuel t [c] = some y) : ∃ n, c = .bool n /\ y = (.lit (.bool n), []) := by
 cases fuel with
 | zero => simp [DataW.trod] at h
 | succ fuel =>
  cases c <;> simp [DataW.trod, ht] at h
  rename_i n
  exact ⟨n, rfl, by simpa using h.symm⟩
theorem two_cells {P : Program} {w : World} {t : TypeId} {f0 f1 : Field} {cs : Array Value} {fuel : Nat} {p : List MemPlace} {x y : Bool} (ht : P.underlying t = some (.struct #[f0, f1])) (hone : oneCellFields P #[f0, f1] = true) (hC : P.cellsOf t = 2)
 (h0 : P.underlying f0.type = some .bool) (h1 : P.underlying f1.type = some .bool) (h : DataW.trod (fun _ => ()) P w 0 (fun _ => true) false fuel t cs.toList = some (.agg [.lit (.bool x), .lit (.bool y)], p)) : cs = #[.bool x, .bool y] := by
 obtain ⟨ys, n, hn, hy, hlen, hyl, hff⟩ := DataW.trod_struct ht h
 obtain ⟨l⟩ := cs
 have hl2 : l.length = 2 := by rw [← hC]; simpa using hlen
 match l, hl2 with
 | [c0, c1], _ =>
  have k0 := hff 0 f0 rfl
  have k1 := hff 1 f1 rfl
  obtain ⟨o0, q0⟩ := hone_of hone 0 f0 rfl
  obtain ⟨o1, q1⟩ := hone_of hone 1 f1 rfl
  rw [o0, q0] at k0
  rw [o1, q1] at k1
  match ys, hyl with
  | [y0, y1], _ =>
   obtain ⟨n0, rfl, e0⟩ := bool_of_trod h0 (c := c0) (y := y0) (by simpa using k0)
   obtain ⟨n1, rfl, e1⟩ := bool_of_trod h1 (c := c1) (y := y1) (by simpa using k1)
   subst e0; subst e1
   simp at hy
   obtain ⟨⟨rfl, rfl⟩, _⟩ := hy
   rfl
theorem cell_of {w : World} {a : Addr} {v : Value} (h : w.cell? a = some v) : cell w.heap a = some v := h
end Go.Ar
namespace Go.Ar
open Go Go.Vc Go.Proofs Go.ChangeShapes Go.WideShapes Go.RowKit Go.Deep


section
variable {H : Type} {enc : TypeId × Value -> H} {P : Program} {w : World}
theorem i63_of {x : Int} (h : (Lit.int .i64 x).wf = true) : I63 x := by
 unfold I63
 simp [Lit.wf, IntKind.min, IntKind.max, IntKind.bits, IntKind.signed] at h
 omega
theorem u8_of {x : Int} (h : (Lit.int .u8 x).wf = true) : 0 <= x /\ x <= 255 := by
 simp [Lit.wf, IntKind.min, IntKind.max, IntKind.bits, IntKind.signed] at h
 omega
theorem u16_of {x : Int} (h : (Lit.int .u16 x).wf = true) : 0 <= x /\ x <= 65535 := by
 simp [Lit.wf, IntKind.min, IntKind.max, IntKind.bits, IntKind.signed] at h
 omega
theorem ints_open {t e : TypeId} {fuel : Nat} {c : Value} {y : DataW H × List MemPlace} (ht : P.underlying t = some (.slice e)) (hC : P.cellsOf e = 1) (he : P.underlying e = some (.int .i64)) (h : DataW.trod enc P w 0 (fun _ => true) true fuel t [c] = some y) :
 ∃ (s : Sl) (l : List Int), c = .slice s.a s.len s.cap /\ SlR s 1 (intsI l) w.heap (fun b => b < w.heap.size) /\ s.len <= s.cap /\ (∀ x ∈ l, I63 x) /\ l.length <= 9223372036854775807 := by
 rcases open_slice1 ht hC h with ⟨hcs, _⟩ | ⟨a, len, cap, m, n, V, D, Pl, hcs, _, hl, hm, hmm, _, hV⟩
 ·simp only [List.cons.injEq, and_true] at hcs
  exact ⟨⟨none, 0, 0⟩, [], hcs, SlR.nil _ _ _ _, Nat.le_refl _, by simp, by simp⟩
 ·simp only [List.cons.injEq, and_true] at hcs
  have hmc : m = cap := by simpa using hmm
  have hx : ∀ i, i < len -> ∃ x : Int, cell w.heap (a.add i) = some (.int .i64 x) /\ I63 x := fun i hi => by
   obtain ⟨h1, h2⟩ := hV i (by omega)
   obtain ⟨x, hx1, _, hw⟩ := DataW.trod_int he h2
   simp only [List.cons.injEq, and_true] at hx1
   rw [hx1] at h1
   exact ⟨x, h1, i63_of hw⟩
  let g : Nat -> Int := fun i => if hi : i < len then (hx i hi).choose else 0
  have hg : ∀ i, (hi : i < len) -> cell w.heap (a.add i) = some (.int .i64 (g i)) /\ I63 (g i) := fun i hi => by
   have := (hx i hi).choose_spec
   simp only [g, hi, dif_pos]; exact this
  refine ⟨⟨some a, len, cap⟩, (List.range len).map g, hcs, ⟨by simp [intsI], ?_⟩, hl, fun x hx => ?_, ?_⟩
  ·rcases Nat.eq_zero_or_pos len with h0 | h0
   ·left; subst h0; rfl
   ·right
    have hc0 := (hg 0 h0).1
    have hsp := cell_lt hc0
    rw [Addr.add_zero'] at hsp
    obtain ⟨b, o, s⟩ := a
    have hs : s = none := hsp.2
    subst hs
    have hob : ∃ arr ty z, w.heap[b]? = some (.cells arr ty z) := by
     rw [add_lit] at hc0
     unfold cell at hc0
     split at hc0
     ·rename_i arr ty z heq; exact ⟨arr, ty, z, heq⟩
     ·cases hc0
    obtain ⟨arr, ty, z, hobj⟩ := hob
    refine ⟨b, o, arr.toList, hsp.1, rfl, ⟨ty, z, by simpa using hobj⟩, fun j hj => ?_⟩
    have hj' : j < len := by simpa [intsI] using hj
    have hc := (hg j hj').1
    rw [add_lit] at hc
    unfold cell at hc
    simp only [hobj] at hc
    rw [Array.getElem?_toList]
    simp [intsI, List.getElem?_range hj']
    simpa using hc
  ·obtain ⟨i, hi, rfl⟩ := List.mem_map.1 hx
   exact (hg i (List.mem_range.1 hi)).2
  ·have : maxLen = 9223372036854775807 := rfl
   simp; omega
theorem act_cells {t ei : TypeId} {f0 f1 f2 f3 f4 f5 : Field} {fuel : Nat} {cs : List Value} {y : DataW H × List MemPlace}
 (ht : P.underlying t = some (.struct #[f0, f1, f2, f3, f4, f5])) (hone : oneCellFields P #[f0, f1, f2, f3, f4, f5] = true) (hC : P.cellsOf t = 6)
 (h0 : P.underlying f0.type = some (.int .i64)) (h1 : P.underlying f1.type = some (.int .i64)) (h2 : P.underlying f2.type = some (.int .i64)) (h3 : P.underlying f3.type = some (.int .i64)) (h4 : P.underlying f4.type = some (.int .i64)) (h5 : P.underlying f5.type = some (.slice ei)) (hCi : P.cellsOf ei = 1) (hei : P.underlying ei = some (.int .i64))
 (h : DataW.trod enc P w 0 (fun _ => true) true fuel t cs = some y) :
 ∃ (x : Act) (s : Sl), cs = [.int .i64 x.kd, .int .i64 x.ar, .int .i64 x.cl, .int .i64 x.a, .int .i64 x.b, .slice s.a s.len s.cap] /\ SlR s 1 (intsI x.l) w.heap (fun b => b < w.heap.size) /\ s.len <= s.cap /\ I63 x.a /\ (∀ z ∈ x.l, I63 z) /\ x.l.length <= 9223372036854775807 := by
 obtain ⟨ys, n, hn, hy, hlen, hyl, hff⟩ := DataW.trod_struct ht h
 have hl6 : cs.length = 6 := by rw [← hC]; exact hlen
 match cs, hl6 with
 | [c0, c1, c2, c3, c4, c5], _ =>
  have one : ∀ (j : Nat) (f : Field) (c : Value), (#[f0, f1, f2, f3, f4, f5] : Array Field)[j]? = some f -> [c0, c1, c2, c3, c4, c5][j]? = some c -> ∃ z, DataW.trod enc P w 0 (fun _ => true) true n f.type [c] = some z := by
   intro j f c hj hc
   obtain ⟨ho, hk⟩ := hone_of hone j f hj
   have h3 := hff j f hj
   rw [ho, hk] at h3
   have hjl := (List.getElem?_eq_some_iff.1 hc).1
   have e1 : ([c0, c1, c2, c3, c4, c5].drop j).take 1 = [c] := by
    rw [List.drop_eq_getElem_cons hjl, List.take_succ_cons, List.take_zero, (List.getElem?_eq_some_iff.1 hc).2]
   rw [e1] at h3
   have hys : ys[j]? = some (ys[j]'(by rw [hyl]; simp at hjl ⊢; omega)) := List.getElem?_eq_getElem _
   rw [hys] at h3
   exact ⟨_, h3⟩
  have int : ∀ (j : Nat) (f : Field) (c : Value), (#[f0, f1, f2, f3, f4, f5] : Array Field)[j]? = some f -> [c0, c1, c2, c3, c4, c5][j]? = some c -> P.underlying f.type = some (.int .i64) -> ∃ x : Int, c = .int .i64 x /\ I63 x := by
   intro j f c hj hc hu
   obtain ⟨z, hz⟩ := one j f c hj hc
   obtain ⟨x, hx1, _, hw⟩ := DataW.trod_int hu hz
   simp only [List.cons.injEq, and_true] at hx1
   exact ⟨x, hx1, i63_of hw⟩
  obtain ⟨x0, rfl, _⟩ := int 0 f0 c0 rfl rfl h0
  obtain ⟨x1, rfl, _⟩ := int 1 f1 c1 rfl rfl h1
  obtain ⟨x2, rfl, _⟩ := int 2 f2 c2 rfl rfl h2
  obtain ⟨x3, rfl, hx3⟩ := int 3 f3 c3 rfl rfl h3
  obtain ⟨x4, rfl, _⟩ := int 4 f4 c4 rfl rfl h4
  obtain ⟨z, hz⟩ := one 5 f5 c5 rfl rfl
  obtain ⟨s, l, rfl, q1, q2, q3, q4⟩ := ints_open h5 hCi hei hz
  exact ⟨⟨x0, x1, x2, x3, x4, l⟩, s, rfl, q1, q2, hx3, q3, q4⟩
theorem acts6_open {t e ei : TypeId} {f0 f1 f2 f3 f4 f5 : Field} {a : Option Addr} {len cap : Nat} {d : DataW H} {ps : List MemPlace}
 (htl : P.underlying t = some (.slice e)) (ht : P.underlying e = some (.struct #[f0, f1, f2, f3, f4, f5])) (hone : oneCellFields P #[f0, f1, f2, f3, f4, f5] = true) (hC : P.cellsOf e = 6)
 (h0 : P.underlying f0.type = some (.int .i64)) (h1 : P.underlying f1.type = some (.int .i64)) (h2 : P.underlying f2.type = some (.int .i64)) (h3 : P.underlying f3.type = some (.int .i64)) (h4 : P.underlying f4.type = some (.int .i64)) (h5 : P.underlying f5.type = some (.slice ei)) (hCi : P.cellsOf ei = 1) (hei : P.underlying ei = some (.int .i64))
 (h : DataW.Trod enc P w 0 (fun _ => true) true t (.slice a len cap) d ps) : ∃ us, Acts6 w.heap w.heap.size ⟨a, len, cap⟩ us /\ us.length <= 9223372036854775807 := by
 obtain ⟨fuel, hf⟩ := h
 rcases open_slice htl hf with ⟨hcs, _⟩ | ⟨ad, len', cap', m, n, D, Pl, hcs, _, hl, hm, hmm, hx, hi⟩
 ·simp [Value.cells] at hcs
  obtain ⟨rfl, rfl, rfl⟩ := hcs
  exact ⟨[], ⟨rfl, fun i x hx => by simp at hx, by simp, Nat.le_refl _⟩, by simp⟩
 ·simp [Value.cells] at hcs
  obtain ⟨rfl, rfl, rfl⟩ := hcs
  have hmc : m = cap := by simpa using hmm
  have key : ∀ i, i < len -> ∃ u : Act × Sl, (∀ j v, [Value.int .i64 u.1.kd, .int .i64 u.1.ar, .int .i64 u.1.cl, .int .i64 u.1.a, .int .i64 u.1.b, .slice u.2.a u.2.len u.2.cap][j]? = some v -> cell w.heap ((ad.add (i * 6)).add j) = some v) ∧
   SlR u.2 1 (intsI u.1.l) w.heap (fun b => b < w.heap.size) /\ u.2.len <= u.2.cap /\ I63 u.1.a /\ (∀ z ∈ u.1.l, I63 z) := by
   intro i hil
   obtain ⟨cs', hc, ht'⟩ := hi i (by omega)
   rw [hC] at hc
   obtain ⟨x, s, hcs, q1, q2, q3, q4, _⟩ := act_cells ht hone hC h0 h1 h2 h3 h4 h5 hCi hei ht'
   obtain ⟨_, hcl, hat⟩ := World.cells?_some hc
   refine ⟨(x, s), fun j v hv => ?_, q1, q2, q3, q4⟩
   have hj := (List.getElem?_eq_some_iff.1 hv).1
   have := hat j (by simpa using hj)
   rw [hcs] at this
   rw [hv] at this
   exact this
  let g : Nat -> Act := fun i => if hi : i < len then (key i hi).choose.1 else ⟨0, 0, 0, 0, 0, []⟩
  have hg : ∀ i, (hi : i < len) -> g i = (key i hi).choose.1 := fun i hi => by simp only [g, hi, dif_pos]
  refine ⟨(List.range len).map g, ⟨by simp, fun i x hx => ?_, fun x hx => ?_, Nat.le_refl _⟩, ?_⟩
  ·have hil : i < len := by
    have := (List.getElem?_eq_some_iff.1 hx).1
    simpa using this
   have hgx : g i = x := by simpa [hil] using hx
   rw [hg i hil] at hgx
   obtain ⟨⟨x', s2⟩, hu, hc, q1, q2, _⟩ : ∃ u : Act × Sl, u.1 = x /\ (∀ j v, [Value.int .i64 u.1.kd, .int .i64 u.1.ar, .int .i64 u.1.cl, .int .i64 u.1.a, .int .i64 u.1.b, .slice u.2.a u.2.len u.2.cap][j]? = some v -> cell w.heap ((ad.add (i * 6)).add j) = some v) ∧
    SlR u.2 1 (intsI u.1.l) w.heap (fun b => b < w.heap.size) /\ u.2.len <= u.2.cap /\ I63 u.1.a /\ (∀ z ∈ u.1.l, I63 z) := ⟨_, hgx, (key i hil).choose_spec⟩
   have hu : x' = x := hu
   subst hu
   simp only at hc q1 q2
   have hz0 := (key 0 (by omega)).choose_spec.1
   have hz1 := hz0 0 _ rfl
   have hsp := cell_lt hz1
   simp only [Nat.zero_mul, Addr.add_zero'] at hsp
   obtain ⟨b, o, s⟩ := ad
   have hs : s = none := hsp.2
   subst hs
   rw [add_lit] at hc
   refine ⟨b, o, _, rfl, hsp.1, ?_, ?_, ?_, ?_, ?_, ?_, q1, q2⟩
   ·have := hc 0 _ rfl; rw [add_lit] at this; exact this
   ·have := hc 1 _ rfl; rw [add_lit] at this; exact this
   ·have := hc 2 _ rfl; rw [add_lit] at this; exact this
   ·have := hc 3 _ rfl; rw [add_lit] at this; exact this
   ·have := hc 4 _ rfl; rw [add_lit] at this; exact this
   ·have := hc 5 _ rfl; rw [add_lit] at this; exact this
  ·obtain ⟨i, hi, rfl⟩ := List.mem_map.1 hx
   have hil := List.mem_range.1 hi
   rw [hg i hil]
   obtain ⟨_, _, _, q3, q4⟩ := (key i hil).choose_spec
   exact ⟨q3, q4⟩
  ·have : maxLen = 9223372036854775807 := rfl
   simp; omega
end
end Go.Ar