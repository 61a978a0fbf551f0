/- Texts joined. -/
import Derived.Test.YtmjjhknmbflfhaaGreatDoorY4
set_option linter.unusedVariables false
set_option linter.unusedSimpArgs false
namespace Go.Ar
open Go Go.Vc Go.Proofs
open Go.Bu (XA Zg Xj cnt)


variable {U : Hp} {F H : Rg} {p hs : Nat} {A : AR} {sp : Sp} {Y : Lay} {T : Nat -> Hp -> Rg -> Prop}
open Classical in
noncomputable def Prt {L : Type} (C : L -> Hp -> Rg -> Prop) (S : L -> Prop) (i : L) : Hp -> Rg -> Prop := if S i then C i else Wc1
theorem Prt.loc {L : Type} {C : L -> Hp -> Rg -> Prop} {S : L -> Prop} (hC : ∀ i, Lcl (C i)) (i : L) : Lcl (Prt C S i) := by
 unfold Prt; split
 ·exact hC i
 ·exact Wc1.loc
theorem Prt.put {L : Type} {C : L -> Hp -> Rg -> Prop} {S : L -> Prop} {F G : Rg} (hC : ∀ i, Lcl (C i)) (h : Sep (Prt C S) U F) (i : L) (hd : ∀ b, G b -> ¬ F b) (hi : C i U G) : Sep (Prt C fun j => S j ∨ j = i) U fun b => F b ∨ G b := by
 refine h.put (Prt.loc hC) i hd (fun j hj => ?_) ?_ (Prt.loc hC i)
 ·unfold Prt
  by_cases hS : S j
  ·rw [if_pos (.inl hS), if_pos hS]
  ·rw [if_neg (fun h => hS (h.resolve_right hj)), if_neg hS]
 ·unfold Prt
  rw [if_pos (.inr rfl)]; exact hi
theorem Prt.all {L : Type} {C : L -> Hp -> Rg -> Prop} {S : L -> Prop} {F : Rg} (h : Sep (Prt C S) U F) (hS : ∀ i, S i) : Sep C U F := by
 have : Prt C S = C := by
  funext i; unfold Prt; rw [if_pos (hS i)]
 rw [this] at h; exact h
theorem Prt.one {L : Type} {C : L -> Hp -> Rg -> Prop} (S : L -> Prop) (l : L) (h : ∀ i, S i -> C i U fun _ => False) : Sep (Prt C S) U fun _ => False := by
 refine ⟨fun _ => l, fun i => ?_⟩
 have : (fun (b : Nat) => False /\ l = i) = fun _ => False := by funext b; simp
 rw [this]
 unfold Prt
 by_cases hS : S i
 ·rw [if_pos hS]; exact h i hS
 ·rw [if_neg hS]; trivial
theorem WbU {tb : List Cls} : ∀ v ∈ tabV tb, one1 v = true := by
 intro v hv
 simp only [tabV, List.mem_flatMap] at hv
 obtain ⟨c, _, hc⟩ := hv
 simp at hc
 rcases hc with rfl | rfl | rfl <;> rfl
theorem Vb {s : Sl} {xs : List (Int × Int × Int)} (ha : Acts U s xs) (hv : ZC xs = true) {i : Nat} {c : Cls} (hc : (xs.map Z4)[i]? = some c) : xs[i]? = some ((c.size : Int), (c.pages : Int), (c.batch : Int)) /\ c.ok := by
 rw [List.getElem?_map, Option.map_eq_some_iff] at hc
 obtain ⟨⟨x, y, z⟩, ht, rfl⟩ := hc
 obtain ⟨c, hok, he, hx, hy, hz⟩ := Wcf (((Qm xs).1 hv).2.2.1 i _ ht)
 simp only at hx hy hz
 rw [he, ht, hx, hy, hz]
 exact ⟨rfl, hok⟩
theorem Wbu {s : Sl} {xs : List (Int × Int × Int)} (ha : Acts U s xs) (hv : ZC xs = true) {R : Sl -> Hp -> Prop} (hR : ∀ s' σ', Ext0 U σ' -> SlR s' 3 (tabV (xs.map Z4)) σ' (fun b => U.size <= b) -> R s' σ') : Wc.call s U R := by
 refine Wc.of_vc ?_
 unfold Wc.vc
 have hva := (Qm xs).1 hv
 have hlen := ha.1
 have hl0 : 0 < (xs.map Z4).length := by rw [List.length_map]; omega
 have h0 : (xs.map Z4)[0]? = some (xs.map Z4)[0] := gGe hl0
 obtain ⟨bb, oo, hsa, _⟩ := ha.2 0 _ _ _ (Vb ha hv h0).1
 refine ifF (by rw [hsa]; rfl) (nw (cs := []) fun v hvz e1 hb1 => ?_)
 have hav := Zc ha e1
 refine (RowR.nil v (fun b => U.size <= b) 3 (some ⟨U.size, 0, none⟩)).app (ys := tabV (xs.map Z4)) rfl (by rw [Va, List.length_map]; omega) ?_ WbU (by simp only; omega) (by simp only; omega) (by omega) fun s' h' hl' e' ho' => hR s' h' (Ext.fresh e1 e' fun i hi => hi) ?_
 ·rw [hsa]
  intro j u hu
  have hjl := (gSi.1 hu).1
  rw [Va, List.length_map] at hjl
  have hi : j / 3 < (xs.map Z4).length := by rw [List.length_map]; omega
  have hc : (xs.map Z4)[j / 3]? = some (xs.map Z4)[j / 3] := gGe hi
  generalize (xs.map Z4)[j / 3] = c at hc
  have hg := GX hc
  obtain ⟨b, o, g1, _, g3, g4, g5⟩ := hav.2 (j / 3) _ _ _ (Vb ha hv hc).1
  rw [hsa] at g1; cases g1
  rw [add_lit]
  rcases (by omega : j = 3 * (j / 3) ∨ j = 3 * (j / 3) + 1 ∨ j = 3 * (j / 3) + 2) with hj | hj | hj
  ·rw [hj] at hu; rw [hg.1] at hu; cases hu
   rw [show oo + j = oo + j / 3 * 3 by omega]; exact g3
  ·rw [hj] at hu; rw [hg.2.1] at hu; cases hu
   rw [show oo + j = oo + j / 3 * 3 + 1 by omega]; exact g4
  ·rw [hj] at hu; rw [hg.2.2] at hu; cases hu
   rw [show oo + j = oo + j / 3 * 3 + 2 by omega]; exact g5
 ·rw [List.nil_append] at ho'
  refine (SlR.loc _ _ _).mono ho'.slR fun b _ hg => ?_
  rcases hg with h | h
  ·exact h
  ·omega
end Go.Ar
namespace Go.Ar
open Go Go.Vc Go.Proofs
open Go.Bu (XA Zg Xj cnt)


variable {U : Hp} {F H : Rg} {p hs : Nat} {A : AR} {sp : Sp} {Y : Lay} {T : Nat -> Hp -> Rg -> Prop}
def newA (n room : Nat) (tb : List Cls) : AR := { n := n, room := room, tb := tb, S := Go.Bu.emptyS, st := List.replicate n 0, ow := fun _ => 0, cen := List.replicate tb.length [], tra := List.replicate tb.length ⟨0, []⟩, runs := [] }
def newP (n room : Nat) (tb : List Cls) (i : Nat) : AR := { newA n room tb with cen := List.replicate i [], tra := List.replicate i ⟨0, []⟩ }
def newE (xs : List (Int × Int × Int)) (n : Nat) (room : Int) : Int := if ZC xs then (if 32 <= n /\ n % 16 = 0 /\ 0 <= room /\ room <= 8 then 0 else 1) else 2
def S0 : Lb -> Prop
 | .crow | .trow | .cen _ | .tra _ => True
 | _ => False
theorem G5 {i cp tp : Nat} {c : Cls} {ss : List SpA} {t : TrA} {ps : List (Nat × Nat)} {Gc Gt : Rg} {crow trow : Sl} (hpos : Y.cps.length = i /\ Y.tps.length = i)
 (h : Sep (ACh A { Y with crow := crow, trow := trow, cps := Y.cps ++ [cp], tps := Y.tps ++ [tp] } (traT A { Y with crow := crow, trow := trow, cps := Y.cps ++ [cp], tps := Y.tps ++ [tp] }) (hdV Y)) U F)
 (hlc : A.cen.length = i) (hlt : A.tra.length = i) (hc : A.tb[i]? = some c) (hC : CeH U Gc cp c ps ss) (hTf : TfH U Gt tp c.batch A.room t) (d1 : ∀ b, Gc b -> ¬ F b) (d2 : ∀ b, Gt b -> ¬ F b) (d3 : ∀ b, Gc b -> ¬ Gt b) {K : Hp -> Prop}
 (hK : ∀ σ' Y', Ext F U σ' -> Y'.p = Y.p -> Y'.hs = Y.hs -> Y'.cps.length = i + 1 -> Y'.tps.length = i + 1 -> Sep (ACh { A with cen := A.cen ++ [ss], tra := A.tra ++ [t] } Y' (traT { A with cen := A.cen ++ [ss], tra := A.tra ++ [t] } Y') (hdV Y')) σ' (fun b => (F b ∨ Gc b) ∨ Gt b) -> K σ') :
 NilP (some ⟨Y.p, 0, none⟩) fun a93 => St1 (a93.add 5) (.slice crow.a crow.len crow.cap) U fun v25 => NilP (some ⟨Y.p, 0, none⟩) fun a95 => St1 (a95.add 6) (.slice trow.a trow.len trow.cap) v25 K := by
 have hT : ∀ k, Lcl (traT A { Y with crow := crow, trow := trow, cps := Y.cps ++ [cp], tps := Y.tps ++ [tp] } k) := fun k => traT.loc k
 refine nilP (Wiv (Y := { Y with crow := crow, trow := trow, cps := Y.cps ++ [cp], tps := Y.tps ++ [tp] }) hT h (i := 5) (by simp [hdV]) fun v1 e1 h1 => nilP (Wiv (Y := { Y with crow := crow, trow := trow, cps := Y.cps ++ [cp], tps := Y.tps ++ [tp] }) hT h1 (i := 6) (by simp [hdV]) fun v2 e2 h2 => ?_))
 have hC2 := (CeH.loc (c := c) (ps := ps) (ss := ss) (p := cp)).keep ((CeH.loc (c := c) (ps := ps) (ss := ss) (p := cp)).keep hC e1 fun b _ hb hf => d1 b hb hf) e2 fun b _ hb hf => d1 b hb hf
 have hT2 := (TfH.loc (p := tp) (batch := c.batch) (room := A.room) (t := t)).keep ((TfH.loc (p := tp) (batch := c.batch) (room := A.room) (t := t)).keep hTf e1 fun b _ hb hf => d2 b hb hf) e2 fun b _ hb hf => d2 b hb hf
 have h3 := WhY (cp := cp) (tp := tp) h2 hlc hlt (by simp only; rw [List.getElem?_append_right (by omega), hpos.1, Nat.sub_self]; rfl) (by simp only; rw [List.getElem?_append_right (by omega), hpos.2, Nat.sub_self]; rfl) hc hC2 hT2 d1 d2 d3
 exact hK v2 { Y with crow := crow, trow := trow, cps := Y.cps ++ [cp], tps := Y.tps ++ [tp] } (e1.trans e2) rfl rfl (by simp [hpos.1]) (by simp [hpos.2]) h3
theorem chs {cs : List Value} {σ' : Hp} (hT : ∀ k, Lcl (T k)) (h : Sep (ACh A Y T cs) U F) (e : Ext0 U σ') : Sep (ACh A Y T cs) σ' F := (Sep.loc (ACh.loc hT)).keep0 h e
theorem WeY {cs : List Value} (hT : ∀ k, Lcl (T k)) (h : Sep (ACh A Y T cs) U F) : Sep (ACh A Y T cs) U (Cut F U) := (Sep.loc (ACh.loc hT)).cut h
end Go.Ar
namespace Go.Ar
open Go Go.Vc Go.Proofs
open Go.Bu (XA Zg Xj cnt)


variable {U : Hp} {F H : Rg} {p hs : Nat} {A : AR} {sp : Sp} {Y : Lay} {T : Nat -> Hp -> Rg -> Prop}
theorem Wfk (n room : Nat) (tb : List Cls) (i : Nat) : ({ newP n room tb i with cen := (newP n room tb i).cen ++ [[]], tra := (newP n room tb i).tra ++ [⟨0, []⟩] } : AR) = newP n room tb (i + 1) := by
 unfold newP
 simp only [← List.replicate_succ']
theorem WgA (n room : Nat) (tb : List Cls) : newP n room tb tb.length = newA n room tb := rfl
theorem Wi7 {i cp tp : Nat} {c : Cls} {ss : List SpA} {t : TrA} {ps : List (Nat × Nat)} {Gc Gt : Rg} {z : Nat} (hF : ∀ b, F b -> z <= b /\ b < U.size) (hpos : Y.cps.length = i /\ Y.tps.length = i) (hi : i < 40)
 (h : Sep (ACh A Y (traT A Y) (hdV Y)) U F) (hlc : A.cen.length = i) (hlt : A.tra.length = i) (hc : A.tb[i]? = some c) (hC : CeH U Gc cp c ps ss) (hTf : TfH U Gt tp c.batch A.room t) (d1 : ∀ b, Gc b -> ¬ F b /\ z <= b /\ b < U.size) (d2 : ∀ b, Gt b -> ¬ F b /\ z <= b /\ b < U.size) (d3 : ∀ b, Gc b -> ¬ Gt b) {J4 : Hp -> Prop}
 (hK : ∀ σ' Y', Ext F U σ' -> Y'.p = Y.p -> Y'.hs = Y.hs -> Y'.cps.length = i + 1 -> Y'.tps.length = i + 1 -> Sep (ACh { A with cen := A.cen ++ [ss], tra := A.tra ++ [t] } Y' (traT { A with cen := A.cen ++ [ss], tra := A.tra ++ [t] } Y') (hdV Y')) σ' (fun b => z <= b) -> J4 σ') :
 Held U fun S => NilP (some ⟨Y.p, 0, none⟩) fun a80 => LdH S .s (a80.add 5) fun (t82 : Sl) => NilP (some ⟨Y.p, 0, none⟩) fun a87 => LdH S .s (a87.add 6) fun (t89 : Sl) =>
  (Nw (.cells #[.pointer (some ⟨cp, 0, none⟩)] 110 (0, 0)) U fun n84 v21 => And (S v21) <|
   (App t82 1 8 110 [.pointer none] ⟨(some n84), 1, 1⟩ v21 fun t85 v22 => And (S v22) <| Nw (.cells #[.pointer (some ⟨tp, 0, none⟩)] 112 (0, 0)) v22 fun n91 v23 => And (S v23) <| App t89 1 8 112 [.pointer none] ⟨(some n91), 1, 1⟩ v23 fun t92 v24 => And (S v24) <|
   NilP (some ⟨Y.p, 0, none⟩) fun a93 => St1 (a93.add 5) (.slice t85.a t85.len t85.cap) v24 fun v25 => NilP (some ⟨Y.p, 0, none⟩) fun a95 => St1 (a95.add 6) (.slice t92.a t92.len t92.cap) v25 fun v26 => J4 v26) ∧
   (Nw (.cells #[.pointer (some ⟨tp, 0, none⟩)] 112 (0, 0)) v21 fun n911 v27 => And (S v27) <| App t82 1 8 110 [.pointer none] ⟨(some n84), 1, 1⟩ v27 fun t851 v28 => And (S v28) <| App t89 1 8 112 [.pointer none] ⟨(some n911), 1, 1⟩ v28 fun t921 v29 => And (S v29) <|
   NilP (some ⟨Y.p, 0, none⟩) fun a931 => St1 (a931.add 5) (.slice t851.a t851.len t851.cap) v29 fun v30 => NilP (some ⟨Y.p, 0, none⟩) fun a951 => St1 (a951.add 6) (.slice t921.a t921.len t921.cap) v30 fun v31 => J4 v31)) ∧
  (Nw (.cells #[.pointer (some ⟨tp, 0, none⟩)] 112 (0, 0)) U fun n912 v32 => And (S v32) <| Nw (.cells #[.pointer (some ⟨cp, 0, none⟩)] 110 (0, 0)) v32 fun n841 v33 => And (S v33) <|
  App t82 1 8 110 [.pointer none] ⟨(some n841), 1, 1⟩ v33 fun t852 v34 => And (S v34) <| App t89 1 8 112 [.pointer none] ⟨(some n912), 1, 1⟩ v34 fun t922 v35 => And (S v35) <|
  NilP (some ⟨Y.p, 0, none⟩) fun a932 => St1 (a932.add 5) (.slice t852.a t852.len t852.cap) v35 fun v36 => NilP (some ⟨Y.p, 0, none⟩) fun a952 => St1 (a952.add 6) (.slice t922.a t922.len t922.cap) v36 fun v37 => J4 v37) := by
 have hT : ∀ k, Lcl (traT A Y k) := fun k => traT.loc k
 have hlC := CeH.loc (c := c) (ps := ps) (ss := ss) (p := cp)
 have hlT := TfH.loc (p := tp) (batch := c.batch) (room := A.room) (t := t)
 refine ⟨fun m => Blk m Y.p (hdV Y), (hdCh h).1, nilP ⟨Y.crow, fun m hm => by rw [add_lit, hm.cell]; rfl, nilP ⟨Y.trow, fun m hm => by rw [add_lit, hm.cell]; rfl, ?_⟩⟩⟩
 have app2 : ∀ (w : Hp) (F1 : Rg) (b1 b2 : Nat), Ext0 U w -> (∀ b, F1 b -> F b) -> Sep (ACh A Y (traT A Y) (hdV Y)) w F1 -> Blk w b1 [.pointer (some ⟨cp, 0, none⟩)] -> Blk w b2 [.pointer (some ⟨tp, 0, none⟩)] -> U.size <= b1 -> U.size <= b2 →
  App Y.crow 1 8 110 [.pointer none] ⟨some ⟨b1, 0, none⟩, 1, 1⟩ w fun t85 v28 => And (Blk v28 Y.p (hdV Y)) <| App Y.trow 1 8 112 [.pointer none] ⟨some ⟨b2, 0, none⟩, 1, 1⟩ v28 fun t92 v29 => And (Blk v29 Y.p (hdV Y)) <|
   NilP (some ⟨Y.p, 0, none⟩) fun a93 => St1 (a93.add 5) (.slice t85.a t85.len t85.cap) v29 fun v30 => NilP (some ⟨Y.p, 0, none⟩) fun a95 => St1 (a95.add 6) (.slice t92.a t92.len t92.cap) v30 fun v31 => J4 v31 := by
  intro w F1 b1 b2 ew hF1 hw hb1 hb2 hz1 hz2
  have hFw : ∀ b, F1 b -> z <= b /\ b < U.size := fun b hb => hF b (hF1 b hb)
  have hsw := ew.1
  refine Gs hT hw (by omega) (by omega) hb1 (fun hf => by have := hFw _ hf; omega) fun s1 v28 e28 h28 => ?_
  have h28b := (hdCh h28).1
  have h28' : Sep (ACh A { Y with crow := s1, cps := Y.cps ++ [cp] } (traT A { Y with crow := s1, cps := Y.cps ++ [cp] }) (hdV Y)) v28 (Grow F1 w) := h28
  refine ⟨h28b, ?_⟩
  have c28 : Sep (ACh A { Y with crow := s1, cps := Y.cps ++ [cp] } (traT A { Y with crow := s1, cps := Y.cps ++ [cp] }) (hdV Y)) v28 (fun b => F1 b ∨ w.size <= b) := h28'
  have hb2' := e28.blk hb2 fun hf => by have := hFw _ hf; omega
  have hb2lt := hb2.lt
  refine GB c28 (by simp only; omega) (by simp only; omega) hb2' (fun hf => by
   rcases hf with hf | hf
   ·have := hFw _ hf; omega
   ·omega) fun s2 v29 e29 h29 => ?_
  refine ⟨(hdCh h29).1, ?_⟩
  have sub29 : ∀ b, (F1 b ∨ w.size <= b) -> F b ∨ U.size <= b := fun b hb => by
   rcases hb with hb | hb
   ·exact .inl (hF1 b hb)
   ·exact .inr (by omega)
  have eAll : Ext F U v29 := ((Ext0.to ew).trans (e28.sub hF1)).newT e29 sub29
  have hC29 := hlC.keep hC eAll fun b _ hb hf => (d1 b hb).1 hf
  have hT29 := hlT.keep hTf eAll fun b _ hb hf => (d2 b hb).1 hf
  have hs28 := e28.1
  refine G5 (F := Grow (fun b => F1 b ∨ w.size <= b) v28) hpos h29 hlc hlt hc hC29 hT29 (fun b hb hf => ?_) (fun b hb hf => ?_) d3 fun w2 Y' e2 p1 p2 p3 p4 h2 => ?_
  ·have := d1 b hb
   rcases hf with (hf | hf) | hf
   ·exact this.1 (hF1 b hf)
   ·omega
   ·omega
  ·have := d2 b hb
   rcases hf with (hf | hf) | hf
   ·exact this.1 (hF1 b hf)
   ·omega
   ·omega
  ·refine hK w2 Y' (eAll.newT e2 fun b hb => ?_) p1 p2 p3 p4 ((Sep.loc (ACh.loc (fun k => traT.loc k))).mono h2 fun b _ hb => ?_)
   ·rcases hb with (hb | hb) | hb
    ·exact .inl (hF1 b hb)
    ·exact .inr (by omega)
    ·exact .inr (by omega)
   ·have hz0 : z <= U.size := by have := (d1 _ hC.fp); omega
    rcases hb with (((hb | hb) | hb) | hb) | hb
    ·exact (hFw b hb).1
    ·omega
    ·omega
    ·exact (d1 b hb).2.1
    ·exact (d2 b hb).2.1
 have S0 : ∀ {w : Hp}, Ext0 U w -> Blk w Y.p (hdV Y) := fun e => e.blk (hdCh h).1 id
 refine ⟨nw (cs := [.pointer (some ⟨cp, 0, none⟩)]) fun v21 z21 e21 b21 => ⟨S0 e21, ?_, ?_⟩, nw (cs := [.pointer (some ⟨tp, 0, none⟩)]) fun v32 z32 e32 b32 => ⟨S0 e32, nw (cs := [.pointer (some ⟨cp, 0, none⟩)]) fun v33 z33 e33 b33 => ⟨S0 (Ext.trans e32 e33), ?_⟩⟩⟩
 ·-- row, box, row
  have h21 := chs hT h e21
  refine Gs hT h21 (by omega) (by omega) b21 (fun hf => by have := hF _ hf; omega) fun s1 v22 e22 h22 => ⟨(hdCh h22).1, ?_⟩
  have h22' : Sep (ACh A { Y with crow := s1, cps := Y.cps ++ [cp] } (traT A { Y with crow := s1, cps := Y.cps ++ [cp] }) (hdV Y)) v22 (Grow F v21) := h22
  have c22 := WeY (fun k => traT.loc k) h22'
  refine nw (cs := [.pointer (some ⟨tp, 0, none⟩)]) fun v23 z23 e23 b23 => ?_
  have h23 := chs (fun k => traT.loc k) c22 e23
  refine ⟨(hdCh h23).1, GB h23 (by simp only; omega) (by simp only; omega) b23 (fun hf => by have := hf.2; omega) fun s2 v24 e24 h24 => ⟨(hdCh h24).1, ?_⟩⟩
  have hs22 := e22.1
  have hs23 := e23.1
  have sub24 : ∀ b, Cut (Grow F v21) v22 b -> F b ∨ U.size <= b := fun b hb => by
   rcases hb.1 with h | h
   ·exact .inl h
   ·exact .inr (by omega)
  have eAll : Ext F U v24 := ((((Ext0.to e21).trans e22).trans0 e23)).newT e24 sub24
  have hC24 := hlC.keep hC eAll fun b _ hb hf => (d1 b hb).1 hf
  have hT24 := hlT.keep hTf eAll fun b _ hb hf => (d2 b hb).1 hf
  refine G5 (F := Grow (Cut (Grow F v21) v22) v23) hpos h24 hlc hlt hc hC24 hT24 (fun b hb hf => ?_) (fun b hb hf => ?_) d3 fun w2 Y' e2 p1 p2 p3 p4 h2 => ?_
  ·have := d1 b hb
   rcases hf with hf | hf
   ·rcases hf.1 with hf | hf
    ·exact this.1 hf
    ·omega
   ·omega
  ·have := d2 b hb
   rcases hf with hf | hf
   ·rcases hf.1 with hf | hf
    ·exact this.1 hf
    ·omega
   ·omega
  ·refine hK w2 Y' (eAll.newT e2 fun b hb => ?_) p1 p2 p3 p4 ((Sep.loc (ACh.loc (fun k => traT.loc k))).mono h2 fun b _ hb => ?_)
   ·rcases hb with hb | hb
    ·exact sub24 b hb
    ·exact .inr (by omega)
   ·have hz0 : z <= U.size := by have := (d1 _ hC.fp); omega
    rcases hb with ((hb | hb) | hb) | hb
    ·rcases sub24 b hb with h | h
     ·exact (hF b h).1
     ·omega
    ·omega
    ·exact (d1 b hb).2.1
    ·exact (d2 b hb).2.1
 ·-- box, row, row
  refine nw (cs := [.pointer (some ⟨tp, 0, none⟩)]) fun v27 z27 e27 b27 => ⟨S0 (Ext.trans e21 e27), ?_⟩
  exact app2 v27 F U.size v21.size (Ext.trans e21 e27) (fun b hb => hb) (chs hT (chs hT h e21) e27) (e27.blk b21 id) b27 (Nat.le_refl _) (by omega)
 ·exact app2 v33 F v32.size U.size (Ext.trans e32 e33) (fun b hb => hb) (chs hT (chs hT h e32) e33) b33 (e33.blk b32 id) (by omega) (Nat.le_refl _)
end Go.Ar
namespace Go.Ar
open Go Go.Vc Go.Proofs
open Go.Bu (XA Zg Xj cnt)


variable {U : Hp} {F H : Rg} {p hs : Nat} {A : AR} {sp : Sp} {Y : Lay} {T : Nat -> Hp -> Rg -> Prop}
theorem Zh {P : Hp -> Rg -> Prop} (hl : Lcl P) {a : Nat} (h : P U fun b => a <= b) : P U fun b => a <= b /\ b < U.size := hl.mono h fun b hb hf => ⟨hf, hb⟩
theorem WiT {n room : Nat} {tb : List Cls} (h1 : 32 <= n) (h2 : n <= 1024) (h3 : n % 16 = 0) (h4 : room <= 8) (h5 : 1 <= tb.length) (h6 : tb.length <= 40) (h7 : ∀ c ∈ tb, c.ok) (hc : Y.cps.length = tb.length) (ht : Y.tps.length = tb.length) : LayOk (newA n room tb) Y :=
 ⟨hc, ht, by simp [newA], by simp [newA], h5, h6, h1, h2, h3, by simp [newA], h4, h7⟩
theorem Wen {s : Sl} {xs : List (Int × Int × Int)} (ha : Acts U s xs) (hS : SpH3 U H hs sp) (room : Int) {R : Option Addr -> Int -> Hp -> Prop}
 (h0 : newE xs sp.st.length room ≠ 0 -> ∀ σ', Ext0 U σ' -> R none (newE xs sp.st.length room) σ')
 (h1 : newE xs sp.st.length room = 0 -> ∀ σ' Y, Ext0 U σ' -> Y.hs = hs -> AHY σ' (fun b => U.size <= b) Y (newA sp.st.length room.toNat (xs.map Z4)) (traT (newA sp.st.length room.toNat (xs.map Z4)) Y) -> R (some ⟨Y.p, 0, none⟩) 0 σ') :
 ZQ.call s (some ⟨hs, 0, none⟩) room U R := by
 refine ZQ.of_vc ?_
 unfold ZQ.vc
 have hn2 : sp.st.length <= 1024 := by obtain ⟨q, r, l, B, h⟩ := hS; exact h.n2
 refine Wfq ha fun v e => ?_
 cases hv : ZC xs
 ·have e1 : newE xs sp.st.length room = 2 := by unfold newE; rw [hv]; rfl
  have := h0 (by rw [e1]; decide) v e
  rw [e1] at this
  exact ifT rfl this
 have eE : newE xs sp.st.length room = if 32 <= sp.st.length /\ sp.st.length % 16 = 0 /\ 0 <= room /\ room <= 8 then 0 else 1 := by unfold newE; rw [hv, if_pos rfl]
 refine ifF rfl (QG (hS.keep0 e) ?_)
 have bad : ¬ (32 <= sp.st.length /\ sp.st.length % 16 = 0 /\ 0 <= room /\ room <= 8) -> R none 1 v := fun hn => by
  rw [if_neg hn] at eE
  have := h0 (by rw [eE]; decide) v e
  rw [eE] at this; exact this
 have tm : (((sp.st.length : Nat) : Int).tmod 16) = ((sp.st.length % 16 : Nat) : Int) := by rw [ZK (by omega)]; simp
 refine JnB.intro (ifD (fun c1 => JnB.intro (ifT rfl (JnB.intro (ifT rfl (ifT rfl (bad (by omega))))))) fun c1 => nz (by decide) ?_)
 rw [tm, Wh8]
 refine JnB.intro (iff_ (fun c2 => JnB.intro (ifT rfl (ifT rfl (bad (fun h => by have := h.2.1; simp [this] at c2))))) fun c2 => ?_)
 have c2' : sp.st.length % 16 = 0 := by simpa using c2
 refine JnB.intro (ifD (fun c3 => ifT rfl (bad (by omega))) fun c3 => ifD (fun c4 => bad (by omega)) fun c4 => ?_)
 obtain ⟨rm, rfl⟩ := Int.eq_ofNat_of_zero_le (show 0 <= room by omega)
 rw [if_pos (by omega)] at eE
 have h1 := h1 eE
 simp only [iTn] at h1
 have hva := (Qm xs).1 hv
 have hav := Zc ha e
 have hn1 : 32 <= sp.st.length := by omega
 generalize sp.st.length = n at *
 have hlen : s.len = (xs.map Z4).length := by rw [List.length_map]; exact ha.1
 have hcl : ∀ {σ' : Hp} {i : Nat} {c : Cls}, Acts σ' s xs -> (xs.map Z4)[i]? = some c -> xs[i]? = some ((c.size : Int), (c.pages : Int), (c.batch : Int)) /\ c.ok := fun h hc => Vb h hv hc
 have htb1 : 1 <= (xs.map Z4).length /\ (xs.map Z4).length <= 40 := by rw [List.length_map]; omega
 refine Wbu hav hv fun tab v5 e5 htab => WeM fun v6 op e6 hop hP => G0 fun v7 z7 e7 hm => ?_
 generalize htbd : xs.map Z4 = tb at *
 refine nw (cs := [.slice tab.a tab.len tab.cap, .pointer (some ⟨hs, 0, none⟩), .pointer none, .pointer none, .pointer (some ⟨op, 0, none⟩), .slice none 0 0, .slice none 0 0, .map (some v6.size)]) fun v8 z8 e8 b8 => ?_
 refine Go.Bu.New_ok _ (fun hb => absurd ⟨by omega, by omega⟩ hb) fun n' hn' _ _ v9 sb ms e9 hB hfp => ?_
 have hnn : n = n' := by omega
 subst hnn
 have b9 := e9.blk b8 id
 refine nilP (b9.s1 (by simp) fun v10 o10 b10 => Wh4 (by omega) (by omega) c2' fun v11 tp tq e11 htp htq hTk => nilP ((e11.blk b10 id).s1 (by simp) fun v12 o12 b12 => ?_))
 have s5 := e5.1; have s6 := e6.1; have s9 := e9.1; have s10 := o10.1; have s11 := e11.1; have s12 := o12.1
 have hb8 := b8.lt
 have x9 : Ext (· = v7.size) v9 v12 := (o10.ext.trans (Ext0.to e11)).trans o12.ext
 have x5 : Ext (· = v7.size) v5 v12 := (Ext0.to (Ext.trans (Ext.trans (Ext.trans e6 e7) e8) e9)).trans x9
 have x6 : Ext (· = v7.size) v6 v12 := (Ext0.to (Ext.trans (Ext.trans e7 e8) e9)).trans x9
 have x7 : Ext (· = v7.size) v7 v12 := (Ext0.to (Ext.trans e8 e9)).trans x9
 have x11 : Ext (· = v7.size) v11 v12 := o12.ext
 have p1 := (SlR.loc _ _ _).keep (Zh (SlR.loc _ _ _) htab) x5 fun b _ hb hf => by omega
 have p2 := (PmH.loc (p := op) (ow := fun _ => 0)).keep (Zh PmH.loc hP) x6 fun b _ hb hf => by omega
 have p3 : MapL v12 v6.size .i64 (.i .i64) [] := x7.mapL (hm _ _) (by omega)
 have p5 : U4 v8.size n Go.Bu.emptyS v12 (fun b => v8.size <= b /\ b < v9.size) := (U4.loc _ _ _).keep (Zh (U4.loc _ _ _) ⟨sb, ms, hB, hfp⟩) x9 fun b _ hb hf => by omega
 have p6 : TrkR tp (List.replicate n 0) v12 (fun b => v10.size <= b /\ b < v11.size) := (TrkR.loc _ _).keep (Zh (TrkR.loc _ _) ⟨tq, hTk, htp, htq⟩) x11 fun b _ hb hf => by omega
 let Y0 : Lay := { p := v7.size, hs := hs, fr := v8.size, tr := tp, op := op, rn := v6.size, tab := tab, crow := ⟨none, 0, 0⟩, trow := ⟨none, 0, 0⟩, cps := [], tps := [] }
 have b12' : Blk v12 v7.size (hdV Y0) := b12
 let Cf := ACh (newP n rm tb 0) Y0 (traT (newP n rm tb 0) Y0) (hdV Y0)
 have hCf : ∀ i, Lcl (Cf i) := ACh.loc fun k => traT.loc k
 have q0 : Sep (Prt Cf S0) v12 fun _ => False := Prt.one S0 .hd fun i hi => by
  cases i <;> first | exact hi.elim | exact RowR.nil _ _ _ _ | exact trivial
 have q1 := Prt.put hCf q0 .tab (G := fun b => v.size <= b /\ b < v5.size) (fun b hb hf => hf) p1
 have q2 := Prt.put hCf q1 .own (G := fun b => v5.size <= b /\ b < v6.size) (fun b hb hf => by
  rcases hf with hf | hf
  ·exact hf
  ·omega) p2
 have q3 := Prt.put hCf q2 .runs (G := fun b => b = v6.size) (fun b hb hf => by
  rcases hf with (hf | hf) | hf
  ·exact hf
  ·omega
  ·omega) ⟨rfl, p3⟩
 have q4 := Prt.put hCf q3 .hd (G := fun b => b = v7.size) (fun b hb hf => by
  rcases hf with ((hf | hf) | hf) | hf
  ·exact hf
  ·omega
  ·omega
  ·omega) ⟨rfl, b12'⟩
 have q5 := Prt.put hCf q4 .free (G := fun b => v8.size <= b /\ b < v9.size) (fun b hb hf => by
  rcases hf with (((hf | hf) | hf) | hf) | hf
  ·exact hf
  ·omega
  ·omega
  ·omega
  ·omega) p5
 have q6 := Prt.put hCf q5 .trk (G := fun b => v10.size <= b /\ b < v11.size) (fun b hb hf => by
  rcases hf with ((((hf | hf) | hf) | hf) | hf) | hf
  ·exact hf
  ·omega
  ·omega
  ·omega
  ·omega
  ·omega) p6
 have q7 : Sep Cf v12 fun b => v.size <= b := by
  refine (Sep.loc hCf).mono (Prt.all q6 fun i => ?_) fun b _ hf => ?_
  ·cases i <;> simp [S0]
  ·rcases hf with (((((hf | hf) | hf) | hf) | hf) | hf) | hf
   ·exact hf.elim
   ·omega
   ·omega
   ·omega
   ·omega
   ·omega
   ·omega
 have e12 : Ext0 v v12 := Ext.fresh e5 x5 fun i hi => by omega
 have szv := e.1
 refine YX (a := .i .i64) (fun (t : Int) w => ∃ (i : Nat) (Y : Lay), t = (i : Int) /\ i <= tb.length /\ Y.p = v7.size /\ Y.hs = hs /\ Y.cps.length = i /\ Y.tps.length = i /\ Ext0 v w /\ Sep (ACh (newP n rm tb i) Y (traT (newP n rm tb i) Y) (hdV Y)) w (fun b => v.size <= b)) (fun t _ => tb.length - t.toNat)
  ⟨0, Y0, rfl, by omega, rfl, rfl, rfl, rfl, e12, q7⟩ ?_
 rintro t w ⟨i, Y, rfl, hi, hYp, hYh, hYc, hYt, ew, hsep⟩
 refine ifD (fun hlt => ?_) fun hge => ?_
 ·have hi' : i < tb.length := by omega
  have hc : tb[i]? = some tb[i] := gGe hi'
  generalize tb[i] = c at hc
  have haw := Zc hav ew
  obtain ⟨hxi, hok⟩ := hcl haw hc
  refine WeR haw hxi ?_
  refine nw (cs := [.int .i64 0, .int .i64 0, .int .i64 0]) fun v14 hz14 e14 b14 => b14.s1 (by simp) fun v15 o15 b15 => b15.s1 (by simp) fun v16 o16 b16 => b16.s1 (by simp) fun v17 o17 b17 => ?_
  have e17 : Ext0 w v17 := Ext.fresh (Ext.fresh (Ext.fresh e14 o15.ext fun i hi => by omega) o16.ext fun i hi => by omega) o17.ext fun i hi => by omega
  have b17' : Blk v17 w.size [.int .i64 (c.size : Int), .int .i64 (c.pages : Int), .int .i64 (c.batch : Int)] := b17
  refine b17'.rI rfl (b17'.rI rfl (b17'.rI rfl (Whj hok fun v18 cp e18 hcp1 hcp2 hCe => ?_)))
  have b18 := e18.blk b17' id
  obtain ⟨_, _, _, _, _, _, hbt1, hbt2⟩ := id hok
  refine b18.rI rfl (Whk hbt1 hbt2 (by omega) fun v19 tp2 e19 htp1 htp2 hTf => Jn.intro ?_)
  have s14 := e17.1; have s18 := e18.1; have s19 := e19.1; have sw := ew.1
  have hT : ∀ k, Lcl (traT (newP n rm tb i) Y k) := fun k => traT.loc k
  have h19 := chs hT (chs hT (chs hT (WeY hT hsep) e17) e18) e19
  have hCe19 := hCe.keep0 e19
  rw [← hYp]
  refine Wi7 (F := Cut (fun b => v.size <= b) w) (z := v.size) (ss := []) (t := ⟨0, []⟩) (fun b hb => ⟨hb.1, by have := hb.2; omega⟩) ⟨hYc, hYt⟩ (by omega) h19 (by simp [newP]) (by simp [newP]) hc hCe19 hTf (fun b hb => ?_) (fun b hb => ?_) (fun b hb hb2 => by omega) fun w2 Y' e2 y1 y2 y3 y4 h2 => ?_
  ·subst hb; exact ⟨fun hf => by have := hf.2; omega, by omega, by omega⟩
  ·subst hb; exact ⟨fun hf => by have := hf.2; omega, by omega, by omega⟩
  ·rw [Wfk] at h2
   exact arN (m := i + 1) (by omega) (by omega) ⟨⟨i + 1, Y', rfl, by omega, y1, y2.trans hYh, y3, y4, Ext.fresh (Ext.trans (Ext.trans (Ext.trans ew e17) e18) e19) e2 fun b hb => hb.1, h2⟩, by omega⟩
 ·have : i = tb.length := by omega
  subst this
  rw [WgA, WgX] at hsep
  have hl : LayOk (newA n rm tb) Y := WiT hn1 hn2 c2' (by omega) htb1.1 htb1.2 (fun c hc => by
   obtain ⟨j, hj⟩ := List.getElem?_of_mem hc
   exact (hcl hav hj).2) hYc hYt
  have := h1 w Y (Ext.trans e ew) hYh ⟨hl, fun k => traT.loc k, (Sep.loc (AC.loc fun k => traT.loc k)).mono hsep fun b _ hb => Nat.le_trans szv hb⟩
  rw [hYp] at this
  exact this
end Go.Ar
namespace Go.Ar
open Go Go.Vc Go.Proofs
open Go.Bu (XA Zg Xj cnt)


variable {U : Hp} {F H : Rg} {p hs : Nat} {A : AR} {sp : Sp} {Y : Lay} {T : Nat -> Hp -> Rg -> Prop}
theorem ivd {a1 b1 a2 b2 b : Nat} (d : b1 <= a2 ∨ b2 <= a1) (h1 : a1 <= b /\ b < b1) (h2 : a2 <= b /\ b < b2) : False := by omega
theorem ivp {a b r : Nat} (d : r < a ∨ b <= r) (h : a <= r /\ r < b) : False := by omega
theorem Wf8 {w : Hp} {z a1 b1 a2 b2 a3 b3 a4 b4 : Nat} (hT : ∀ k, Lcl (T k)) (hc : A.cen = []) (hcr : Y.crow = ⟨none, 0, 0⟩) (htr : Y.trow = ⟨none, 0, 0⟩) (hcp : Y.cps = []) (htp : Y.tps = []) (hT0 : ∀ k U F, T k U F)
 (p1 : SlR Y.tab 3 (tabV A.tb) w fun b => a1 <= b /\ b < b1) (p2 : U4 Y.fr A.n A.S w fun b => a2 <= b /\ b < b2) (p3 : TrkR Y.tr A.st w fun b => a3 <= b /\ b < b3) (p4 : PmH w (fun b => a4 <= b /\ b < b4) Y.op A.ow) (p5 : MapL w Y.rn .i64 (.i .i64) (runI A.runs)) (p6 : Blk w Y.p (hdV Y))
 (hz : z <= a1 /\ z <= a2 /\ z <= a3 /\ z <= a4 /\ z <= Y.rn /\ z <= Y.p)
 (d12 : b1 <= a2 ∨ b2 <= a1) (d13 : b1 <= a3 ∨ b3 <= a1) (d14 : b1 <= a4 ∨ b4 <= a1) (d23 : b2 <= a3 ∨ b3 <= a2) (d24 : b2 <= a4 ∨ b4 <= a2) (d34 : b3 <= a4 ∨ b4 <= a3)
 (e1 : Y.rn < a1 ∨ b1 <= Y.rn) (e2 : Y.rn < a2 ∨ b2 <= Y.rn) (e3 : Y.rn < a3 ∨ b3 <= Y.rn) (e4 : Y.rn < a4 ∨ b4 <= Y.rn) (f1 : Y.p < a1 ∨ b1 <= Y.p) (f2 : Y.p < a2 ∨ b2 <= Y.p) (f3 : Y.p < a3 ∨ b3 <= Y.p) (f4 : Y.p < a4 ∨ b4 <= Y.p) (g : Y.rn ≠ Y.p) :
 Sep (ACh A Y T (hdV Y)) w fun b => z <= b := by
 have hCf : ∀ i, Lcl (ACh A Y T (hdV Y) i) := ACh.loc hT
 have q0 : Sep (Prt (ACh A Y T (hdV Y)) S0) w fun _ => False := Prt.one S0 .hd fun i hi => by
  cases i <;> first | exact hi.elim | skip
  ·show RowR Y.crow 1 (ptrV Y.cps) w _
   rw [hcr, hcp]; exact RowR.nil _ _ _ _
  ·show RowR Y.trow 1 (ptrV Y.tps) w _
   rw [htr, htp]; exact RowR.nil _ _ _ _
  ·rename_i k
   show CenR Y.cps[k]? A.tb[k]? A.cen[k]? w _
   rw [hcp]; exact trivial
  ·exact hT0 _ _ _
 have q1 := Prt.put hCf q0 .tab (G := fun b => a1 <= b /\ b < b1) (fun b hb hf => hf) p1
 have q2 := Prt.put hCf q1 .free (G := fun b => a2 <= b /\ b < b2) (fun b hb hf => by
  rcases hf with hf | hf
  ·exact hf
  ·exact ivd d12 hf hb) p2
 have q3 := Prt.put hCf q2 .trk (G := fun b => a3 <= b /\ b < b3) (fun b hb hf => by
  rcases hf with (hf | hf) | hf
  ·exact hf
  ·exact ivd d13 hf hb
  ·exact ivd d23 hf hb) p3
 have q4 := Prt.put hCf q3 .own (G := fun b => a4 <= b /\ b < b4) (fun b hb hf => by
  rcases hf with ((hf | hf) | hf) | hf
  ·exact hf
  ·exact ivd d14 hf hb
  ·exact ivd d24 hf hb
  ·exact ivd d34 hf hb) p4
 have q5 := Prt.put hCf q4 .runs (G := fun b => b = Y.rn) (fun b hb hf => by
  subst hb
  rcases hf with (((hf | hf) | hf) | hf) | hf
  ·exact hf
  ·exact ivp e1 hf
  ·exact ivp e2 hf
  ·exact ivp e3 hf
  ·exact ivp e4 hf) ⟨rfl, p5⟩
 have q6 := Prt.put hCf q5 .hd (G := fun b => b = Y.p) (fun b hb hf => by
  subst hb
  rcases hf with ((((hf | hf) | hf) | hf) | hf) | hf
  ·exact hf
  ·exact ivp f1 hf
  ·exact ivp f2 hf
  ·exact ivp f3 hf
  ·exact ivp f4 hf
  ·exact g hf.symm) ⟨rfl, p6⟩
 clear d12 d13 d14 d23 d24 d34 e1 e2 e3 e4 f1 f2 f3 f4
 refine (Sep.loc hCf).mono (Prt.all q6 fun i => ?_) fun b _ hf => ?_
 ·cases i <;> simp [S0]
 ·rcases hf with (((((hf | hf) | hf) | hf) | hf) | hf) | hf
  ·exact hf.elim
  ·omega
  ·omega
  ·omega
  ·omega
  ·rw [hf]; exact hz.2.2.2.2.1
  ·rw [hf]; exact hz.2.2.2.2.2
theorem Wbh (l : List (Nat × Nat)) (x : Nat) : (runI l).filter (fun y => !(y.1 == (x : Int))) = runI (l.filter fun r => !(r.1 == x)) := by
 unfold runI
 rw [List.filter_map]
 congr 1
 apply List.filter_congr
 intro r _
 simp only [Function.comp_def]
 rw [beqN]
theorem Wce : ∀ {l : List (Nat × Nat)} {r : Nat × Nat}, (l.map (·.1)).Nodup -> r ∈ l -> l.Perm (r :: l.filter fun y => !(y.1 == r.1))
 | [], _, _, h => by simp at h
 | y :: l, r, hn, h => by
  simp only [List.map_cons, List.nodup_cons] at hn
  rcases List.mem_cons.1 h with h1 | h1
  ·subst h1
   have : l.filter (fun z => !(z.1 == r.1)) = l := by
    rw [List.filter_eq_self]
    intro z hz
    have : z.1 ≠ r.1 := fun e => hn.1 (List.mem_map.2 ⟨z, hz, e⟩)
    simpa using this
   rw [List.filter_cons_of_neg (by simp), this]
  ·have hne : y.1 ≠ r.1 := fun e => hn.1 (List.mem_map.2 ⟨_, h1, e.symm⟩)
   rw [List.filter_cons_of_pos (by simpa using hne)]
   exact ((Wce hn.2 h1).cons y).trans (List.Perm.swap _ _ _)
end Go.Ar
namespace Go.Ar
open Go Go.Vc Go.Proofs
open Go.Bu (XA Zg Xj cnt)


variable {U : Hp} {F H : Rg} {p hs : Nat} {A : AR} {sp : Sp} {Y : Lay} {T : Nat -> Hp -> Rg -> Prop}
def Z0 (A : AR) (rs : List (Nat × Nat)) (i : Nat) : AR := { A with cen := A.cen.take i, tra := A.tra.take i, runs := rs }
theorem Wbm {i : Nat} {ss : List SpA} {t : TrA} (h1 : A.cen[i]? = some ss) (h2 : A.tra[i]? = some t) (rs : List (Nat × Nat)) : ({ Z0 A rs i with cen := (Z0 A rs i).cen ++ [ss], tra := (Z0 A rs i).tra ++ [t] } : AR) = Z0 A rs (i + 1) := by
 unfold Z0
 rw [List.take_add_one, List.take_add_one, h1, h2]; rfl
theorem WcP {i : Nat} (h1 : A.cen.length = i) (h2 : A.tra.length = i) (rs : List (Nat × Nat)) : Z0 A rs i = { A with runs := rs } := by
 unfold Z0
 rw [List.take_of_length_le (by omega), List.take_of_length_le (by omega)]
theorem Wap {s : Sl} {tb : List Cls} (h : SlR s 3 (tabV tb) U F) (hl : tb.length <= 40) {R : Sl -> Hp -> Prop} (hR : ∀ s' σ', Ext0 U σ' -> SlR s' 3 (tabV tb) σ' (fun b => U.size <= b) -> R s' σ') : Wc.call s U R := by
 refine Wc.of_vc ?_
 unfold Wc.vc
 have hlen := h.1
 rw [Va] at hlen
 exact GU h (by decide) rfl WbU (by decide) (by omega) fun s' σ' _ e hr => hR s' σ' e hr.slR
theorem Whd {cs : List Value} (hT : ∀ k, Lcl (T k)) (h : Sep (ACh A Y T cs) U F) : F Y.rn /\ MapL U Y.rn .i64 (.i .i64) (runI A.runs) /\ ∀ (σ' : Hp) (rs : List (Nat × Nat)), Z5 U σ' Y.rn -> MapL σ' Y.rn .i64 (.i .i64) (runI rs) -> Sep (ACh { A with runs := rs } Y T cs) σ' F := by
 obtain ⟨G, hG, ⟨gr, hm⟩, _, hput⟩ := h.stepD (ACh.loc hT) .runs
 refine ⟨hG _ gr, hm, fun σ' rs ho h' => ?_⟩
 refine (Sep.loc (ACh.loc hT)).mono (hput σ' (ACh { A with runs := rs } Y T cs) G (fun j hj => ?_) (ho.ext.sub fun b hb => by subst hb; exact gr) (fun b hb => .inl hb) ⟨gr, h'⟩ (ACh.loc hT _)) fun b _ hb => Q6 hG (fun b hb => hb) b hb
 cases j <;> first | rfl | exact absurd rfl hj
theorem Weo (h : AHY U F Y A (traT A Y)) (hS : SpH3 U H Y.hs sp) {hs2 : Nat} {H2 : Rg} {sp2 : Sp} (hS2 : SpH3 U H2 hs2 sp2) {R : Option Addr -> Hp -> Prop} (h0 : sp2.st.length ≠ sp.st.length -> R none U)
 (h1 : sp2.st.length = sp.st.length -> ∀ σ' Yn rs, Ext0 U σ' -> Yn.hs = hs2 -> rs.Perm A.runs -> AHY σ' (fun b => U.size <= b) Yn { A with runs := rs } (traT { A with runs := rs } Yn) -> R (some ⟨Yn.p, 0, none⟩) σ') :
 Yk.call (some ⟨Y.p, 0, none⟩) (some ⟨hs2, 0, none⟩) U R := by
 refine Yk.of_vc ?_
 unfold Yk.vc
 have ht2 := h.lay.tb2
 refine ⟨fun (t : Bool) w => w = U /\ (t = true ↔ sp2.st.length ≠ sp.st.length), ?_, ?_⟩
 rotate_left
 ·have hne : ((((sp2.st.length : Nat) : Int) != ((sp.st.length : Nat) : Int)) = true ↔ sp2.st.length ≠ sp.st.length) := by rw [bneN]; simp
  refine Qx h (ifF rfl (nilP ⟨QG hS2 (h.hd.rP rfl (QG hS ⟨rfl, hne⟩)), h.hd.rP rfl (QG hS2 (QG hS ⟨rfl, hne⟩))⟩))
 rintro t w ⟨rfl, ht⟩
 refine iff_ (fun hc => h0 (ht.1 hc)) fun hc => ?_
 have heq : sp2.st.length = sp.st.length := Classical.byContradiction fun hn => by rw [ht.2 hn] at hc; cases hc
 have h1 := h1 heq
 refine ⟨fun (vx : Option Addr) v => ∃ Yn : Lay, vx = some ⟨Yn.p, 0, none⟩ /\ Yn.hs = hs2 /\ Yn.cps = [] /\ Yn.tps = [] /\ Ext0 w v /\ Sep (ACh (Z0 A [] 0) Yn (traT (Z0 A [] 0) Yn) (hdV Yn)) v (fun b => w.size <= b), ?_, ?_⟩
 ·-- the lists, and the runs
  rintro vx v ⟨Y1, rfl, hYh, hYc, hYt, ev, hsep0⟩
  have hv0 := h.keep0 ev
  refine nilP (hv0.hd.rS rfl ?_)
  have hcl := h.crowL
  refine YX (a := .i .i64) (fun (t : Int) u => ∃ (i : Nat) (Yn : Lay), t = (i : Int) /\ i <= A.tb.length /\ Yn.p = Y1.p /\ Yn.hs = hs2 /\ Yn.cps.length = i /\ Yn.tps.length = i /\ Ext0 w u /\ Sep (ACh (Z0 A [] i) Yn (traT (Z0 A [] i) Yn) (hdV Yn)) u (fun b => w.size <= b)) (fun t _ => A.tb.length - t.toNat)
   ⟨0, Y1, rfl, by omega, rfl, hYh, by rw [hYc]; rfl, by rw [hYt]; rfl, ev, hsep0⟩ ?_
  rintro t u ⟨i, Yn, rfl, hi, hYp, hYh2, hYc2, hYt2, eu, hsep⟩
  have hu := h.keep0 eu
  have sw := eu.1
  refine ifD (fun hlt => ?_) fun hge => ?_
  ·have hi' : i < A.tb.length := by simp only at hlt; omega
   obtain ⟨c, ss, q, t, r, hc, hss, hq, ht, hr, hok⟩ := h.at_ hi'
   refine hu.crowR hq ?_
   obtain ⟨Gc, psc, hGc, hC⟩ := hu.cen hq hc hss
   obtain ⟨Gt, hGt, hTf⟩ := hu.tra hr hc ht
   obtain ⟨Gr, hGr, hrow⟩ := h.sep.get .trow
   have hrow : RowR Y.trow 1 (ptrV Y.tps) w Gr := hrow
   obtain ⟨rb, ro, hra, hrc⟩ := hrow.slR.cell (j := i) (v := .pointer (some ⟨r, 0, none⟩)) (by simp [ptrV, hr])
   have hrlt := ZM hrc
   have htl := h.trowL
   rw [← hYp]
   have hT : ∀ k, Lcl (traT (Z0 A [] i) Yn k) := fun k => traT.loc k
   have hcut := WeY hT hsep
   have hCuo : ∀ {m : Hp}, Ext (fun b => w.size <= b) w m -> Blk m Y.p (hdV Y) := fun e => e.blk h.hd (by have := h.hd.lt; omega)
   refine ⟨fun m => Blk m Yn.p (hdV Yn) /\ Ext (fun b => w.size <= b) w m, ⟨(hdCh hsep).1, Ext0.to eu⟩, nilP ⟨Yn.crow, fun m hm => by rw [add_lit, hm.1.cell]; rfl, nilP ⟨Yn.trow, fun m hm => by rw [add_lit, hm.1.cell]; rfl, nilP ⟨Y.trow, fun m hm => by rw [add_lit, (hCuo hm.2).cell]; rfl, ?_⟩⟩⟩⟩
   show Ix Y.trow.a Y.trow.len (i : Int) 1 _
   rw [hra]
   refine ix (by omega) (by omega) ⟨some ⟨r, 0, none⟩, fun m hm => ?_, ?_⟩
   ·rw [add_lit, show ro + (i : Int).toNat * 1 = ro + i by omega, ZV hm.2 hrlt (by omega)]; exact hrc
   refine WeD hC fun v3 cp psc' e3 hcp hC3 => ?_
   have h3 := chs hT hcut e3
   have x3 : Ext (fun b => w.size <= b) w v3 := Ext0.to (Ext.trans eu e3)
   refine ⟨⟨(hdCh h3).1, x3⟩, nw (cs := [.pointer (some ⟨cp, 0, none⟩)]) fun v4 z4 e4 b4 => ?_⟩
   have h4 := chs hT h3 e4
   have s3 := e3.1
   have x4 : Ext (fun b => w.size <= b) w v4 := x3.trans (Ext0.to e4)
   refine ⟨⟨(hdCh h4).1, x4⟩, Gs hT h4 (by rw [hYc2]; unfold Z0; simp; omega) (by omega) b4 (fun hf => by have := hf.2; omega) fun s1 v5 e5 h5 => ?_⟩
   have h5' : Sep (ACh (Z0 A [] i) { Yn with crow := s1, cps := Yn.cps ++ [cp] } (traT (Z0 A [] i) { Yn with crow := s1, cps := Yn.cps ++ [cp] }) (hdV Yn)) v5 (Grow (Cut (fun b => w.size <= b) u) v4) := h5
   have c5 := WeY (fun k => traT.loc k) h5'
   have x5 : Ext (fun b => w.size <= b) w v5 := x4.trans (e5.sub fun b hb => hb.1)
   have s5 := e5.1
   refine ⟨⟨(hdCh h5').1, x5⟩, ?_⟩
   have hTf5 := (TfH.loc (p := r) (batch := c.batch) (room := A.room) (t := t)).keep ((TfH.loc (p := r) (batch := c.batch) (room := A.room) (t := t)).cut (h.tra hr hc ht).choose_spec.2) x5 fun b hb hf hx => by have := hf.2; omega
   refine WdY hTf5 fun v6 tp e6 htp hT6 => ?_
   have h6 := chs (fun k => traT.loc k) c5 e6
   have x6 := x5.trans (Ext0.to e6)
   have s6 := e6.1
   refine ⟨⟨(hdCh h6).1, x6⟩, nw (cs := [.pointer (some ⟨tp, 0, none⟩)]) fun v7 z7 e7 b7 => ?_⟩
   have h7 := chs (fun k => traT.loc k) h6 e7
   have x7 := x6.trans (Ext0.to e7)
   refine ⟨⟨(hdCh h7).1, x7⟩, GB h7 (by simp only; rw [hYt2]; unfold Z0; simp; omega) (by simp only; omega) b7 (fun hf => by have := hf.2; omega) fun s2 v8 e8 h8 => ?_⟩
   have x8 := x7.trans (e8.sub fun b (hb : Cut (Grow (Cut (fun b => w.size <= b) u) v4) v5 b) => show w.size <= b from by
    rcases hb.1 with h | h
    ·exact h.1
    ·omega)
   refine ⟨⟨(hdCh h8).1, x8⟩, ?_⟩
   have kC := (CeH.loc (c := c) (ps := psc') (ss := ss) (p := cp)).keep (Zh (CeH.loc (c := c) (ps := psc') (ss := ss) (p := cp)) hC3) ((((Ext0.to e4 : Ext (Cut (fun b => w.size <= b) u) v3 v4).trans e5).trans (Ext0.to e6)).trans (Ext0.to e7)) fun b _ hb hf => by have := hf.2; omega
   have kC8 := (CeH.loc (c := c) (ps := psc') (ss := ss) (p := cp)).keep kC e8 fun b _ hb hf => by
    rcases hf.1 with h | h
    ·have := h.2; omega
    ·omega
   have kT := (TfH.loc (p := tp) (batch := c.batch) (room := A.room) (t := t)).keep ((TfH.loc (p := tp) (batch := c.batch) (room := A.room) (t := t)).keep0 (Zh (TfH.loc (p := tp) (batch := c.batch) (room := A.room) (t := t)) hT6) e7) e8 fun b _ hb hf => by have := hf.2; omega
   have e8z := e8.1
   refine G5 (i := i) (F := Grow (Cut (Grow (Cut (fun b => w.size <= b) u) v4) v5) v7) ⟨hYc2, hYt2⟩ h8 (by unfold Z0; rw [List.length_take]; have := h.lay.cen; omega) (by unfold Z0; rw [List.length_take]; have := h.lay.tra; omega) hc kC8 kT (fun b hb hf => ?_) (fun b hb hf => ?_) (fun b hb hb2 => by omega) fun u2 Y' e9 y1 y2 y3 y4 h9 => ?_
   ·rcases hf with hf | hf
    ·rcases hf.1 with h | h
     ·have := h.2; omega
     ·omega
    ·omega
   ·rcases hf with hf | hf
    ·have := hf.2; omega
    ·omega
   ·rw [Wbm hss ht] at h9
    have x9 : Ext (fun b => w.size <= b) w u2 := x8.trans (e9.sub fun b hb => show w.size <= b from by
     rcases hb with hb | hb
     ·rcases hb.1 with h | h
      ·exact h.1
      ·omega
     ·omega)
    refine arN (m := i + 1) (by omega) (by omega) ⟨⟨i + 1, Y', rfl, by omega, y1, y2.trans hYh2, y3, y4, Ext.fresh (Ext.refl _ _) x9 fun b hb => hb, (Sep.loc (ACh.loc fun k => traT.loc k)).mono h9 fun b _ hb => ?_⟩, by omega⟩
    rcases hb with (hb | hb) | hb
    ·rcases hb with hb | hb
     ·rcases hb.1 with h | h
      ·exact h.1
      ·omega
     ·omega
    ·omega
    ·omega
  ·have hii : i = A.tb.length := by simp only at hge; omega
   subst hii
   rw [WcP h.lay.cen h.lay.tra] at hsep
   obtain ⟨_, hm, _⟩ := hu.runsS
   rw [← hYp]
   refine nilP (hu.hd.rM rfl (rng0 (c := .i .i64) hm (fun todo x => ∃ rs td, todo = runI td /\ (rs ++ td).Perm A.runs /\ Ext0 w x /\ u.size <= x.size /\ Sep (ACh { A with runs := rs } Yn (traT { A with runs := rs } Yn) (hdV Yn)) x (Cut (fun b => w.size <= b) u)) (fun x hz ex => ⟨[], A.runs, rfl, List.Perm.refl _, Ext.trans eu ex, ex.1, chs (fun k => traT.loc k) (WeY (fun k => traT.loc k) hsep) ex⟩) (fun x hx => ?_) ?_))
   ·obtain ⟨rs, td, htd, hperm, ex, _, hs2⟩ := hx
    have : td = [] := by
     cases td with
     | nil => rfl
     | cons a l => simp [runI] at htd
    subst this
    rw [List.append_nil] at hperm
    rw [WgX] at hs2
    refine h1 x Yn rs ex hYh2 hperm ⟨⟨hYc2, hYt2, h.lay.cen, h.lay.tra, h.lay.tb1, h.lay.tb2, h.lay.n1, h.lay.n2, h.lay.n3, h.lay.st, h.lay.room, h.lay.ok⟩, fun k => traT.loc k, (Sep.loc (AC.loc fun k => traT.loc k)).mono hs2 fun b _ hb => hb.1⟩
   ·rintro todo n (m : Int) x x' J ⟨rs, td, rfl, hperm, ex, hux, hs2⟩ hx ho hlt hJ
    obtain ⟨rr, hrr, hre⟩ := List.mem_map.1 hx
    cases hre
    have hs3 := (Sep.loc (ACh.loc (fun k => traT.loc k))).keep hs2 ho.ext fun b _ hb hf => by have := hb.2; omega
    obtain ⟨gr, hmn, hput⟩ := Whd (fun k => traT.loc k) hs3
    have hb3 := (hdCh hs3).1
    refine nilP (hb3.rM rfl ⟨Yn.rn, _, rfl, hmn, fun x2 o2 hm2 => ?_⟩)
    have hm2' : MapL x2 Yn.rn .i64 (.i .i64) (mset (runI rs) (rr.1 : Int) (rr.2 : Int)) := hm2
    have hnd : (A.runs.map (·.1)).Nodup := by
     have := hm.nodup
     unfold runI at this
     rw [List.map_map] at this
     exact (List.pairwise_map.1 this |>.imp fun {a b} hab heq => hab (by simp only [Function.comp_def]; omega)) |> List.pairwise_map.2
    have hnd2 : ((rs ++ td).map (·.1)).Nodup := (hperm.map _).nodup_iff.2 hnd
    rw [List.map_append, List.nodup_append] at hnd2
    have hnew : Yt.mset2 rs rr.1 rr.2 = rs ++ [rr] := by
     unfold Yt.mset2
     rw [if_neg]
     rw [Bool.not_eq_true, List.any_eq_false]
     intro y hy hyr
     have : y.1 = rr.1 := by simpa using hyr
     exact hnd2.2.2 _ (List.mem_map.2 ⟨y, hy, rfl⟩) _ (List.mem_map.2 ⟨rr, hrr, rfl⟩) this
    rw [Wcn, hnew] at hm2'
    have hs4 := hput x2 _ o2 hm2'
    have gr2 := gr.2
    have gr1 := gr.1
    refine hJ x2 (o2.2 _ (by omega)) (o2.2 _ (by have := h.runsS.2.1.lt; intro e; omega)) ⟨rs ++ [rr], td.filter fun y => !(y.1 == rr.1), Wbh td rr.1, ?_, Ext.fresh (Ext.fresh ex ho.ext fun b hb => by omega) o2.ext fun b hb => by subst hb; exact gr1, by rw [o2.1, ho.1]; exact hux, hs4⟩
    rw [List.append_assoc]
    exact ((Wce hnd2.2.1 hrr).symm.append_left rs).trans hperm
 ·-- the parts without lists
  refine ⟨fun m => Ext0 w m, Ext.refl _ _, nilP (h.hdH (c := .s) (x := Y.tab) rfl (nilP (h.hdH (c := .p) (x := some ⟨Y.fr, 0, none⟩) rfl (nilP (h.hdH (c := .p) (x := some ⟨Y.tr, 0, none⟩) rfl (nilP (h.hdH (c := .p) (x := some ⟨Y.op, 0, none⟩) rfl ?_)))))))⟩
  have fin : ∀ (u : Hp) (tab : Sl) (fr tp op rn a1 b1 a2 b2 a3 b3 a4 b4 : Nat), Ext0 w u -> SlR tab 3 (tabV A.tb) u (fun b => a1 <= b /\ b < b1) -> U4 fr A.n A.S u (fun b => a2 <= b /\ b < b2) -> TrkR tp A.st u (fun b => a3 <= b /\ b < b3) -> PmH u (fun b => a4 <= b /\ b < b4) op A.ow -> MapL u rn .i64 (.i .i64) [] →
   (w.size <= a1 /\ w.size <= a2 /\ w.size <= a3 /\ w.size <= a4 /\ w.size <= rn) -> (b1 <= a2 ∨ b2 <= a1) -> (b1 <= a3 ∨ b3 <= a1) -> (b1 <= a4 ∨ b4 <= a1) -> (b2 <= a3 ∨ b3 <= a2) -> (b2 <= a4 ∨ b4 <= a2) -> (b3 <= a4 ∨ b4 <= a3) -> (rn < a1 ∨ b1 <= rn) -> (rn < a2 ∨ b2 <= rn) -> (rn < a3 ∨ b3 <= rn) -> (rn < a4 ∨ b4 <= rn) -> (b1 <= u.size /\ b2 <= u.size /\ b3 <= u.size /\ b4 <= u.size) →
   Nw (.cells #[.slice tab.a tab.len tab.cap, .pointer (some ⟨hs2, 0, none⟩), .pointer (some ⟨fr, 0, none⟩), .pointer (some ⟨tp, 0, none⟩), .pointer (some ⟨op, 0, none⟩), .slice none 0 0, .slice none 0 0, .map (some rn)] 76 (0, 0)) u fun n v20 => And (Ext0 w v20) <|
    ∃ Yn : Lay, some n = some ⟨Yn.p, 0, none⟩ /\ Yn.hs = hs2 /\ Yn.cps = [] /\ Yn.tps = [] /\ Ext0 w v20 /\ Sep (ACh (Z0 A [] 0) Yn (traT (Z0 A [] 0) Yn) (hdV Yn)) v20 (fun b => w.size <= b) := by
   intro u tab fr tp op rn a1 b1 a2 b2 a3 b3 a4 b4 eu p1 p2 p3 p4 p5 hz d12 d13 d14 d23 d24 d34 e1 e2 e3 e4 hu
   refine nw (cs := [.slice tab.a tab.len tab.cap, .pointer (some ⟨hs2, 0, none⟩), .pointer (some ⟨fr, 0, none⟩), .pointer (some ⟨tp, 0, none⟩), .pointer (some ⟨op, 0, none⟩), .slice none 0 0, .slice none 0 0, .map (some rn)]) fun v20 z20 e20 b20 => ⟨Ext.trans eu e20, ?_⟩
   have hrn := p5.lt
   have sw := eu.1
   refine ⟨{ p := u.size, hs := hs2, fr := fr, tr := tp, op := op, rn := rn, tab := tab, crow := ⟨none, 0, 0⟩, trow := ⟨none, 0, 0⟩, cps := [], tps := [] }, rfl, rfl, rfl, rfl, Ext.trans eu e20, ?_⟩
   refine Wf8 (A := Z0 A [] 0) (Y := { p := u.size, hs := hs2, fr := fr, tr := tp, op := op, rn := rn, tab := tab, crow := ⟨none, 0, 0⟩, trow := ⟨none, 0, 0⟩, cps := [], tps := [] }) (fun k => traT.loc k) (by simp [Z0]) rfl rfl rfl rfl (fun k U F => trivial) ((SlR.loc _ _ _).keep0 p1 e20) ((U4.loc _ _ _).keep0 p2 e20) ((TrkR.loc _ _).keep0 p3 e20) ((PmH.loc (p := op) (ow := A.ow)).keep0 p4 e20) (e20.mapL p5 id) b20 ⟨hz.1, hz.2.1, hz.2.2.1, hz.2.2.2.1, hz.2.2.2.2, sw⟩ d12 d13 d14 d23 d24 d34 e1 e2 e3 e4 (.inr hu.1) (.inr hu.2.1) (.inr hu.2.2.1) (.inr hu.2.2.2) (by simp only; omega)
  have tabAt : ∀ {m : Hp}, Ext0 w m -> ∃ G : Rg, SlR Y.tab 3 (tabV A.tb) m G := fun e => by
   obtain ⟨G, _, hb⟩ := (h.keep0 e).sep.get .tab
   exact ⟨G, hb⟩
  have frAt : ∀ {m : Hp}, Ext0 w m -> ∃ sb ms, Go.Bu.BH m Y.fr A.n A.S sb ms := fun e => by
   obtain ⟨sb, ms, hB, _⟩ := (h.keep0 e).free
   exact ⟨sb, ms, hB⟩
  have trAt : ∀ {m : Hp}, Ext0 w m -> ∃ q, TrH m Y.tr q A.st := fun e => by
   obtain ⟨_, _, q, hT, _⟩ := (h.keep0 e).trk
   exact ⟨q, hT⟩
  have opAt : ∀ {m : Hp}, Ext0 w m -> ∃ G, PmH m G Y.op A.ow := fun e => by
   obtain ⟨G, _, hP⟩ := (h.keep0 e).sep.get .own
   exact ⟨G, hP⟩
  have kS := fun (s : Sl) => SlR.loc s 3 (tabV A.tb)
  have kF := fun (p : Nat) => U4.loc p A.n A.S
  have kT := fun (p : Nat) => TrkR.loc p A.st
  have kP := fun (p : Nat) => PmH.loc (p := p) (ow := A.ow)
  refine ⟨?_, ?_⟩
  ·obtain ⟨_, ht_⟩ := tabAt (Ext.refl _ _)
   refine Wap ht_ ht2 fun tab v1 e1 pT => ⟨e1, ?_, ?_⟩
   ·obtain ⟨_, _, hB_⟩ := frAt e1
    refine Go.Bu.Clone_ok hB_ fun v2 sb_ ms_ e2 hB2 hf2 => ⟨(Ext.trans e1 e2), ?_, ?_⟩
    ·obtain ⟨_, hT_⟩ := trAt (Ext.trans e1 e2)
     refine VO hT_ fun v3 tp tq e3 hq1 hq2 hT3 => ⟨(Ext.trans (Ext.trans e1 e2) e3), ?_, ?_⟩
     ·obtain ⟨_, hP_⟩ := opAt (Ext.trans (Ext.trans e1 e2) e3)
      refine KU hP_ fun v4 op e4 hop hP4 => ⟨(Ext.trans (Ext.trans (Ext.trans e1 e2) e3) e4), ?_⟩
      refine G0 fun v5 z5 e5 hm => ⟨(Ext.trans (Ext.trans (Ext.trans (Ext.trans e1 e2) e3) e4) e5), ?_⟩
      have s1 := e1.1
      have s2 := e2.1
      have s3 := e3.1
      have s4 := e4.1
      have s5 := e5.1
      exact fin v5 tab v1.size tp op v4.size w.size v1.size v1.size v2.size v2.size v3.size v3.size v4.size (Ext.trans (Ext.trans (Ext.trans (Ext.trans e1 e2) e3) e4) e5) ((kS tab).keep0 (Zh (kS tab) pT) (Ext.trans (Ext.trans (Ext.trans e2 e3) e4) e5)) ((kF _).keep0 (Zh (kF _) ⟨_, _, hB2, hf2⟩) (Ext.trans (Ext.trans e3 e4) e5)) ((kT tp).keep0 (Zh (kT tp) ⟨_, hT3, hq1, hq2⟩) (Ext.trans e4 e5)) ((kP op).keep0 (Zh (kP op) hP4) e5) (hm _ _) (by omega) (by omega) (by omega) (by omega) (by omega) (by omega) (by omega) (by omega) (by omega) (by omega) (by omega) (by omega)
     ·refine G0 fun v4 z4 e4 hm => ⟨(Ext.trans (Ext.trans (Ext.trans e1 e2) e3) e4), ?_⟩
      obtain ⟨_, hP_⟩ := opAt (Ext.trans (Ext.trans (Ext.trans e1 e2) e3) e4)
      refine KU hP_ fun v5 op e5 hop hP4 => ⟨(Ext.trans (Ext.trans (Ext.trans (Ext.trans e1 e2) e3) e4) e5), ?_⟩
      have s1 := e1.1
      have s2 := e2.1
      have s3 := e3.1
      have s4 := e4.1
      have s5 := e5.1
      exact fin v5 tab v1.size tp op v3.size w.size v1.size v1.size v2.size v2.size v3.size v4.size v5.size (Ext.trans (Ext.trans (Ext.trans (Ext.trans e1 e2) e3) e4) e5) ((kS tab).keep0 (Zh (kS tab) pT) (Ext.trans (Ext.trans (Ext.trans e2 e3) e4) e5)) ((kF _).keep0 (Zh (kF _) ⟨_, _, hB2, hf2⟩) (Ext.trans (Ext.trans e3 e4) e5)) ((kT tp).keep0 (Zh (kT tp) ⟨_, hT3, hq1, hq2⟩) (Ext.trans e4 e5)) (Zh (kP op) hP4) (Ext.mapL e5 (hm _ _) id) (by omega) (by omega) (by omega) (by omega) (by omega) (by omega) (by omega) (by omega) (by omega) (by omega) (by omega) (by omega)
    ·refine G0 fun v3 z3 e3 hm => ⟨(Ext.trans (Ext.trans e1 e2) e3), ?_⟩
     obtain ⟨_, hT_⟩ := trAt (Ext.trans (Ext.trans e1 e2) e3)
     refine VO hT_ fun v4 tp tq e4 hq1 hq2 hT3 => ⟨(Ext.trans (Ext.trans (Ext.trans e1 e2) e3) e4), ?_⟩
     obtain ⟨_, hP_⟩ := opAt (Ext.trans (Ext.trans (Ext.trans e1 e2) e3) e4)
     refine KU hP_ fun v5 op e5 hop hP4 => ⟨(Ext.trans (Ext.trans (Ext.trans (Ext.trans e1 e2) e3) e4) e5), ?_⟩
     have s1 := e1.1
     have s2 := e2.1
     have s3 := e3.1
     have s4 := e4.1
     have s5 := e5.1
     exact fin v5 tab v1.size tp op v2.size w.size v1.size v1.size v2.size v3.size v4.size v4.size v5.size (Ext.trans (Ext.trans (Ext.trans (Ext.trans e1 e2) e3) e4) e5) ((kS tab).keep0 (Zh (kS tab) pT) (Ext.trans (Ext.trans (Ext.trans e2 e3) e4) e5)) ((kF _).keep0 (Zh (kF _) ⟨_, _, hB2, hf2⟩) (Ext.trans (Ext.trans e3 e4) e5)) ((kT tp).keep0 (Zh (kT tp) ⟨_, hT3, hq1, hq2⟩) e5) (Zh (kP op) hP4) (Ext.mapL (Ext.trans e4 e5) (hm _ _) id) (by omega) (by omega) (by omega) (by omega) (by omega) (by omega) (by omega) (by omega) (by omega) (by omega) (by omega) (by omega)
   ·refine G0 fun v2 z2 e2 hm => ⟨(Ext.trans e1 e2), ?_⟩
    obtain ⟨_, _, hB_⟩ := frAt (Ext.trans e1 e2)
    refine Go.Bu.Clone_ok hB_ fun v3 sb_ ms_ e3 hB2 hf2 => ⟨(Ext.trans (Ext.trans e1 e2) e3), ?_⟩
    obtain ⟨_, hT_⟩ := trAt (Ext.trans (Ext.trans e1 e2) e3)
    refine VO hT_ fun v4 tp tq e4 hq1 hq2 hT3 => ⟨(Ext.trans (Ext.trans (Ext.trans e1 e2) e3) e4), ?_⟩
    obtain ⟨_, hP_⟩ := opAt (Ext.trans (Ext.trans (Ext.trans e1 e2) e3) e4)
    refine KU hP_ fun v5 op e5 hop hP4 => ⟨(Ext.trans (Ext.trans (Ext.trans (Ext.trans e1 e2) e3) e4) e5), ?_⟩
    have s1 := e1.1
    have s2 := e2.1
    have s3 := e3.1
    have s4 := e4.1
    have s5 := e5.1
    exact fin v5 tab v2.size tp op v1.size w.size v1.size v2.size v3.size v3.size v4.size v4.size v5.size (Ext.trans (Ext.trans (Ext.trans (Ext.trans e1 e2) e3) e4) e5) ((kS tab).keep0 (Zh (kS tab) pT) (Ext.trans (Ext.trans (Ext.trans e2 e3) e4) e5)) ((kF _).keep0 (Zh (kF _) ⟨_, _, hB2, hf2⟩) (Ext.trans e4 e5)) ((kT tp).keep0 (Zh (kT tp) ⟨_, hT3, hq1, hq2⟩) e5) (Zh (kP op) hP4) (Ext.mapL (Ext.trans (Ext.trans e3 e4) e5) (hm _ _) id) (by omega) (by omega) (by omega) (by omega) (by omega) (by omega) (by omega) (by omega) (by omega) (by omega) (by omega) (by omega)
  ·refine G0 fun v1 z1 e1 hm => ⟨e1, ?_⟩
   obtain ⟨_, ht_⟩ := tabAt e1
   refine Wap ht_ ht2 fun tab v2 e2 pT => ⟨(Ext.trans e1 e2), ?_⟩
   obtain ⟨_, _, hB_⟩ := frAt (Ext.trans e1 e2)
   refine Go.Bu.Clone_ok hB_ fun v3 sb_ ms_ e3 hB2 hf2 => ⟨(Ext.trans (Ext.trans e1 e2) e3), ?_⟩
   obtain ⟨_, hT_⟩ := trAt (Ext.trans (Ext.trans e1 e2) e3)
   refine VO hT_ fun v4 tp tq e4 hq1 hq2 hT3 => ⟨(Ext.trans (Ext.trans (Ext.trans e1 e2) e3) e4), ?_⟩
   obtain ⟨_, hP_⟩ := opAt (Ext.trans (Ext.trans (Ext.trans e1 e2) e3) e4)
   refine KU hP_ fun v5 op e5 hop hP4 => ⟨(Ext.trans (Ext.trans (Ext.trans (Ext.trans e1 e2) e3) e4) e5), ?_⟩
   have s1 := e1.1
   have s2 := e2.1
   have s3 := e3.1
   have s4 := e4.1
   have s5 := e5.1
   exact fin v5 tab v2.size tp op w.size v1.size v2.size v2.size v3.size v3.size v4.size v4.size v5.size (Ext.trans (Ext.trans (Ext.trans (Ext.trans e1 e2) e3) e4) e5) ((kS tab).keep0 (Zh (kS tab) pT) (Ext.trans (Ext.trans e3 e4) e5)) ((kF _).keep0 (Zh (kF _) ⟨_, _, hB2, hf2⟩) (Ext.trans e4 e5)) ((kT tp).keep0 (Zh (kT tp) ⟨_, hT3, hq1, hq2⟩) e5) (Zh (kP op) hP4) (Ext.mapL (Ext.trans (Ext.trans (Ext.trans e2 e3) e4) e5) (hm _ _) id) (by omega) (by omega) (by omega) (by omega) (by omega) (by omega) (by omega) (by omega) (by omega) (by omega) (by omega) (by omega)
end Go.Ar
namespace Go.Ar
open Go.Bu (XA Zg runS Xj HE allF QS Ku give take Qg Qb Bounded)


def gf (st : List Nat) (p : Nat) : Nat := st.getD p 0
def AR.f (A : AR) (p : Nat) : Nat := gf A.st p
def inR (rs : List (Nat × Nat)) (p : Nat) : Prop := ∃ r ∈ rs, r.1 <= p /\ p < r.1 + r.2
theorem WhG {st : List Nat} {p : Nat} (h : gf st p ≠ 0) : p < st.length := by
 apply Classical.byContradiction
 intro hn
 exact h (by unfold gf; rw [List.getD_eq_getElem?_getD, List.getElem?_eq_none (by omega)]; rfl)
theorem Hu {st : List Nat} {a b v p : Nat} (hb : b <= st.length) : gf (setR st a b v) p = if a <= p /\ p < b then v else gf st p := by
 unfold gf
 rw [List.getD_eq_getElem?_getD, List.getD_eq_getElem?_getD, VN]
 by_cases hp : p < st.length
 ·rw [gGe hp]
  simp only [Option.map_some, Option.getD_some]
 ·rw [List.getElem?_eq_none (by omega), if_neg (by omega)]; rfl
theorem Ke {n a m : Nat} : XA n (a : Int) (m : Int) = true ↔ 1 <= m /\ a + m <= n := by
 simp only [XA, Bool.and_eq_true, decide_eq_true_eq]; omega
theorem WaQ {st : List Nat} {a m : Nat} {fr : List Nat} (hl : a + m <= st.length) : WcR st a m fr = true ↔ ∀ p, a <= p -> p < a + m -> gf st p ∈ fr := by
 unfold WcR
 rw [List.all_eq_true]
 constructor
 ·intro h p h1 h2
  have hp : p < st.length := by omega
  have : st[p] ∈ (st.drop a).take m := by
   refine List.mem_of_getElem? (i := p - a) ?_
   rw [List.getElem?_take, if_pos (by omega), List.getElem?_drop, show a + (p - a) = p by omega, gGe hp]
  have := h _ this
  unfold gf
  rw [List.getD_eq_getElem?_getD, gGe hp]
  simpa using this
 ·intro h x hx
  obtain ⟨i, hi⟩ := List.getElem?_of_mem hx
  rw [List.getElem?_take] at hi
  split at hi
  ·rename_i hlt
   rw [List.getElem?_drop] at hi
   have := h (a + i) (by omega) (by omega)
   unfold gf at this
   rw [List.getD_eq_getElem?_getD, hi] at this
   simpa using this
  ·cases hi
theorem GJ {st : List Nat} {a m v : Nat} {fr : List Nat} (h1 : 1 <= m) (hl : a + m <= st.length) (h : ∀ p, a <= p -> p < a + m -> gf st p ∈ fr) : Kb st (a : Int) (m : Int) v fr = setR st a (a + m) v := by
 unfold Kb Uy
 rw [if_pos (Ke.2 ⟨h1, hl⟩), iTn, iTn, (WaQ hl).2 h]
 rfl
theorem Wdh {st : List Nat} {a m v : Nat} (hl : a + m <= st.length) : Wii st a m v = false ↔ ∀ p, a <= p -> p < a + m -> gf st p ≠ v := by
 have := WaQ (fr := [v]) hl
 unfold Wii
 constructor
 ·intro h p h1 h2 e
  have hp : p < st.length := by omega
  have hm : st[p] ∈ (st.drop a).take m := by
   refine List.mem_of_getElem? (i := p - a) ?_
   rw [List.getElem?_take, if_pos (by omega), List.getElem?_drop, show a + (p - a) = p by omega, gGe hp]
  have e' : st[p] = v := by
   unfold gf at e
   rw [List.getD_eq_getElem?_getD, gGe hp] at e
   exact e
  rw [e'] at hm
  rw [List.contains_iff_mem.2 hm] at h
  cases h
 ·intro h
  apply Bool.eq_false_iff.2
  intro hc
  obtain ⟨i, hi⟩ := List.getElem?_of_mem (List.contains_iff_mem.1 hc)
  rw [List.getElem?_take] at hi
  split at hi
  ·rename_i hlt
   rw [List.getElem?_drop] at hi
   refine h (a + i) (by omega) (by omega) ?_
   unfold gf
   rw [List.getD_eq_getElem?_getD, hi]; rfl
  ·cases hi
structure PG (A : AR) : Prop where
 len : A.st.length = A.n
 n1 : 32 <= A.n
 n2 : A.n <= 1024
 n16 : A.n % 16 = 0
 le : ∀ p, A.f p <= 3
 us : ∀ p, A.f p = 1 ↔ A.ow p ≠ 0
 fr : ∀ p, A.S p = true ↔ 2 <= A.f p
 hp : ∀ p, A.f p = 0 ↔ A.f (p / 16 * 16) = 0
theorem PG.lt {A : AR} (h : PG A) {p : Nat} (hp : A.f p ≠ 0) : p < A.n := h.len ▸ WhG hp
theorem PG.bnd {A : AR} (h : PG A) : Bounded A.S A.n := fun p hp => h.lt (by have := (h.fr p).1 hp; omega)
theorem PG.hp2 {A : AR} (h : PG A) {p q : Nat} (e : p / 16 = q / 16) : A.f p = 0 ↔ A.f q = 0 := by rw [h.hp p, h.hp q, e]
theorem PG.same {A B : AR} (h : PG A) (e1 : B.n = A.n) (e2 : B.st = A.st) (e3 : B.S = A.S) (e4 : B.ow = A.ow) : PG B := by
 have ef : ∀ p, B.f p = A.f p := fun p => by unfold AR.f; rw [e2]
 exact ⟨by rw [e2, e1]; exact h.len, by rw [e1]; exact h.n1, by rw [e1]; exact h.n2, by rw [e1]; exact h.n16, fun p => by rw [ef]; exact h.le p, fun p => by rw [ef, e4]; exact h.us p, fun p => by rw [ef, e3]; exact h.fr p, fun p => by rw [ef, ef]; exact h.hp p⟩
theorem WeX {ow : Nat -> Nat} {a m no : Nat} (h1 : 1 <= m) (h2 : a + m <= 1024) (p : Nat) : setO ow a m no p = if a <= p /\ p < a + m then no else ow p := by
 unfold setO; rw [if_pos (Ke.2 ⟨h1, h2⟩)]
theorem Wb5 {n : Nat} {S : Nat -> Bool} {a m : Nat} (h1 : 1 <= m) (h2 : a + m <= n) (h : ∀ p, a <= p -> p < a + m -> S p = false) : Zg n S (a : Int) (m : Int) = give S a (a + m) := by
 unfold Zg
 rw [Ke.2 ⟨h1, h2⟩, iTn, iTn, QS.2 h]; rfl
theorem Wg9 {n : Nat} {S : Nat -> Bool} {a m : Nat} (h1 : 1 <= m) (h2 : a + m <= n) (h : ∀ p, a <= p -> p < a + m -> S p = true) : runS n S (a : Int) (m : Int) = take S a (a + m) := by
 unfold runS
 rw [Ke.2 ⟨h1, h2⟩, iTn, iTn, Ku.2 h]; rfl
structure Out (A B : AR) (a b : Nat) : Prop where
 n : B.n = A.n
 len : B.st.length = A.st.length
 f : ∀ p, ¬ (a <= p /\ p < b) -> B.f p = A.f p
 ow : ∀ p, ¬ (a <= p /\ p < b) -> B.ow p = A.ow p
 S : ∀ p, ¬ (a <= p /\ p < b) -> B.S p = A.S p
theorem Out.pg {A B : AR} {a b v : Nat} (o : Out A B a b) (h : PG A) (hv : v <= 3) (hf : ∀ p, a <= p -> p < b -> B.f p = v) (hw : ∀ p, a <= p -> p < b -> (v = 1 ↔ B.ow p ≠ 0)) (hS : ∀ p, a <= p -> p < b -> (B.S p = true ↔ 2 <= v))
 (hz : ∀ p, B.f p = 0 ↔ B.f (p / 16 * 16) = 0) : PG B := by
 refine ⟨by rw [o.len, o.n]; exact h.len, by rw [o.n]; exact h.n1, by rw [o.n]; exact h.n2, by rw [o.n]; exact h.n16, fun p => ?_, fun p => ?_, fun p => ?_, hz⟩
 ·by_cases hp : a <= p /\ p < b
  ·rw [hf p hp.1 hp.2]; exact hv
  ·rw [o.f p hp]; exact h.le p
 ·by_cases hp : a <= p /\ p < b
  ·rw [hf p hp.1 hp.2]; exact hw p hp.1 hp.2
  ·rw [o.f p hp, o.ow p hp]; exact h.us p
 ·by_cases hp : a <= p /\ p < b
  ·rw [hf p hp.1 hp.2]; exact hS p hp.1 hp.2
  ·rw [o.f p hp, o.S p hp]; exact h.fr p
theorem Out.zero {A B : AR} {a b v : Nat} (o : Out A B a b) (h : PG A) (hf : ∀ p, a <= p -> p < b -> B.f p = v) (hv : v ≠ 0) (hA : ∀ p, a <= p -> p < b -> A.f p ≠ 0) : ∀ p, B.f p = 0 ↔ A.f p = 0 := by
 intro p
 by_cases hp : a <= p /\ p < b
 ·rw [hf p hp.1 hp.2]; exact ⟨fun e => (hv e).elim, fun e => (hA p hp.1 hp.2 e).elim⟩
 ·rw [o.f p hp]
theorem WhD {A B : AR} (h : PG A) (e : ∀ p, B.f p = 0 ↔ A.f p = 0) : ∀ p, B.f p = 0 ↔ B.f (p / 16 * 16) = 0 := fun p => by rw [e, e]; exact h.hp p
theorem WbS {A : AR} (h : PG A) {a m : Nat} (h1 : 1 <= m) (hu : ∀ p, a <= p -> p < a + m -> A.f p = 1) : Out A (Q3 A (a, m)) a (a + m) /\ (∀ p, a <= p -> p < a + m -> (Q3 A (a, m)).f p = 2 /\ (Q3 A (a, m)).ow p = 0) /\ PG (Q3 A (a, m)) /\ ∀ p, (Q3 A (a, m)).f p = 0 ↔ A.f p = 0 := by
 have hl : a + m <= A.n := by have := h.lt (p := a + m - 1) (by rw [hu _ (by omega) (by omega)]; omega); omega
 have hn := h.n2
 have e1 : (Q3 A (a, m)).st = setR A.st a (a + m) 2 := GJ h1 (by rw [h.len]; exact hl) fun p p1 p2 => by
  have := hu p p1 p2; unfold AR.f at this; rw [this]; simp
 have e2 : (Q3 A (a, m)).S = give A.S a (a + m) := Wb5 h1 hl fun p p1 p2 => by
  apply Bool.eq_false_iff.2; intro hS
  have := (h.fr p).1 hS; have := hu p p1 p2; omega
 have e3 : ∀ p, (Q3 A (a, m)).ow p = if a <= p /\ p < a + m then 0 else A.ow p := fun p => WeX h1 (by omega) p
 have ef : ∀ p, (Q3 A (a, m)).f p = if a <= p /\ p < a + m then 2 else A.f p := fun p => by unfold AR.f; rw [e1, Hu (by rw [h.len]; exact hl)]
 have o : Out A (Q3 A (a, m)) a (a + m) := ⟨rfl, by rw [e1, ZL], fun p hp => by rw [ef, if_neg hp], fun p hp => by rw [e3, if_neg hp], fun p hp => by
  rw [e2]; unfold give
  have : (decide (a <= p) && decide (p < a + m)) = false := by simp; omega
  rw [this, Bool.or_false]⟩
 have hf : ∀ p, a <= p -> p < a + m -> (Q3 A (a, m)).f p = 2 := fun p p1 p2 => by rw [ef, if_pos ⟨p1, p2⟩]
 have hw : ∀ p, a <= p -> p < a + m -> (Q3 A (a, m)).ow p = 0 := fun p p1 p2 => by rw [e3, if_pos ⟨p1, p2⟩]
 have hz := o.zero h hf (by omega) fun p p1 p2 => by rw [hu p p1 p2]; omega
 refine ⟨o, fun p p1 p2 => ⟨hf p p1 p2, hw p p1 p2⟩, o.pg h (by omega) hf (fun p p1 p2 => by rw [hw p p1 p2]; simp) (fun p p1 p2 => ?_) (WhD h hz), hz⟩
 rw [e2, Qg]
 exact ⟨fun _ => Nat.le_refl _, fun _ => .inr ⟨p1, p2⟩⟩
structure Backd (A B : AR) (rs : List (Nat × Nat)) : Prop where
 pg : PG B
 n : B.n = A.n
 tb : B.tb = A.tb
 room : B.room = A.room
 tra : B.tra = A.tra
 cen : B.cen = A.cen
 runs : B.runs = A.runs
 i : ∀ p, inR rs p -> B.f p = 2 /\ B.ow p = 0
 o : ∀ p, ¬ inR rs p -> B.f p = A.f p /\ B.ow p = A.ow p
 z : ∀ p, B.f p = 0 ↔ A.f p = 0
theorem Wcr : ∀ (rs : List (Nat × Nat)) {A : AR}, PG A -> (∀ r ∈ rs, 1 <= r.2) -> (∀ r ∈ rs, ∀ p, r.1 <= p -> p < r.1 + r.2 -> A.f p = 1) -> rs.Pairwise (fun a b => a.1 + a.2 <= b.1 ∨ b.1 + b.2 <= a.1) -> Backd A (QD A rs) rs
 | [], A, h, _, _, _ => ⟨h, rfl, rfl, rfl, rfl, rfl, rfl, fun p ⟨r, hr, _⟩ => by simp at hr, fun p _ => ⟨rfl, rfl⟩, fun p => Iff.rfl⟩
 | (a, m) :: rs, A, h, hp, hu, hd => by
  have hd' := List.pairwise_cons.1 hd
  obtain ⟨o, hi, hpg, hz⟩ := WbS h (hp _ (List.mem_cons_self ..)) (hu _ (List.mem_cons_self ..))
  have ih := Wcr rs hpg (fun r hr => hp r (List.mem_cons_of_mem _ hr)) (fun r hr p p1 p2 => by
   have := hd'.1 r hr
   simp only at this
   rw [o.f p (by omega)]
   exact hu r (List.mem_cons_of_mem _ hr) p p1 p2) hd'.2
  have e : QD A ((a, m) :: rs) = QD (Q3 A (a, m)) rs := rfl
  rw [e]
  refine ⟨ih.pg, ih.n, ih.tb, ih.room, ih.tra, ih.cen, ih.runs, fun p hin => ?_, fun p hin => ?_, fun p => (ih.z p).trans (hz p)⟩
  ·by_cases h2 : inR rs p
   ·exact ih.i p h2
   ·have := ih.o p h2
    obtain ⟨r, hr, p1, p2⟩ := hin
    rcases List.mem_cons.1 hr with rfl | hr
    ·rw [this.1, this.2]; exact hi p p1 p2
    ·exact (h2 ⟨r, hr, p1, p2⟩).elim
  ·have h2 : ¬ inR rs p := fun ⟨r, hr, hx⟩ => hin ⟨r, List.mem_cons_of_mem _ hr, hx⟩
   have h3 : ¬ (a <= p /\ p < a + m) := fun hx => hin ⟨(a, m), List.mem_cons_self .., hx⟩
   have := ih.o p h2
   exact ⟨this.1.trans (o.f p h3), this.2.trans (o.ow p h3)⟩
theorem Wbw {A : AR} (h : PG A) {a m no : Nat} (h1 : 1 <= m) (hn : no ≠ 0) (hS : ∀ p, a <= p -> p < a + m -> A.S p = true) : Out A (useA A a m no) a (a + m) /\ (∀ p, a <= p -> p < a + m -> (useA A a m no).f p = 1 /\ (useA A a m no).ow p = no) /\ PG (useA A a m no) /\ ∀ p, (useA A a m no).f p = 0 ↔ A.f p = 0 := by
 have hA : ∀ p, a <= p -> p < a + m -> 2 <= A.f p := fun p p1 p2 => (h.fr p).1 (hS p p1 p2)
 have hl : a + m <= A.n := by have := h.lt (p := a + m - 1) (by have := hA (a + m - 1) (by omega) (by omega); omega); omega
 have hn2 := h.n2
 have e1 : (useA A a m no).st = setR A.st a (a + m) 1 := GJ h1 (by rw [h.len]; exact hl) fun p p1 p2 => by
  have h2 := hA p p1 p2; have h3 := h.le p; unfold AR.f at h2 h3
  have : gf A.st p = 2 ∨ gf A.st p = 3 := by omega
  simpa using this
 have e3 : ∀ p, (useA A a m no).ow p = if a <= p /\ p < a + m then no else A.ow p := fun p => WeX h1 (by omega) p
 have ef : ∀ p, (useA A a m no).f p = if a <= p /\ p < a + m then 1 else A.f p := fun p => by unfold AR.f; rw [e1, Hu (by rw [h.len]; exact hl)]
 have o : Out A (useA A a m no) a (a + m) := ⟨rfl, by rw [e1, ZL], fun p hp => by rw [ef, if_neg hp], fun p hp => by rw [e3, if_neg hp], fun p hp => by
  show take A.S a (a + m) p = A.S p
  unfold take
  have : (decide (a <= p) && decide (p < a + m)) = false := by simp; omega
  rw [this]; simp⟩
 have hf : ∀ p, a <= p -> p < a + m -> (useA A a m no).f p = 1 := fun p p1 p2 => by rw [ef, if_pos ⟨p1, p2⟩]
 have hw : ∀ p, a <= p -> p < a + m -> (useA A a m no).ow p = no := fun p p1 p2 => by rw [e3, if_pos ⟨p1, p2⟩]
 have hz := o.zero h hf (by omega) fun p p1 p2 => by have := hA p p1 p2; omega
 refine ⟨o, fun p p1 p2 => ⟨hf p p1 p2, hw p p1 p2⟩, o.pg h (by omega) hf (fun p p1 p2 => by rw [hw p p1 p2]; simp [hn]) (fun p p1 p2 => ?_) (WhD h hz), hz⟩
 show take A.S a (a + m) p = true ↔ _
 rw [Qb]
 constructor
 ·rintro ⟨_, hx⟩; exact (hx ⟨p1, p2⟩).elim
 ·intro hx; omega
theorem WdJ : ∀ (m : Nat) {st : List Nat} {a : Nat}, (a + m) * 16 <= st.length -> (∀ p, a * 16 <= p -> p < (a + m) * 16 -> gf st p = 0) -> (Vi st a m).length = st.length /\ ∀ p, gf (Vi st a m) p = if a * 16 <= p /\ p < (a + m) * 16 then 3 else gf st p
 | 0, st, a, hl, hz => ⟨rfl, fun p => by rw [if_neg (by omega)]; rfl⟩
 | m + 1, st, a, hl, hz => by
  obtain ⟨i1, i2⟩ := WdJ m (st := st) (a := a) (by omega) fun p p1 p2 => hz p p1 (by omega)
  rw [HV]
  have e0 : gf (Vi st a m) (16 * (a + m)) = 0 := by rw [i2, if_neg (by omega)]; exact hz _ (by omega) (by omega)
  have ok : addE (Vi st a m) ((a + m : Nat) : Int) = 0 := by
   unfold addE
   rw [Vd (by rw [i1]; omega), if_pos rfl, iTn]
   unfold gf at e0
   rw [if_pos e0]
  have e : addT (Vi st a m) ((a + m : Nat) : Int) = setR (Vi st a m) (16 * (a + m)) (16 * (a + m) + 16) 3 := by
   unfold addT; rw [if_pos ok, iTn]
  rw [e]
  refine ⟨by rw [ZL, i1], fun p => ?_⟩
  rw [Hu (by rw [i1]; omega), i2]
  by_cases h1 : 16 * (a + m) <= p /\ p < 16 * (a + m) + 16
  ·rw [if_pos h1, if_pos (by omega)]
  ·rw [if_neg h1]
   by_cases h2 : a * 16 <= p /\ p < (a + m) * 16
   ·rw [if_pos h2, if_pos (by omega)]
   ·rw [if_neg h2, if_neg (by omega)]
theorem Wab {sp : Sp} {s m : Nat} (h : mapE sp (s : Int) (m : Int) = 0) : 1 <= m /\ s + m <= sp.st.length /\ ∀ p, s <= p -> p < s + m -> gf sp.st p = 0 := by
 unfold mapE at h
 split at h
 ·rename_i hr
  obtain ⟨h1, h2⟩ := Ke.1 hr
  rw [iTn, iTn] at h
  split at h
  ·cases h
  ·rename_i hn
   refine ⟨h1, h2, fun p p1 p2 => ?_⟩
   have hp : p < sp.st.length := by omega
   have hm : sp.st[p] ∈ (sp.st.drop s).take m := by
    refine List.mem_of_getElem? (i := p - s) ?_
    rw [List.getElem?_take, if_pos (by omega), List.getElem?_drop, show s + (p - s) = p by omega, gGe hp]
   simp only [List.any_eq_true, not_exists, not_and] at hn
   have := hn _ hm
   unfold gf
   rw [List.getD_eq_getElem?_getD, gGe hp]
   simpa using this
 ·cases h
structure Grown (A B : AR) (sp sp' : Sp) (s size : Nat) : Prop where
 pg : PG B
 n : B.n = A.n
 tb : B.tb = A.tb
 room : B.room = A.room
 tra : B.tra = A.tra
 cen : B.cen = A.cen
 runs : B.runs = A.runs
 ow : B.ow = A.ow
 s16 : s % 16 = 0
 s1 : 16 <= s
 sl : s + size <= A.n
 un : ∀ p, s <= p -> p < s + size -> gf sp.st p = 0
 i : ∀ p, s <= p -> p < s + size -> B.f p = 3 /\ gf sp'.st p = 1
 o : ∀ p, ¬ (s <= p /\ p < s + size) -> B.f p = A.f p /\ gf sp'.st p = gf sp.st p
 w : ∀ x, ¬ (s * 32 <= x /\ x < (s + size) * 32) -> sp'.wd x = sp.wd x
 l : sp'.st.length = sp.st.length
 pk : sp'.pk = sp.pk
theorem Vn {sp : Sp} {size s : Nat} (h1 : 1 <= size) (h : ZA sp size = some s) : mapE sp (s : Int) (size : Int) = 0 /\ s ≠ 0 /\ (∃ j, s = j * size) /\ ∀ j, j * size < s -> 1 <= j -> mapE sp ((j * size : Nat) : Int) (size : Int) ≠ 0 := by
 unfold ZA at h
 obtain ⟨hm, us, vs, he, hb⟩ := List.find?_eq_some_iff_append.1 h
 simp only [Bool.and_eq_true, bne_iff_ne, ne_eq, beq_iff_eq] at hm
 have hmem : s ∈ (List.range (sp.st.length / size)).map (· * size) := by rw [he]; simp
 obtain ⟨j, hj, rfl⟩ := List.mem_map.1 hmem
 rw [List.mem_range] at hj
 refine ⟨hm.2, hm.1, ⟨j, rfl⟩, fun i hi h1i => ?_⟩
 have hij : i < j := Nat.lt_of_mul_lt_mul_right hi
 have : i * size ∈ us := by
  have hi2 : i * size ∈ (List.range (sp.st.length / size)).map (· * size) := List.mem_map.2 ⟨i, List.mem_range.2 (by omega), rfl⟩
  have hsorted : ((List.range (sp.st.length / size)).map (· * size)).Pairwise (· < ·) := by
   rw [List.pairwise_map]
   exact List.pairwise_lt_range.imp fun {a b} hab => Nat.mul_lt_mul_of_pos_right hab (by omega)
  rw [he] at hi2 hsorted
  rcases List.mem_append.1 hi2 with h | h
  ·exact h
  ·rcases List.mem_cons.1 h with h | h
   ·have := Nat.eq_of_mul_eq_mul_right (by omega) h; omega
   ·have := (List.pairwise_cons.1 (List.pairwise_append.1 hsorted).2.1).1 _ h
    omega
 have := hb _ this
 have hne : i * size ≠ 0 := by
  have := Nat.mul_pos (show 0 < i by omega) (show 0 < size by omega); omega
 simpa [hne] using this
theorem Wg0 {sp : Sp} {s m : Nat} (h : mapE sp (s : Int) (m : Int) = 0) : (mapS sp (s : Int) (m : Int)).st.length = sp.st.length /\ (∀ p, gf (mapS sp (s : Int) (m : Int)).st p = if s <= p /\ p < s + m then 1 else gf sp.st p) /\ (∀ x, ¬ (s * 32 <= x /\ x < (s + m) * 32) -> (mapS sp (s : Int) (m : Int)).wd x = sp.wd x) /\ (mapS sp (s : Int) (m : Int)).pk = sp.pk := by
 obtain ⟨h1, h2, _⟩ := Wab h
 unfold mapS
 rw [if_pos h, iTn, iTn]
 refine ⟨by simp [Sp.set, ZL], fun p => Hu h2, fun x hx => ?_, rfl⟩
 show (if s * 32 <= x /\ x < (s + m) * 32 then 0 else sp.wd x) = _
 rw [if_neg hx]
theorem WfM {A : AR} {sp : Sp} (h : PG A) (hl : sp.st.length = A.n) (hz : ∀ p, gf sp.st p = 0 -> A.f p = 0) {size : Nat} (hs : size = 16 ∨ size = 32 ∨ size = 64) {B : AR} {sp' : Sp} (hg : Kg A sp size = some (B, sp')) :
 ∃ s, ZA sp size = some s /\ Grown A B sp sp' s size := by
 unfold Kg at hg
 split at hg
 ·cases hg
 ·rename_i s hgs
  cases hg
  obtain ⟨hm, h0, ⟨j, hj⟩, _⟩ := Vn (by omega) hgs
  obtain ⟨m1, m2, m3⟩ := Wab hm
  have s16 : s % 16 = 0 := by rcases hs with rfl | rfl | rfl <;> omega
  have sz16 : size % 16 = 0 := by rcases hs with rfl | rfl | rfl <;> omega
  have e1 : s / 16 * 16 = s := by omega
  have e2 : (s / 16 + size / 16) * 16 = s + size := by omega
  have hA0 : ∀ p, s <= p -> p < s + size -> A.f p = 0 := fun p p1 p2 => hz p (m3 p p1 p2)
  obtain ⟨a1, a2⟩ := WdJ (size / 16) (st := A.st) (a := s / 16) (by rw [e2, h.len, ← hl]; exact m2) (by rw [e1, e2]; exact hA0)
  rw [e1, e2] at a2
  obtain ⟨b1, b2, b3, b4⟩ := Wg0 hm
  have hl' : s + size <= A.n := by rw [← hl]; exact m2
  have eS : Zg A.n A.S (s : Int) (size : Int) = give A.S s (s + size) := Wb5 m1 hl' fun p p1 p2 => by
   apply Bool.eq_false_iff.2; intro hS
   have := (h.fr p).1 hS; have := hA0 p p1 p2; omega
  refine ⟨s, hgs, ⟨?_, rfl, rfl, rfl, rfl, rfl, rfl, rfl, s16, by omega, hl', m3, fun p p1 p2 => ⟨?_, ?_⟩, fun p hp => ⟨?_, ?_⟩, b3, b1, b4⟩⟩
  ·have o : Out A { A with st := Vi A.st (s / 16) (size / 16), S := Zg A.n A.S (s : Int) (size : Int) } s (s + size) := ⟨rfl, a1, fun p hp => by show gf _ p = _; rw [a2, if_neg hp]; rfl, fun p hp => rfl, fun p hp => by
    show Zg A.n A.S (s : Int) (size : Int) p = A.S p
    rw [eS]; unfold give
    have : (decide (s <= p) && decide (p < s + size)) = false := by simp; omega
    rw [this, Bool.or_false]⟩
   have hf : ∀ p, s <= p -> p < s + size -> AR.f { A with st := Vi A.st (s / 16) (size / 16), S := Zg A.n A.S (s : Int) (size : Int) } p = 3 := fun p p1 p2 => by show gf _ p = 3; rw [a2, if_pos ⟨p1, p2⟩]
   refine o.pg h (Nat.le_refl _) hf (fun p p1 p2 => ?_) (fun p p1 p2 => ?_) fun p => ?_
   ·have h0 := hA0 p p1 p2
    have := h.us p
    constructor
    ·intro hx; omega
    ·intro hx; have := this.2 hx; omega
   ·show Zg A.n A.S (s : Int) (size : Int) p = true ↔ _
    rw [eS, Qg]
    exact ⟨fun _ => by omega, fun _ => .inr ⟨p1, p2⟩⟩
   ·by_cases hp : s <= p /\ p < s + size
    ·rw [hf p hp.1 hp.2, hf (p / 16 * 16) (by omega) (by omega)]
    ·rw [o.f p hp, o.f (p / 16 * 16) (by omega)]; exact h.hp p
  ·show gf (Vi A.st (s / 16) (size / 16)) p = 3
   rw [a2, if_pos ⟨p1, p2⟩]
  ·rw [b2, if_pos ⟨p1, p2⟩]
  ·show gf (Vi A.st (s / 16) (size / 16)) p = A.f p
   rw [a2, if_neg hp]; rfl
  ·rw [b2, if_neg hp]
end Go.Ar
namespace Go.Ar
open Go.Bu (XA Zg runS Xj HE allF QS Ku give take Qg Qb Bounded full can Yv Km Y4 ZU Zd Qj ZW Zo)


def Cl (A : AR) (k : Nat) (c : Cls) (ss : List SpA) : Prop := A.tb[k]? = some c /\ A.cen[k]? = some ss
def TkA (A : AR) (k : Nat) (x : Int) : Prop := ∃ c ss, Cl A k c ss /\ Tk c ss x
def InT (A : AR) (k : Nat) (x : Int) : Prop := ∃ t, A.tra[k]? = some t /\ x ∈ t.bs.flatten
structure GA (A : AR) : Prop where
 pg : PG A
 tb : A.tb.length <= 40
 lc : A.cen.length = A.tb.length
 lt : A.tra.length = A.tb.length
 cen : ∀ k c ss, Cl A k c ss -> CenOk c ss
 one : ∀ k c ss, Cl A k c ss -> ∀ s ∈ ss, s.st / 16 = (s.st + c.pages - 1) / 16
 ow : ∀ k c ss, Cl A k c ss -> ∀ p, A.ow p = k + 1 ↔ Cov c ss p
 ow41 : ∀ p, A.ow p = 41 ↔ inR A.runs p
 owb : ∀ p, A.ow p = 41 ∨ A.ow p <= A.tb.length
 rpos : ∀ r ∈ A.runs, 1 <= r.2
 rdis : A.runs.Pairwise fun a b => a.1 + a.2 <= b.1 ∨ b.1 + b.2 <= a.1
 trn : ∀ (k : Nat) (t : TrA), A.tra[k]? = some t -> t.bs.flatten.Nodup
 trt : ∀ (k : Nat) c ss (t : TrA), Cl A k c ss -> A.tra[k]? = some t -> ∀ x ∈ t.bs.flatten, Tk c ss x
 trb : ∀ (k : Nat) (c : Cls) (t : TrA), A.tb[k]? = some c -> A.tra[k]? = some t -> ∀ xs ∈ t.bs, xs.length = c.batch
structure Kp (A B : AR) : Prop where
 n : B.n = A.n
 tb : B.tb = A.tb
 room : B.room = A.room
 z : ∀ p, B.f p = 0 ↔ A.f p = 0
 t : ∀ p, B.f p = 3 -> A.f p = 3
theorem Kp.refl (A : AR) : Kp A A := ⟨rfl, rfl, rfl, fun _ => Iff.rfl, fun _ => id⟩
theorem Kp.trans {A B C : AR} (h : Kp A B) (k : Kp B C) : Kp A C := ⟨k.n.trans h.n, k.tb.trans h.tb, k.room.trans h.room, fun p => (k.z p).trans (h.z p), fun p hp => h.t p (k.t p hp)⟩
theorem Kp.pages {A B : AR} (e1 : B.n = A.n) (e2 : B.tb = A.tb) (e3 : B.room = A.room) (e4 : B.st = A.st) : Kp A B := ⟨e1, e2, e3, fun p => by unfold AR.f; rw [e4], fun p => by unfold AR.f; rw [e4]; exact id⟩
variable {A : AR} {k : Nat} {c : Cls} {ss : List SpA}
theorem Cl.lt (h : Cl A k c ss) : k < A.tb.length := (gSi.1 h.1).1
theorem Cl.eq {c' : Cls} {ss' : List SpA} (h : Cl A k c ss) (h' : Cl A k c' ss') : c = c' /\ ss = ss' := ⟨Option.some.inj (h.1.symm.trans h'.1), Option.some.inj (h.2.symm.trans h'.2)⟩
theorem GA.cl (h : GA A) {k : Nat} (hk : k < A.tb.length) : ∃ c ss t, Cl A k c ss /\ A.tra[k]? = some t := by
 have h1 := h.lc; have h2 := h.lt
 exact ⟨A.tb[k], A.cen[k], A.tra[k], ⟨by simp, by simp⟩, by simp⟩
theorem GA.used (h : GA A) (hk : Cl A k c ss) {s : SpA} (hs : s ∈ ss) {p : Nat} (h1 : s.st <= p) (h2 : p < s.st + c.pages) : A.f p = 1 /\ A.ow p = k + 1 := by
 have := (h.ow k c ss hk p).2 ⟨s, hs, h1, h2⟩
 exact ⟨(h.pg.us p).2 (by omega), this⟩
theorem GA.usedR (h : GA A) {r : Nat × Nat} (hr : r ∈ A.runs) {p : Nat} (h1 : r.1 <= p) (h2 : p < r.1 + r.2) : A.f p = 1 /\ A.ow p = 41 := by
 have := (h.ow41 p).2 ⟨r, hr, h1, h2⟩
 exact ⟨(h.pg.us p).2 (by omega), this⟩
theorem GA.runs_uniq (h : GA A) {r s : Nat × Nat} (hr : r ∈ A.runs) (hs : s ∈ A.runs) {x : Nat} (h1 : r.1 <= x) (h2 : x < r.1 + r.2) (h3 : s.1 <= x) (h4 : x < s.1 + s.2) : r = s := by
 obtain ⟨i, hi⟩ := List.getElem?_of_mem hr
 obtain ⟨j, hj⟩ := List.getElem?_of_mem hs
 obtain ⟨hi1, rfl⟩ := gSi.1 hi
 obtain ⟨hj1, rfl⟩ := gSi.1 hj
 rcases Nat.lt_trichotomy i j with hl | hl | hl
 ·have := List.pairwise_iff_getElem.1 h.rdis i j hi1 hj1 hl; omega
 ·subst hl; rfl
 ·have := List.pairwise_iff_getElem.1 h.rdis j i hj1 hi1 hl; omega
theorem GA.fit (h : GA A) {r : Nat × Nat} (hr : r ∈ A.runs) : r.1 + r.2 <= A.n := by
 have := h.rpos r hr
 have := h.pg.lt (p := r.1 + r.2 - 1) (by rw [(h.usedR hr (p := r.1 + r.2 - 1) (by omega) (by omega)).1]; omega)
 omega
theorem GA.runsOk (h : GA A) : RunsOk A := by
 have hn := h.pg.n2
 refine ⟨fun r hr s hs x h1 h2 h3 h4 => h.runs_uniq hr hs h1 h2 h3 h4, fun x hx h41 => ?_, fun x hx h0 h41 => ?_, fun r hr => ?_⟩
 ·obtain ⟨r, hr, h1, h2⟩ := (h.ow41 x).1 h41
  unfold Gv
  rw [List.find?_isSome]
  exact ⟨r, hr, by simp [h1, h2]⟩
 ·rcases h.owb x with e | e
  ·exact (h41 e).elim
  ·exact e
 ·have := h.fit hr; omega
theorem KO (hk : Cl A k c ss) {ss' : List SpA} {j : Nat} {d : Cls} {tt : List SpA} (h : Cl { A with cen := A.cen.set k ss' } j d tt) : (j = k /\ d = c /\ tt = ss') ∨ (j ≠ k /\ Cl A j d tt) := by
 obtain ⟨h1, h2⟩ := h
 by_cases hjk : j = k
 ·subst hjk
  have hl := (gSi.1 hk.2).1
  simp only [List.getElem?_set_self hl] at h2
  exact .inl ⟨rfl, Option.some.inj (h1.symm.trans hk.1), (Option.some.inj h2).symm⟩
 ·simp only [List.getElem?_set_ne (Ne.symm hjk)] at h2
  exact .inr ⟨hjk, h1, h2⟩
theorem UZ (hk : Cl A k c ss) (ss' : List SpA) : Cl { A with cen := A.cen.set k ss' } k c ss' := ⟨hk.1, List.getElem?_set_self (gSi.1 hk.2).1⟩
theorem Wdj {ss' : List SpA} {j : Nat} {d : Cls} {tt : List SpA} (hjk : j ≠ k) (h : Cl A j d tt) : Cl { A with cen := A.cen.set k ss' } j d tt := ⟨h.1, (List.getElem?_set_ne (Ne.symm hjk)).trans h.2⟩
theorem GA.setCen (h : GA A) (hk : Cl A k c ss) {ss' : List SpA} (hC : CenOk c ss') (hst : ss'.map (·.st) = ss.map (·.st)) (ht : ∀ t, A.tra[k]? = some t -> ∀ x ∈ t.bs.flatten, Tk c ss' x) : GA { A with cen := A.cen.set k ss' } := by
 refine ⟨h.pg.same rfl rfl rfl rfl, h.tb, by simp [h.lc], h.lt, fun j d tt hj => ?_, fun j d tt hj s hs => ?_, fun j d tt hj p => ?_, h.ow41, h.owb, h.rpos, h.rdis, h.trn, fun j d tt t hj htr => ?_, h.trb⟩
 ·rcases KO hk hj with ⟨rfl, rfl, rfl⟩ | ⟨hne, hj⟩
  ·exact hC
  ·exact h.cen j d tt hj
 ·rcases KO hk hj with ⟨rfl, rfl, rfl⟩ | ⟨hne, hj⟩
  ·have : s.st ∈ ss.map (·.st) := by rw [← hst]; exact List.mem_map.2 ⟨s, hs, rfl⟩
   obtain ⟨t, ht, e⟩ := List.mem_map.1 this
   rw [← e]; exact h.one _ _ _ hk t ht
  ·exact h.one j d tt hj s hs
 ·rcases KO hk hj with ⟨rfl, rfl, rfl⟩ | ⟨hne, hj⟩
  ·rw [WiC hst]; exact h.ow _ _ _ hk p
  ·exact h.ow j d tt hj p
 ·rcases KO hk hj with ⟨rfl, rfl, rfl⟩ | ⟨hne, hj⟩
  ·exact ht t htr
  ·exact h.trt j d tt t hj htr
theorem GF (hk : Cl A k c ss) {ss' : List SpA} {j : Nat} {x : Int} : TkA { A with cen := A.cen.set k ss' } j x ↔ (j = k /\ Tk c ss' x) ∨ (j ≠ k /\ TkA A j x) := by
 constructor
 ·rintro ⟨d, tt, hj, hx⟩
  rcases KO hk hj with ⟨rfl, rfl, rfl⟩ | ⟨hne, hj⟩
  ·exact .inl ⟨rfl, hx⟩
  ·exact .inr ⟨hne, d, tt, hj, hx⟩
 ·rintro (⟨rfl, hx⟩ | ⟨hne, d, tt, hj, hx⟩)
  ·exact ⟨c, ss', UZ hk ss', hx⟩
  ·exact ⟨d, tt, Wdj hne hj, hx⟩
theorem QM (hk : Cl A k c ss) {x : Int} : TkA A k x ↔ Tk c ss x := by
 constructor
 ·rintro ⟨d, tt, hj, hx⟩
  obtain ⟨rfl, rfl⟩ := hk.eq hj; exact hx
 ·intro hx; exact ⟨c, ss, hk, hx⟩
def swp (A : AR) (k : Nat) (c : Cls) (ss : List SpA) : AR := QD { A with cen := A.cen.set k (sweep ss) } ((Zn ss).map fun s => (s, c.pages))
theorem Hl {p : Nat} : inR ((Zn ss).map fun s => (s, c.pages)) p ↔ ∃ x ∈ Zn ss, x <= p /\ p < x + c.pages := by
 unfold inR
 simp only [List.mem_map]
 constructor
 ·rintro ⟨_, ⟨x, hx, rfl⟩, h⟩; exact ⟨x, hx, h⟩
 ·rintro ⟨x, hx, h⟩; exact ⟨_, ⟨x, hx, rfl⟩, h⟩
theorem GA.swept_used (h : GA A) (hk : Cl A k c ss) {x : Nat} (hx : x ∈ Zn ss) {p : Nat} (h1 : x <= p) (h2 : p < x + c.pages) : A.f p = 1 /\ A.ow p = k + 1 := by
 obtain ⟨s, hs, _, rfl⟩ := Hy.1 hx
 exact h.used hk hs h1 h2
theorem GA.swpB (h : GA A) (hk : Cl A k c ss) : Backd { A with cen := A.cen.set k (sweep ss) } (swp A k c ss) ((Zn ss).map fun s => (s, c.pages)) := by
 have hC := h.cen k c ss hk
 refine Wcr _ (h.pg.same rfl rfl rfl rfl) (fun r hr => ?_) (fun r hr p p1 p2 => ?_) ?_
 ·obtain ⟨x, _, rfl⟩ := List.mem_map.1 hr; exact hC.pg
 ·obtain ⟨x, hx, rfl⟩ := List.mem_map.1 hr; exact (h.swept_used hk hx p1 p2).1
 ·rw [List.pairwise_map]; exact (We7 hC).imp fun {a b} hab => .inl hab
theorem GA.swp (h : GA A) (hk : Cl A k c ss) : GA (Go.Ar.swp A k c ss) := by
 have b := h.swpB hk
 have hC := h.cen k c ss hk
 have hkl := hk.lt
 have htb := h.tb
 have cl : ∀ {j d tt}, Cl (Go.Ar.swp A k c ss) j d tt -> (j = k /\ d = c /\ tt = sweep ss) ∨ (j ≠ k /\ Cl A j d tt) := fun {j d tt} hj => KO hk ⟨by rw [← b.tb]; exact hj.1, by rw [← b.cen]; exact hj.2⟩
 have own : ∀ p, inR ((Zn ss).map fun s => (s, c.pages)) p -> A.ow p = k + 1 := fun p hp => by
  obtain ⟨x, hx, h1, h2⟩ := Hl.1 hp
  exact (h.swept_used hk hx h1 h2).2
 have tra : (Go.Ar.swp A k c ss).tra = A.tra := b.tra
 have tb : (Go.Ar.swp A k c ss).tb = A.tb := b.tb
 have runs : (Go.Ar.swp A k c ss).runs = A.runs := b.runs
 refine ⟨b.pg, by rw [tb]; exact h.tb, by rw [b.cen, tb]; simp [h.lc], by rw [tra, tb]; exact h.lt, fun j d tt hj => ?_, fun j d tt hj s hs => ?_, fun j d tt hj p => ?_, fun p => ?_, fun p => ?_, by rw [runs]; exact h.rpos, by rw [runs]; exact h.rdis, by rw [tra]; exact h.trn, fun j d tt t hj htr => ?_, by rw [tra, tb]; exact h.trb⟩
 ·rcases cl hj with ⟨rfl, rfl, rfl⟩ | ⟨hne, hj⟩
  ·exact hC.sweep
  ·exact h.cen j d tt hj
 ·rcases cl hj with ⟨rfl, rfl, rfl⟩ | ⟨hne, hj⟩
  ·exact h.one _ _ _ hk s (List.mem_filter.1 hs).1
  ·exact h.one j d tt hj s hs
 ·by_cases hp : inR ((Zn ss).map fun s => (s, c.pages)) p
  ·rw [(b.i p hp).2]
   have ho := own p hp
   rcases cl hj with ⟨rfl, rfl, rfl⟩ | ⟨hne, hj⟩
   ·rw [WaS hC]
    constructor
    ·intro e; omega
    ·rintro ⟨_, hn⟩; exact (hn (Hl.1 hp)).elim
   ·rw [← h.ow j d tt hj p, ho]; omega
  ·rw [(b.o p hp).2]
   rcases cl hj with ⟨rfl, rfl, rfl⟩ | ⟨hne, hj⟩
   ·rw [WaS hC]
    show A.ow p = _ ↔ _
    rw [h.ow _ _ _ hk p]
    exact ⟨fun hx => ⟨hx, fun hy => hp (Hl.2 hy)⟩, fun hx => hx.1⟩
   ·exact h.ow j d tt hj p
 ·rw [runs]
  by_cases hp : inR ((Zn ss).map fun s => (s, c.pages)) p
  ·rw [(b.i p hp).2, ← h.ow41, own p hp]; omega
  ·rw [(b.o p hp).2]; exact h.ow41 p
 ·rw [tb]
  by_cases hp : inR ((Zn ss).map fun s => (s, c.pages)) p
  ·rw [(b.i p hp).2]; omega
  ·rw [(b.o p hp).2]; exact h.owb p
 ·rw [tra] at htr
  rcases cl hj with ⟨rfl, rfl, rfl⟩ | ⟨hne, hj⟩
  ·intro x hx; exact (Wca hC).2 (h.trt _ _ _ t hk htr x hx)
  ·exact h.trt j d tt t hj htr
theorem GA.swpK (h : GA A) (hk : Cl A k c ss) : Kp A (Go.Ar.swp A k c ss) := by
 have b := h.swpB hk
 refine ⟨b.n, b.tb, b.room, b.z, fun p hp => ?_⟩
 by_cases hi : inR ((Zn ss).map fun s => (s, c.pages)) p
 ·rw [(b.i p hi).1] at hp; omega
 ·rw [(b.o p hi).1] at hp; exact hp
theorem GA.swpT (h : GA A) (hk : Cl A k c ss) {j : Nat} {x : Int} : TkA (Go.Ar.swp A k c ss) j x ↔ TkA A j x := by
 have b := h.swpB hk
 have hC := h.cen k c ss hk
 have e : TkA (Go.Ar.swp A k c ss) j x ↔ TkA { A with cen := A.cen.set k (sweep ss) } j x := by unfold TkA Cl; rw [b.tb, b.cen]
 rw [e, GF hk, Wca hC]
 constructor
 ·rintro (⟨rfl, hx⟩ | ⟨_, hx⟩)
  ·exact (QM hk).2 hx
  ·exact hx
 ·intro hx
  by_cases hjk : j = k
  ·subst hjk; exact .inl ⟨rfl, (QM hk).1 hx⟩
  ·exact .inr ⟨hjk, hx⟩
theorem Hf {k : Int} : A.ck k = true ↔ ∃ j : Nat, k = j /\ j < A.tb.length := by
 unfold AR.ck
 simp only [Bool.and_eq_true, decide_eq_true_eq]
 constructor
 ·intro h; exact ⟨k.toNat, by omega, by omega⟩
 ·rintro ⟨j, rfl, h⟩; omega
structure Ob (A B : AR) : Prop where
 ga : GA B
 kp : Kp A B
 runs : B.runs = A.runs
theorem Gm (h : GA A) (k m : Int) : Ob A (Ye A k m) /\ (Ye A k m).tra = A.tra /\ (YY A k m).Nodup /\ (YY A k m ≠ [] -> ∃ j : Nat, k = j /\ j < A.tb.length) /\ (∀ x ∈ YY A k m, ¬ TkA A k.toNat (x : Int)) ∧
 ∀ j y, TkA (Ye A k m) j y ↔ TkA A j y ∨ (j = k.toNat /\ ∃ x ∈ YY A k m, y = ((x : Nat) : Int)) := by
 by_cases h0 : Zm A k m = 0
 ·have hck : A.ck k = true := by
   unfold Zm at h0
   split at h0
   ·assumption
   ·cases h0
  obtain ⟨j, rfl, hj⟩ := Hf.1 hck
  obtain ⟨c, ss, t, hk, ht⟩ := h.cl hj
  have eR : K8 A (j : Int) m = Z7 c m.toNat ss := by unfold K8; rw [iTn, hk.1, hk.2]
  have eS : Ye A (j : Int) m = { A with cen := A.cen.set j (Z7 c m.toNat ss).2 } := by unfold Ye; rw [if_pos h0, eR, iTn]
  have eV : YY A (j : Int) m = (Z7 c m.toNat ss).1 := by unfold YY; rw [if_pos h0, eR]
  rw [eS, eV]
  obtain ⟨s1, s2, s3, s4, s5, s6⟩ := H4 m.toNat (h.cen j c ss hk)
  refine ⟨⟨h.setCen hk s1 s2 fun t' ht' x hx => (s6 x).2 (.inr (h.trt j c ss t' hk ht' x hx)), Kp.pages rfl rfl rfl rfl, rfl⟩, rfl, s4, fun _ => ⟨j, rfl, hj⟩, fun x hx => ?_, fun i y => ?_⟩
  ·rw [iTn, QM hk]; exact s5 x hx
  ·rw [GF hk, s6, iTn]
   by_cases hij : i = j
   ·subst hij; rw [QM hk]
    constructor
    ·rintro (⟨_, hx | hx⟩ | ⟨hx, _⟩)
     ·exact .inr ⟨rfl, hx⟩
     ·exact .inl hx
     ·exact (hx rfl).elim
    ·rintro (hx | ⟨_, hx⟩)
     ·exact .inl ⟨rfl, .inr hx⟩
     ·exact .inl ⟨rfl, .inl hx⟩
   ·constructor
    ·rintro (⟨hx, _⟩ | ⟨_, hx⟩)
     ·exact (hij hx).elim
     ·exact .inl hx
    ·rintro (hx | ⟨hx, _⟩)
     ·exact .inr ⟨hij, hx⟩
     ·exact (hij hx).elim
 ·have eS : Ye A k m = A := by unfold Ye; rw [if_neg h0]
  have eV : YY A k m = [] := by unfold YY; rw [if_neg h0]
  rw [eS, eV]
  exact ⟨⟨h, Kp.refl A, rfl⟩, rfl, List.nodup_nil, by simp, by simp, by simp⟩
theorem WhM {xs : List Int} (h : AllT c ss xs) : putE c ss xs = 0 := by
 unfold putE
 have h1 : xs.any (fun x => (isTk c ss x).isNone) = false := by
  rw [List.any_eq_false]; intro x hx; rw [h.1 x hx]; simp
 have h2 : xs.any (fun x => isTk c ss x == some false) = false := by
  rw [List.any_eq_false]; intro x hx; rw [h.1 x hx]; simp
 rw [h1, h2, decide_eq_true h.2]; rfl
theorem HQ (h : GA A) (hk : Cl A k c ss) (xs : List Int) : Zr A (k : Int) xs = putE c ss xs := by
 unfold Zr
 rw [Hf.2 ⟨k, rfl, hk.lt⟩, if_pos rfl, iTn, hk.1, hk.2]
theorem VH (h : GA A) {k : Int} {xs : List Int} (h0 : Zr A k xs = 0) : ∃ (j : Nat) (c : Cls) (ss : List SpA), k = j /\ Cl A j c ss /\ AllT c ss xs := by
 have hck : A.ck k = true := by
  unfold Zr at h0
  split at h0
  ·assumption
  ·cases h0
 obtain ⟨j, rfl, hj⟩ := Hf.1 hck
 obtain ⟨c, ss, t, hk, ht⟩ := h.cl hj
 rw [HQ h hk] at h0
 exact ⟨j, c, ss, rfl, hk, Wd7 h0⟩
theorem UF (h : GA A) {k : Int} {xs : List Int} (hd : Zr A k xs = 0 -> ∀ x ∈ xs, ¬ InT A k.toNat x) : Ob A (Yu A k xs) /\ (Yu A k xs).tra = A.tra ∧
 (Zr A k xs = 0 -> ∀ j y, TkA (Yu A k xs) j y ↔ TkA A j y /\ ¬ (j = k.toNat /\ y ∈ xs)) /\ (Zr A k xs ≠ 0 -> Yu A k xs = A) := by
 by_cases h0 : Zr A k xs = 0
 ·obtain ⟨j, c, ss, rfl, hk, hA⟩ := VH h h0
  obtain ⟨p1, p2, p3⟩ := WaD xs (h.cen j c ss hk) hA
  have g1 := h.setCen hk p1 p2 fun t ht x hx => (p3 x).2 ⟨h.trt j c ss t hk ht x hx, fun hm => hd h0 x hm ⟨t, by rw [iTn]; exact ht, hx⟩⟩
  have hk1 := UZ hk (xs.foldl (put1 c) ss)
  have eS : Yu A (j : Int) xs = swp { A with cen := A.cen.set j (xs.foldl (put1 c) ss) } j c (xs.foldl (put1 c) ss) := by
   unfold Yu swp
   rw [if_pos h0, iTn, hk.1, hk.2]
   simp only [List.set_set]
  have b := g1.swpB hk1
  rw [eS]
  refine ⟨⟨g1.swp hk1, (Kp.pages rfl rfl rfl rfl : Kp A { A with cen := A.cen.set j (xs.foldl (put1 c) ss) }).trans (g1.swpK hk1), b.runs⟩, b.tra, fun _ i y => ?_, fun hn => (hn h0).elim⟩
  rw [g1.swpT hk1, GF hk, p3, iTn]
  by_cases hij : i = j
  ·subst hij; rw [QM hk]
   constructor
   ·rintro (⟨_, hx, hy⟩ | ⟨hx, _⟩)
    ·exact ⟨hx, fun hz => hy hz.2⟩
    ·exact (hx rfl).elim
   ·rintro ⟨hx, hy⟩; exact .inl ⟨rfl, hx, fun hz => hy ⟨rfl, hz⟩⟩
  ·constructor
   ·rintro (⟨hx, _⟩ | ⟨_, hx⟩)
    ·exact (hij hx).elim
    ·exact ⟨hx, fun hz => hij hz.1⟩
   ·rintro ⟨hx, _⟩; exact .inr ⟨hij, hx⟩
 ·have eS : Yu A k xs = A := by unfold Yu; rw [if_neg h0]
  rw [eS]
  exact ⟨⟨h, Kp.refl A, rfl⟩, rfl, fun hx => (h0 hx).elim, fun _ => rfl⟩
theorem GA.setTra (h : GA A) {k : Nat} {t' : TrA} (h1 : t'.bs.flatten.Nodup) (h2 : ∀ x ∈ t'.bs.flatten, TkA A k x) (h3 : ∀ c, A.tb[k]? = some c -> ∀ xs ∈ t'.bs, xs.length = c.batch) : GA { A with tra := A.tra.set k t' } := by
 have get : ∀ {j t}, (A.tra.set k t')[j]? = some t -> (j = k /\ t = t') ∨ (j ≠ k /\ A.tra[j]? = some t) := by
  intro j t hj
  by_cases hjk : j = k
  ·subst hjk
   have hl : j < A.tra.length := by have := (gSi.1 hj).1; simpa using this
   rw [List.getElem?_set_self hl] at hj
   exact .inl ⟨rfl, (Option.some.inj hj).symm⟩
  ·rw [List.getElem?_set_ne (Ne.symm hjk)] at hj; exact .inr ⟨hjk, hj⟩
 refine ⟨h.pg.same rfl rfl rfl rfl, h.tb, h.lc, by simp [h.lt], h.cen, h.one, h.ow, h.ow41, h.owb, h.rpos, h.rdis, fun j t hj => ?_, fun j c ss t hc hj x hx => ?_, fun j c t hc hj => ?_⟩
 ·rcases get hj with ⟨rfl, rfl⟩ | ⟨_, hj⟩
  ·exact h1
  ·exact h.trn j t hj
 ·rcases get hj with ⟨rfl, rfl⟩ | ⟨_, hj⟩
  ·exact (QM hc).1 (h2 x hx)
  ·exact h.trt j c ss t hc hj x hx
 ·rcases get hj with ⟨rfl, rfl⟩ | ⟨_, hj⟩
  ·exact h3 c hc
  ·exact h.trb j c t hc hj
theorem GT {t' : TrA} {j : Nat} {x : Int} (hk : k < A.tra.length) : InT { A with tra := A.tra.set k t' } j x ↔ (j = k /\ x ∈ t'.bs.flatten) ∨ (j ≠ k /\ InT A j x) := by
 by_cases hjk : j = k
 ·subst hjk
  have e0 : (A.tra.set j t')[j]? = some t' := List.getElem?_set_self hk
  constructor
  ·rintro ⟨t, e, hx⟩
   have e : (A.tra.set j t')[j]? = some t := e
   rw [e0] at e; cases e; exact .inl ⟨rfl, hx⟩
  ·rintro (⟨_, hx⟩ | ⟨hx, _⟩)
   ·exact ⟨_, e0, hx⟩
   ·exact (hx rfl).elim
 ·have e0 : (A.tra.set k t')[j]? = A.tra[j]? := List.getElem?_set_ne (Ne.symm hjk)
  constructor
  ·rintro ⟨t, e, hx⟩
   have e : (A.tra.set k t')[j]? = some t := e
   rw [e0] at e; exact .inr ⟨hjk, t, e, hx⟩
  ·rintro (⟨hx, _⟩ | ⟨_, t, e, hx⟩)
   ·exact (hjk hx).elim
   ·exact ⟨t, e0.trans e, hx⟩
theorem V1 {t : TrA} (ht : A.tra[k]? = some t) {x : Int} : InT A k x ↔ x ∈ t.bs.flatten := by
 constructor
 ·rintro ⟨t', e, hx⟩; rw [ht] at e; cases e; exact hx
 ·intro hx; exact ⟨t, ht, hx⟩
theorem WaU (h : GA A) (k : Int) : Ob A (Y7 A k) /\ (∀ j y, TkA (Y7 A k) j y ↔ TkA A j y) /\ (∀ x ∈ Y8 A k, InT A k.toNat x) /\ (Y8 A k).Nodup /\ (Y8 A k ≠ [] -> ∃ j : Nat, k = j /\ j < A.tb.length) ∧
 ∀ j y, InT (Y7 A k) j y ↔ InT A j y /\ ¬ (j = k.toNat /\ y ∈ Y8 A k) := by
 by_cases h0 : Z1 A k = 0
 ·have hck : A.ck k = true := by
   unfold Z1 at h0
   split at h0
   ·assumption
   ·cases h0
  obtain ⟨j, rfl, hj⟩ := Hf.1 hck
  obtain ⟨c, ss, t, hk, ht⟩ := h.cl hj
  have hne : t.bs ≠ [] := by
   intro e
   unfold Z1 at h0
   rw [hck, if_pos rfl, iTn, ht] at h0
   simp [e] at h0
  have eS : Y7 A (j : Int) = { A with tra := A.tra.set j t.rem } := by unfold Y7; rw [if_pos h0, iTn, HP ht]
  have eV : Y8 A (j : Int) = t.bs.getLast?.getD [] := by unfold Y8; rw [if_pos h0, iTn, ht]
  have hsp : t.bs = t.bs.dropLast ++ [t.bs.getLast hne] := (List.dropLast_concat_getLast hne).symm
  have hv : Y8 A (j : Int) = t.bs.getLast hne := by rw [eV, List.getLast?_eq_some_getLast hne]; rfl
  have hfl : t.bs.flatten = t.bs.dropLast.flatten ++ t.bs.getLast hne := by
   conv => lhs; rw [hsp]
   simp
  have hnd := h.trn j t ht
  rw [hfl] at hnd
  have hnd' := List.nodup_append.1 hnd
  have hrem : t.rem.bs = t.bs.dropLast := rfl
  rw [eS, hv]
  refine ⟨⟨h.setTra (by rw [hrem]; exact hnd'.1) (fun x hx => (QM hk).2 (h.trt j c ss t hk ht x (by rw [hfl]; exact List.mem_append_left _ hx))) fun c' hc' xs hxs => h.trb j c' t hc' ht xs ((List.dropLast_sublist _).subset hxs), Kp.pages rfl rfl rfl rfl, rfl⟩, fun _ _ => Iff.rfl, fun x hx => ?_, hnd'.2.1, fun _ => ⟨j, rfl, hj⟩, fun i y => ?_⟩
  ·rw [iTn, V1 ht, hfl]; exact List.mem_append_right _ hx
  ·rw [GT (by rw [h.lt]; exact hj), hrem, iTn]
   by_cases hij : i = j
   ·subst hij; rw [V1 ht, hfl, List.mem_append]
    constructor
    ·rintro (⟨_, hx⟩ | ⟨hx, _⟩)
     ·exact ⟨.inl hx, fun hy => hnd'.2.2 y hx y hy.2 rfl⟩
     ·exact (hx rfl).elim
    ·rintro ⟨hx | hx, hy⟩
     ·exact .inl ⟨rfl, hx⟩
     ·exact (hy ⟨rfl, hx⟩).elim
   ·constructor
    ·rintro (⟨hx, _⟩ | ⟨_, hx⟩)
     ·exact (hij hx).elim
     ·exact ⟨hx, fun hy => hij hy.1⟩
    ·rintro ⟨hx, _⟩; exact .inr ⟨hij, hx⟩
 ·have eS : Y7 A k = A := by unfold Y7; rw [if_neg h0]
  have eV : Y8 A k = [] := by unfold Y8; rw [if_neg h0]
  rw [eS, eV]
  exact ⟨⟨h, Kp.refl A, rfl⟩, fun _ _ => Iff.rfl, by simp, List.nodup_nil, by simp, by simp⟩
theorem Whb (h : GA A) (k : Int) {xs : List Int} (hn : xs.Nodup) (hd : ∀ x ∈ xs, ¬ InT A k.toNat x) : Ob A (Qu A k xs) /\ (∀ j y, TkA (Qu A k xs) j y ↔ TkA A j y) ∧
 (KJ A k xs = true -> (∃ j : Nat, k = j /\ j < A.tb.length) /\ (∀ x ∈ xs, TkA A k.toNat x) /\ ∀ j y, InT (Qu A k xs) j y ↔ InT A j y ∨ (j = k.toNat /\ y ∈ xs)) /\ (KJ A k xs = false -> Qu A k xs = A) := by
 by_cases h0 : KJ A k xs = true
 ·have hE : VM A k xs = 0 := by
   unfold KJ at h0
   simp only [Bool.and_eq_true, decide_eq_true_eq] at h0
   exact h0.1
  have hck : A.ck k = true := by
   unfold VM at hE
   split at hE
   ·assumption
   ·cases hE
  obtain ⟨j, rfl, hj⟩ := Hf.1 hck
  obtain ⟨c, ss, t, hk, ht⟩ := h.cl hj
  have hE' := hE
  unfold VM at hE'
  rw [hck, if_pos rfl, iTn, hk.1, hk.2] at hE'
  simp only at hE'
  have hlen : xs.length = c.batch := by
   apply Classical.byContradiction; intro hx; rw [if_neg hx] at hE'; cases hE'
  rw [if_pos hlen] at hE'
  have htk : ∀ x ∈ xs, TkA A j x := by
   intro x hx
   split at hE'
   ·rename_i ha
    rw [List.all_eq_true] at ha
    rw [QM hk]
    simpa [Tk] using ha x hx
   ·cases hE'
  have eS : Qu A (j : Int) xs = { A with tra := A.tra.set j { t with bs := t.bs ++ [xs] } } := by unfold Qu; rw [if_pos h0, iTn, HP ht]
  have hfl : (t.bs ++ [xs]).flatten = t.bs.flatten ++ xs := by simp
  rw [eS]
  refine ⟨⟨h.setTra ?_ ?_ ?_, Kp.pages rfl rfl rfl rfl, rfl⟩, fun _ _ => Iff.rfl, fun _ => ⟨⟨j, rfl, hj⟩, by rw [iTn]; exact htk, fun i y => ?_⟩, fun hf => by rw [hf] at h0; cases h0⟩
  ·show (t.bs ++ [xs]).flatten.Nodup
   rw [hfl, List.nodup_append]
   exact ⟨h.trn j t ht, hn, fun a ha b hb e => hd b hb (by subst e; rw [iTn, V1 ht]; exact ha)⟩
  ·intro x hx
   have hx : x ∈ (t.bs ++ [xs]).flatten := hx
   rw [hfl, List.mem_append] at hx
   rcases hx with hx | hx
   ·exact (QM hk).2 (h.trt j c ss t hk ht x hx)
   ·exact htk x hx
  ·intro c' hc' ys hys
   have hys : ys ∈ t.bs ++ [xs] := hys
   rcases List.mem_append.1 hys with hys | hys
   ·exact h.trb j c' t hc' ht ys hys
   ·simp only [List.mem_singleton] at hys
    rw [hk.1] at hc'; cases hc'
    rw [hys]; exact hlen
  ·rw [GT (by rw [h.lt]; exact hj), iTn]
   show (i = j /\ y ∈ (t.bs ++ [xs]).flatten) ∨ _ ↔ _
   rw [hfl, List.mem_append]
   by_cases hij : i = j
   ·subst hij; rw [V1 ht]
    constructor
    ·rintro (⟨_, hx | hx⟩ | ⟨hx, _⟩)
     ·exact .inl hx
     ·exact .inr ⟨rfl, hx⟩
     ·exact (hx rfl).elim
    ·rintro (hx | ⟨_, hx⟩)
     ·exact .inl ⟨rfl, .inl hx⟩
     ·exact .inl ⟨rfl, .inr hx⟩
   ·constructor
    ·rintro (⟨hx, _⟩ | ⟨_, hx⟩)
     ·exact (hij hx).elim
     ·exact .inl hx
    ·rintro (hx | ⟨hx, _⟩)
     ·exact .inr ⟨hij, hx⟩
     ·exact (hij hx).elim
 ·have eS : Qu A k xs = A := by unfold Qu; rw [if_neg h0]
  rw [eS]
  exact ⟨⟨h, Kp.refl A, rfl⟩, fun _ _ => Iff.rfl, fun hx => (h0 hx).elim, fun _ => rfl⟩
end Go.Ar
namespace Go.Ar
open Go.Bu (XA Zg runS Xj HE allF QS Ku give take Qg Qb Bounded full can Yv Km Y4 ZU Zd Qj ZW Zo Kr Vw take_in)


variable {A : AR} {sp : Sp} {k : Nat} {c : Cls} {ss : List SpA}
structure Ow (A : AR) (sp : Sp) : Prop where
 l : sp.st.length = A.n
 own : ∀ p, A.f p ≠ 0 -> gf sp.st p ≠ 0
 cl : ∀ p, A.f p = 3 -> gf sp.st p = 1
 le : ∀ p, gf sp.st p <= 2
structure St (A B : AR) (sp sp' : Sp) : Prop where
 ga : GA B
 ow : Ow B sp'
 n : B.n = A.n
 tb : B.tb = A.tb
 room : B.room = A.room
 same : ∀ p, A.f p = 0 -> B.f p = 0 -> gf sp'.st p = gf sp.st p
 gone : ∀ p, A.f p ≠ 0 -> B.f p = 0 -> gf sp'.st p = 0
 new : ∀ p, A.f p = 0 -> B.f p ≠ 0 -> gf sp.st p = 0 /\ 16 <= p
theorem St.refl (h : GA A) (hw : Ow A sp) : St A A sp sp := ⟨h, hw, rfl, rfl, rfl, fun _ _ _ => rfl, fun p h1 h2 => (h1 h2).elim, fun p h1 h2 => (h2 h1).elim⟩
theorem Ow.len {B C : AR} {sp sp' : Sp} (h : Ow B sp) (k : Ow C sp') (e : C.n = B.n) : sp'.st.length = sp.st.length := by rw [h.l, k.l, e]
theorem St.trans {B C : AR} {sp' sp'' : Sp} (h : St A B sp sp') (k : St B C sp' sp'') : St A C sp sp'' := by
 refine ⟨k.ga, k.ow, k.n.trans h.n, k.tb.trans h.tb, k.room.trans h.room, fun p hA hC => ?_, fun p hA hC => ?_, fun p hA hC => ?_⟩
 ·by_cases hB : B.f p = 0
  ·rw [k.same p hB hC, h.same p hA hB]
  ·rw [k.gone p hB hC, (h.new p hA hB).1]
 ·by_cases hB : B.f p = 0
  ·rw [k.same p hB hC, h.gone p hA hB]
  ·exact k.gone p hB hC
 ·by_cases hB : B.f p = 0
  ·have := k.new p hB hC
   rw [h.same p hA hB] at this; exact this
  ·exact h.new p hA hB
theorem Ow.kp {B : AR} (hw : Ow A sp) (h : Kp A B) : Ow B sp := ⟨hw.l.trans h.n.symm, fun p hp => hw.own p fun e => hp ((h.z p).2 e), fun p hp => hw.cl p (h.t p hp), hw.le⟩
theorem St.kp {B : AR} (hg : GA B) (hw : Ow A sp) (h : Kp A B) : St A B sp sp :=
 ⟨hg, hw.kp h, h.n, h.tb, h.room, fun _ _ _ => rfl, fun p h1 h2 => (h1 ((h.z p).1 h2)).elim, fun p h1 h2 => (h2 ((h.z p).2 h1)).elim⟩
theorem Ob.st {B : AR} (o : Ob A B) (hw : Ow A sp) : St A B sp sp := St.kp o.ga hw o.kp
theorem GA.grown (h : GA A) {B : AR} {sp' : Sp} {s size : Nat} (g : Grown A B sp sp' s size) : GA B := by
 have e : ∀ {j d tt}, Cl B j d tt ↔ Cl A j d tt := fun {j d tt} => by unfold Cl; rw [g.tb, g.cen]
 exact ⟨g.pg, by rw [g.tb]; exact h.tb, by rw [g.cen, g.tb]; exact h.lc, by rw [g.tra, g.tb]; exact h.lt, fun j d tt hj => h.cen j d tt (e.1 hj), fun j d tt hj => h.one j d tt (e.1 hj), fun j d tt hj p => by rw [g.ow]; exact h.ow j d tt (e.1 hj) p,
  fun p => by rw [g.ow, g.runs]; exact h.ow41 p, fun p => by rw [g.ow, g.tb]; exact h.owb p, by rw [g.runs]; exact h.rpos, by rw [g.runs]; exact h.rdis, by rw [g.tra]; exact h.trn, fun j d tt t hj ht => h.trt j d tt t (e.1 hj) (by rw [← g.tra]; exact ht), by rw [g.tb, g.tra]; exact h.trb⟩
theorem Grown.st (h : GA A) (hw : Ow A sp) {B : AR} {sp' : Sp} {s size : Nat} (g : Grown A B sp sp' s size) : St A B sp sp' := by
 have hin : ∀ p, B.f p ≠ A.f p -> s <= p /\ p < s + size := fun p hp => by
  apply Classical.byContradiction; intro hn; exact hp (g.o p hn).1
 refine ⟨h.grown g, ⟨g.l.trans (hw.l.trans g.n.symm), fun p hp => ?_, fun p hp => ?_, fun p => ?_⟩, g.n, g.tb, g.room, fun p h1 h2 => ?_, fun p h1 h2 => ?_, fun p h1 h2 => ?_⟩
 ·by_cases hi : s <= p /\ p < s + size
  ·rw [(g.i p hi.1 hi.2).2]; omega
  ·rw [(g.o p hi).2]; rw [(g.o p hi).1] at hp; exact hw.own p hp
 ·by_cases hi : s <= p /\ p < s + size
  ·rw [(g.i p hi.1 hi.2).2]
  ·rw [(g.o p hi).2]; rw [(g.o p hi).1] at hp; exact hw.cl p hp
 ·by_cases hi : s <= p /\ p < s + size
  ·rw [(g.i p hi.1 hi.2).2]; omega
  ·rw [(g.o p hi).2]; exact hw.le p
 ·refine (g.o p fun hi => ?_).2
  rw [(g.i p hi.1 hi.2).1] at h2; omega
 ·have := hin p (by omega)
  rw [(g.i p this.1 this.2).1] at h2; omega
 ·have := hin p (by omega)
  exact ⟨g.un p this.1 this.2, by have := g.s1; omega⟩
theorem Wa0 {n : Nat} {S : Nat -> Bool} (hb : Bounded S n) (hn : n <= 1024) {j q m a : Nat} (hf : full S j q = true) (hm : m <= 2 ^ j) (ha : a <= 2 ^ j) : Xj n S m a ≠ none := by
 intro h0
 have hp : S (q * 2 ^ j) = true := Yv.1 hf _ (Nat.mul_div_cancel _ (Nat.two_pow_pos j))
 obtain ⟨i, hi⟩ := Km hb hp
 have hij : j <= i := by
  apply Classical.byContradiction
  intro hlt
  exact ZU hi hf rfl (Nat.mul_div_cancel _ (Nat.two_pow_pos j)) (by omega)
 have hfb := Zd hb (Y4.1 hi).1
 have hi10 : i < 11 := by
  apply Classical.byContradiction
  intro hge
  have : 2 ^ 11 <= 2 ^ i := Nat.pow_le_pow_right (by omega) (by omega)
  omega
 have hpow : 2 ^ j <= 2 ^ i := Nat.pow_le_pow_right (by omega) hij
 have := Vw h0 i hi10 (by omega) (by omega)
 have hmem := (ZW hb (k := i)).2 ⟨_, rfl, hi⟩
 rw [this] at hmem
 simp at hmem
theorem Ho (m : Nat) : ZZ m = 16 ∨ ZZ m = 32 ∨ ZZ m = 64 := by
 unfold ZZ; split
 ·exact .inl rfl
 ·split
  ·exact .inr (.inl rfl)
  ·exact .inr (.inr rfl)
theorem WdX {m : Nat} (h : m <= 64) : m <= ZZ m := by
 unfold ZZ; split
 ·omega
 ·split <;> omega
theorem HZ (h : GA A) (hw : Ow A sp) {m a no : Nat} (h1 : 1 <= m) (h2 : m <= 64) (ha : 1 <= a /\ a <= 16) :
 (getA A sp m a no = (none, A, sp) /\ Xj A.n A.S m a = none /\ ZA sp (ZZ (max m a)) = none) ∨
 ∃ x A1 sp1, getA A sp m a no = (some x, useA A1 x m no, sp1) /\ Xj A1.n A1.S m a = some x /\ (A1 = A /\ sp1 = sp ∨ Xj A.n A.S m a = none /\ ∃ s, ZA sp (ZZ (max m a)) = some s /\ Grown A A1 sp sp1 s (ZZ (max m a))) := by
 cases ht : Xj A.n A.S m a with
 | some x => exact .inr ⟨x, A, sp, by unfold getA; rw [ht], ht, .inl ⟨rfl, rfl⟩⟩
 | none =>
  cases hg : Kg A sp (ZZ (max m a)) with
  | none =>
   refine .inl ⟨by unfold getA; rw [ht, hg], rfl, ?_⟩
   unfold Kg at hg
   split at hg
   ·assumption
   ·cases hg
  | some r =>
   obtain ⟨A1, sp1⟩ := r
   obtain ⟨s, hs, g⟩ := WfM h.pg hw.l (fun p hp => Classical.byContradiction fun hn => hw.own p hn hp) (Ho _) hg
   have hne : Xj A1.n A1.S m a ≠ none := by
    have hle := WdX (m := max m a) (by omega)
    obtain ⟨_, _, ⟨i, hi⟩, _⟩ := Vn (by have := Ho (max m a); omega) hs
    have key : ∃ j, ZZ (max m a) = 2 ^ j := by
     rcases Ho (max m a) with e | e | e
     ·exact ⟨4, e⟩
     ·exact ⟨5, e⟩
     ·exact ⟨6, e⟩
    obtain ⟨j, hj⟩ := key
    refine Wa0 g.pg.bnd g.pg.n2 (j := j) (q := i) (Yv.2 fun p hp => ?_) (by omega) (by omega)
    rw [g.pg.fr]
    rw [Zo, ← hj, ← hi] at hp
    rw [(g.i p hp.1 hp.2).1]; omega
   obtain ⟨x, hx⟩ := Option.ne_none_iff_exists'.1 hne
   exact .inr ⟨x, A1, sp1, by unfold getA; rw [ht, hg]; simp only; rw [hx], hx, .inr ⟨rfl, s, hs, g⟩⟩
theorem WaY (h : PG A) {m a x : Nat} (hx : Xj A.n A.S m a = some x) : ∀ p, x <= p -> p < x + m -> A.S p = true := fun p p1 p2 => (take_in h.bnd hx).2 p p1 p2
theorem Wfp (h : PG A) {m a x : Nat} (h1 : 1 <= m) (h4 : m <= 4) (hx : Xj A.n A.S m a = some x) : x / 16 = (x + m - 1) / 16 := by
 obtain ⟨j, _, hm, _, hh, _⟩ := Kr hx
 obtain ⟨q, rfl, hc⟩ := (ZW h.bnd).1 (List.mem_of_head? hh)
 match j, hm with
 | 0, hm => have : m = 1 := by omega
            subst this; rfl
 | 1, hm => have : m <= 2 := by omega
            simp only [Nat.pow_one] at *
            omega
 | j + 2, hm =>
  have e : 2 ^ (j + 2) = 4 * 2 ^ j := by rw [Nat.pow_add]; omega
  rw [e, ← Nat.mul_assoc, Nat.mul_comm q 4, Nat.mul_assoc]
  generalize q * 2 ^ j = z
  omega
theorem Wfg (h : PG A) {a m no : Nat} (h1 : 1 <= m) (hn : no ≠ 0) (hS : ∀ p, a <= p -> p < a + m -> A.S p = true) : Kp A (useA A a m no) := by
 obtain ⟨o, hi, hpg, hz⟩ := Wbw h h1 hn hS
 refine ⟨rfl, rfl, rfl, hz, fun p hp => ?_⟩
 by_cases hin : a <= p /\ p < a + m
 ·rw [(hi p hin.1 hin.2).1] at hp; omega
 ·rw [o.f p hin] at hp; exact hp
theorem GA.addSpan (h : GA A) (hk : Cl A k c ss) {x : Nat} (hS : ∀ p, x <= p -> p < x + c.pages -> A.S p = true) (h1 : x / 16 = (x + c.pages - 1) / 16) :
 GA { useA A x c.pages (k + 1) with cen := (useA A x c.pages (k + 1)).cen.set k (addS c ss x) } /\ (∀ s ∈ ss, s.st + c.pages <= x ∨ x + c.pages <= s.st) := by
 have hC := h.cen k c ss hk
 have hpg := hC.pg
 have hkl := hk.lt
 have htb := h.tb
 obtain ⟨o, hi, pg, hz⟩ := Wbw h.pg hpg (no := k + 1) (by omega) hS
 have hA : ∀ p, x <= p -> p < x + c.pages -> A.ow p = 0 := fun p p1 p2 => by
  have h2 := (h.pg.fr p).1 (hS p p1 p2)
  apply Classical.byContradiction; intro hne
  have := (h.pg.us p).2 hne; omega
 have hd : ∀ s ∈ ss, s.st + c.pages <= x ∨ x + c.pages <= s.st := fun s hs => by
  apply Classical.byContradiction
  intro hn
  have h2 := hA (max x s.st) (by omega) (by omega)
  have := (h.used hk hs (p := max x s.st) (by omega) (by omega)).2
  omega
 refine ⟨?_, hd⟩
 have hk' : Cl (useA A x c.pages (k + 1)) k c ss := hk
 refine ⟨pg.same rfl rfl rfl rfl, h.tb, by show (A.cen.set k _).length = _; simp [h.lc]; rfl, h.lt, fun j d tt hj => ?_, fun j d tt hj s hs => ?_, fun j d tt hj p => ?_, fun p => ?_, fun p => ?_, h.rpos, h.rdis, h.trn, fun j d tt t hj ht => ?_, h.trb⟩
 ·rcases KO hk' hj with ⟨rfl, rfl, rfl⟩ | ⟨hne, hj⟩
  ·exact Wew hC hd
  ·exact h.cen j d tt hj
 ·rcases KO hk' hj with ⟨rfl, rfl, rfl⟩ | ⟨hne, hj⟩
  ·rcases KE.1 hs with rfl | hs
   ·exact h1
   ·exact h.one _ _ _ hk s hs
  ·exact h.one j d tt hj s hs
 ·show (useA A x c.pages (k + 1)).ow p = j + 1 ↔ _
  by_cases hp : x <= p /\ p < x + c.pages
  ·rw [(hi p hp.1 hp.2).2]
   rcases KO hk' hj with ⟨rfl, rfl, rfl⟩ | ⟨hne, hj⟩
   ·exact ⟨fun _ => ⟨_, KE.2 (.inl rfl), hp.1, hp.2⟩, fun _ => rfl⟩
   ·rw [← h.ow j d tt hj p, hA p hp.1 hp.2]; omega
  ·rw [o.ow p hp]
   rcases KO hk' hj with ⟨rfl, rfl, rfl⟩ | ⟨hne, hj⟩
   ·rw [h.ow _ _ _ hk p]
    constructor
    ·rintro ⟨s, hs, h3⟩; exact ⟨s, KE.2 (.inr hs), h3⟩
    ·rintro ⟨s, hs, h3⟩
     rcases KE.1 hs with rfl | hs
     ·exact (hp h3).elim
     ·exact ⟨s, hs, h3⟩
   ·exact h.ow j d tt hj p
 ·show (useA A x c.pages (k + 1)).ow p = 41 ↔ inR A.runs p
  by_cases hp : x <= p /\ p < x + c.pages
  ·rw [(hi p hp.1 hp.2).2, ← h.ow41, hA p hp.1 hp.2]; omega
  ·rw [o.ow p hp]; exact h.ow41 p
 ·show (useA A x c.pages (k + 1)).ow p = 41 ∨ (useA A x c.pages (k + 1)).ow p <= A.tb.length
  by_cases hp : x <= p /\ p < x + c.pages
  ·rw [(hi p hp.1 hp.2).2]; omega
  ·rw [o.ow p hp]; exact h.owb p
 ·rcases KO hk' hj with ⟨rfl, rfl, rfl⟩ | ⟨hne, hj⟩
  ·intro y hy; exact (Wee hC hd).2 (h.trt _ _ _ t hk ht y hy)
  ·exact h.trt j d tt t hj ht
theorem GA.addRun (h : GA A) {x m : Nat} (hm : 1 <= m) (hS : ∀ p, x <= p -> p < x + m -> A.S p = true) : GA { useA A x m 41 with runs := A.runs ++ [(x, m)] } := by
 have htb := h.tb
 obtain ⟨o, hi, pg, hz⟩ := Wbw h.pg hm (no := 41) (by omega) hS
 have hA : ∀ p, x <= p -> p < x + m -> A.ow p = 0 := fun p p1 p2 => by
  have h2 := (h.pg.fr p).1 (hS p p1 p2)
  apply Classical.byContradiction; intro hne
  have := (h.pg.us p).2 hne; omega
 refine ⟨pg.same rfl rfl rfl rfl, h.tb, h.lc, h.lt, h.cen, h.one, fun j d tt hj p => ?_, fun p => ?_, fun p => ?_, fun r hr => ?_, ?_, h.trn, h.trt, h.trb⟩
 ·have hj : Cl A j d tt := hj
  have := hj.lt
  show (useA A x m 41).ow p = j + 1 ↔ _
  by_cases hp : x <= p /\ p < x + m
  ·rw [(hi p hp.1 hp.2).2, ← h.ow j d tt hj p, hA p hp.1 hp.2]; omega
  ·rw [o.ow p hp]; exact h.ow j d tt hj p
 ·show (useA A x m 41).ow p = 41 ↔ inR (A.runs ++ [(x, m)]) p
  by_cases hp : x <= p /\ p < x + m
  ·rw [(hi p hp.1 hp.2).2]
   exact ⟨fun _ => ⟨(x, m), by simp, hp⟩, fun _ => rfl⟩
  ·rw [o.ow p hp, h.ow41]
   constructor
   ·rintro ⟨r, hr, h3⟩; exact ⟨r, by simp [hr], h3⟩
   ·rintro ⟨r, hr, h3⟩
    rcases List.mem_append.1 hr with hr | hr
    ·exact ⟨r, hr, h3⟩
    ·simp only [List.mem_singleton] at hr; subst hr; exact (hp h3).elim
 ·show (useA A x m 41).ow p = 41 ∨ (useA A x m 41).ow p <= A.tb.length
  by_cases hp : x <= p /\ p < x + m
  ·rw [(hi p hp.1 hp.2).2]; omega
  ·rw [o.ow p hp]; exact h.owb p
 ·rcases List.mem_append.1 hr with hr | hr
  ·exact h.rpos r hr
  ·simp only [List.mem_singleton] at hr; subst hr; exact hm
 ·refine List.pairwise_append.2 ⟨h.rdis, by simp, fun r hr s hs => ?_⟩
  simp only [List.mem_singleton] at hs; subst hs
  apply Classical.byContradiction
  intro hn
  simp only at hn
  have := h.rpos r hr
  have h2 := hA (max x r.1) (by omega) (by omega)
  have := (h.usedR hr (p := max x r.1) (by omega) (by omega)).2
  omega
theorem Wdy {l : List (Nat × Nat)} {x m : Nat} (h : ∀ r ∈ l, r.1 ≠ x) : Yt.mset2 l x m = l ++ [(x, m)] := by
 unfold Yt.mset2
 rw [if_neg]
 simp only [List.any_eq_true, beq_iff_eq, not_exists, not_and]
 exact h
theorem WbL (h : GA A) (hw : Ow A sp) (k : Int) :
 ((ZX A sp k = (A, sp)) /\ KT A sp k ≠ 0) ∨
 ∃ (j : Nat) (c : Cls) (ss : List SpA) (x : Nat) (A1 : AR) (sp1 : Sp), k = j /\ Cl A j c ss /\ Cl A1 j c ss /\ KT A sp k = 0 /\ ZX A sp k = ({ useA A1 x c.pages (j + 1) with cen := (useA A1 x c.pages (j + 1)).cen.set j (addS c ss x) }, sp1) ∧
  St A A1 sp sp1 /\ A1.runs = A.runs /\ A1.tra = A.tra /\ A1.cen = A.cen /\ Xj A1.n A1.S c.pages 1 = some x /\ (∀ s ∈ ss, s.st + c.pages <= x ∨ x + c.pages <= s.st) /\ St A (ZX A sp k).1 sp (ZX A sp k).2 := by
 by_cases hck : A.ck k = true
 ·obtain ⟨j, rfl, hj⟩ := Hf.1 hck
  obtain ⟨c, ss, t, hk, ht⟩ := h.cl hj
  have hC := h.cen j c ss hk
  have hok := hC.ok
  unfold Cls.ok at hok
  have hkl := hk.lt
  rcases HZ h hw (m := c.pages) (a := 1) (no := j + 1) (by omega) (by omega) (by omega) with ⟨hg, _⟩ | ⟨x, A1, sp1, hg, htk, hor⟩
  ·left
   have eE : KT A sp (j : Int) = 6 := by unfold KT; rw [hck, if_pos rfl, iTn, hk.1, hk.2]; simp only; rw [hg]
   have eS : ZX A sp (j : Int) = (A, sp) := by unfold ZX; rw [hck, if_pos rfl, iTn, hk.1, hk.2]; simp only; rw [hg]
   rw [eS, eE]
   exact ⟨rfl, by simp⟩
  ·right
   have eE : KT A sp (j : Int) = Uw c ss x := by unfold KT; rw [hck, if_pos rfl, iTn, hk.1, hk.2]; simp only; rw [hg]
   have g1 : GA A1 := by
    rcases hor with ⟨rfl, rfl⟩ | ⟨_, s, _, g⟩
    ·exact h
    ·exact h.grown g
   have hst : St A A1 sp sp1 := by
    rcases hor with ⟨rfl, rfl⟩ | ⟨_, s, _, g⟩
    ·exact St.refl h hw
    ·exact g.st h hw
   have hfr : A1.runs = A.runs /\ A1.tra = A.tra /\ A1.cen = A.cen := by
    rcases hor with ⟨rfl, rfl⟩ | ⟨_, s, _, g⟩
    ·exact ⟨rfl, rfl, rfl⟩
    ·exact ⟨g.runs, g.tra, g.cen⟩
   have hk1 : Cl A1 j c ss := ⟨by rw [hst.tb]; exact hk.1, by rw [hfr.2.2]; exact hk.2⟩
   have hS := WaY g1.pg htk
   obtain ⟨g2, hd⟩ := g1.addSpan hk1 hS (Wfp g1.pg (by omega) (by omega) htk)
   have e0 := WfV hd
   have eS' : ZX A sp (j : Int) = ({ useA A1 x c.pages (j + 1) with cen := (useA A1 x c.pages (j + 1)).cen.set j (addS c ss x) }, sp1) := by
    unfold ZX; rw [hck, if_pos rfl, iTn, hk.1, hk.2]; simp only; rw [hg]; simp only; rw [if_pos e0]
   refine ⟨j, c, ss, x, A1, sp1, rfl, hk, hk1, by rw [eE]; exact e0, eS', hst, hfr.1, hfr.2.1, hfr.2.2, htk, hd, ?_⟩
   rw [eS']
   have kp := Wfg g1.pg (no := j + 1) (by omega) (by omega) hS
   exact hst.trans (St.kp g2 hst.ow (kp.trans (Kp.pages rfl rfl rfl rfl)))
 ·left
  have hck' : A.ck k = false := by simpa using hck
  unfold ZX KT
  rw [hck']
  exact ⟨rfl, by simp⟩
theorem Gn (h : GA A) (hw : Ow A sp) (k : Int) : St A (ZX A sp k).1 sp (ZX A sp k).2 /\ (ZX A sp k).1.runs = A.runs /\ (ZX A sp k).1.tra = A.tra /\ (∀ j y, TkA (ZX A sp k).1 j y ↔ TkA A j y) /\ (KT A sp k ≠ 0 -> ZX A sp k = (A, sp)) := by
 rcases WbL h hw k with ⟨e, _⟩ | ⟨j, c, ss, x, A1, sp1, rfl, hk, hk1, hE, e, hst, r1, r2, r3, _, hd, hS⟩
 ·rw [e]; exact ⟨St.refl h hw, rfl, rfl, fun _ _ => Iff.rfl, fun _ => rfl⟩
 ·refine ⟨hS, by rw [e]; exact r1, by rw [e]; exact r2, fun i y => ?_, fun hn => (hn hE).elim⟩
  rw [e]
  have hk2 : Cl (useA A1 x c.pages (j + 1)) j c ss := hk1
  rw [GF hk2, Wee (h.cen j c ss hk) hd]
  have e2 : TkA (useA A1 x c.pages (j + 1)) i y ↔ TkA A i y := by
   have : (useA A1 x c.pages (j + 1)).tb = A.tb /\ (useA A1 x c.pages (j + 1)).cen = A.cen := ⟨hst.tb, r3⟩
   unfold TkA Cl; rw [this.1, this.2]
  rw [e2]
  by_cases hij : i = j
  ·subst hij; rw [QM hk]
   exact ⟨fun hx => by rcases hx with ⟨_, hx⟩ | ⟨hx, _⟩; exact hx; exact (hx rfl).elim, fun hx => .inl ⟨rfl, hx⟩⟩
  ·exact ⟨fun hx => by rcases hx with ⟨hx, _⟩ | ⟨_, hx⟩; exact (hij hx).elim; exact hx, fun hx => .inr ⟨hij, hx⟩⟩
theorem UY {m a : Int} (h : Qo m a = true) : ∃ x y : Nat, m = x /\ a = y /\ 1 <= x /\ x <= 64 /\ (y = 1 ∨ y = 2 ∨ y = 4 ∨ y = 8 ∨ y = 16) := by
 unfold Qo at h
 simp only [Bool.and_eq_true, decide_eq_true_eq, Bool.or_eq_true, beq_iff_eq] at h
 exact ⟨m.toNat, a.toNat, by omega, by omega, by omega, by omega, by omega⟩
theorem Q1 (h : GA A) (hw : Ow A sp) (m a : Int) :
 (Yt A sp m a = (A, sp) /\ ZT A sp m a ≠ 0 /\ (Qo m a = true -> ZT A sp m a = 6 /\ Xj A.n A.S m.toNat a.toNat = none /\ ZA sp (ZZ (max m.toNat a.toNat)) = none)) ∨
 ∃ (x : Nat) (A1 : AR) (sp1 : Sp), Qo m a = true /\ ZT A sp m a = 0 /\ QF A sp m a = x /\ Yt A sp m a = ({ useA A1 x m.toNat 41 with runs := A.runs ++ [(x, m.toNat)] }, sp1) ∧
  Xj A1.n A1.S m.toNat a.toNat = some x /\ (A1 = A /\ sp1 = sp ∨ Xj A.n A.S m.toNat a.toNat = none /\ ∃ s, ZA sp (ZZ (max m.toNat a.toNat)) = some s /\ Grown A A1 sp sp1 s (ZZ (max m.toNat a.toNat))) ∧
  St A (Yt A sp m a).1 sp (Yt A sp m a).2 /\ (Yt A sp m a).1.tra = A.tra /\ (∀ j y, TkA (Yt A sp m a).1 j y ↔ TkA A j y) := by
 by_cases hp : Qo m a = true
 ·obtain ⟨m', a', rfl, rfl, h1, h2, h3⟩ := UY hp
  have eE : ZT A sp (m' : Int) (a' : Int) = if (getA A sp m' a' 41).1.isSome then 0 else 6 := by unfold ZT; rw [if_pos hp, iTn, iTn]
  have eV : QF A sp (m' : Int) (a' : Int) = (getA A sp m' a' 41).1.getD 0 := by unfold QF; rw [if_pos hp, iTn, iTn]
  rcases HZ h hw (m := m') (a := a') (no := 41) h1 h2 (by omega) with ⟨hg, hn1, hn2⟩ | ⟨x, A1, sp1, hg, htk, hor⟩
  ·left
   have eS : Yt A sp (m' : Int) (a' : Int) = (A, sp) := by unfold Yt; rw [if_pos hp, iTn, iTn, hg]
   rw [eS, eE, hg, iTn, iTn]
   exact ⟨rfl, by simp, fun _ => ⟨rfl, hn1, hn2⟩⟩
  ·right
   have g1 : GA A1 := by
    rcases hor with ⟨rfl, rfl⟩ | ⟨_, s, _, g⟩
    ·exact h
    ·exact h.grown g
   have hst : St A A1 sp sp1 := by
    rcases hor with ⟨rfl, rfl⟩ | ⟨_, s, _, g⟩
    ·exact St.refl h hw
    ·exact g.st h hw
   have hfr : A1.runs = A.runs /\ A1.tra = A.tra /\ A1.cen = A.cen := by
    rcases hor with ⟨rfl, rfl⟩ | ⟨_, s, _, g⟩
    ·exact ⟨rfl, rfl, rfl⟩
    ·exact ⟨g.runs, g.tra, g.cen⟩
   have hS := WaY g1.pg htk
   have hnew : ∀ r ∈ A.runs, r.1 ≠ x := fun r hr e => by
    have hr1 : r ∈ A1.runs := by rw [hfr.1]; exact hr
    have := g1.rpos r hr1
    have h5 := (g1.usedR hr1 (p := x) (by omega) (by omega)).1
    have h6 := (g1.pg.fr x).1 (hS x (by omega) (by omega))
    omega
   have eS' : Yt A sp (m' : Int) (a' : Int) = ({ useA A1 x m' 41 with runs := A.runs ++ [(x, m')] }, sp1) := by
    unfold Yt
    rw [if_pos hp, iTn, iTn, hg]
    show ({ useA A1 x m' 41 with runs := Yt.mset2 A1.runs x m' }, sp1) = _
    rw [hfr.1, Wdy hnew]
   have g2 := g1.addRun (by omega) hS
   rw [hfr.1] at g2
   have kp := Wfg g1.pg (no := 41) (by omega) (by omega) hS
   refine ⟨x, A1, sp1, hp, by rw [eE, hg]; rfl, by rw [eV, hg]; rfl, by rw [iTn]; exact eS', by rw [iTn, iTn]; exact htk, by rw [iTn, iTn]; exact hor, ?_, by rw [eS']; exact hfr.2.1, fun j y => ?_⟩
   ·rw [eS']
    exact hst.trans (St.kp g2 hst.ow (kp.trans (Kp.pages rfl rfl rfl rfl)))
   ·rw [eS']
    have e1 : ({ useA A1 x m' 41 with runs := A.runs ++ [(x, m')] } : AR).tb = A.tb := hst.tb
    have e2 : ({ useA A1 x m' 41 with runs := A.runs ++ [(x, m')] } : AR).cen = A.cen := hfr.2.2
    unfold TkA Cl; rw [e1, e2]
 ·left
  have hp' : Qo m a = false := by simpa using hp
  unfold Yt ZT
  rw [hp']
  exact ⟨rfl, by simp, fun hx => by cases hx⟩
theorem WcM {x : Int} {r : Nat × Nat} (h : KB A x = some r) : r ∈ A.runs /\ x = (r.1 : Int) := by
 unfold KB at h
 exact ⟨List.mem_of_find?_eq_some h, by have := List.find?_some h; simpa using Eq.symm (by simpa using this)⟩
theorem Wam (h : GA A) (x : Int) : (Kp A (ZO A x) /\ GA (ZO A x)) /\ (ZO A x).tra = A.tra /\ (∀ j y, TkA (ZO A x) j y ↔ TkA A j y) /\ (ZS A x ≠ 0 -> ZO A x = A) ∧
 (ZS A x = 0 -> ∃ r ∈ A.runs, x = (r.1 : Int) /\ (ZO A x).runs = A.runs.filter fun q => !(q == r)) := by
 cases hr : KB A x with
 | none =>
  have e : ZO A x = A := by unfold ZO; rw [hr]
  have eE : ZS A x = 8 := by unfold ZS; rw [hr]; rfl
  rw [e, eE]
  exact ⟨⟨Kp.refl A, h⟩, rfl, fun _ _ => Iff.rfl, fun _ => rfl, fun hx => by cases hx⟩
 | some r =>
  obtain ⟨hrm, hx⟩ := WcM hr
  have hpos := h.rpos r hrm
  have hfil : A.runs.filter (fun q => !((q.1 : Int) == x)) = A.runs.filter fun q => !(q == r) := by
   apply List.filter_congr
   intro q hq
   have : ((q.1 : Int) == x) = (q == r) := by
    rw [Bool.eq_iff_iff]
    simp only [beq_iff_eq]
    constructor
    ·intro e
     have hq1 := h.rpos q hq
     exact h.runs_uniq hq hrm (x := q.1) (by omega) (by omega) (by omega) (by omega)
    ·rintro rfl; exact hx.symm
   rw [this]
  have e : ZO A x = Q3 { A with runs := A.runs.filter fun q => !(q == r) } r := by unfold ZO; rw [hr]; simp only; rw [hfil]
  have eE : ZS A x = 0 := by unfold ZS; rw [hr]; rfl
  obtain ⟨a, m⟩ := r
  obtain ⟨o, hi, pg, hz⟩ := WbS (A := { A with runs := A.runs.filter fun q => !(q == (a, m)) }) (h.pg.same rfl rfl rfl rfl) hpos (fun p p1 p2 => (h.usedR hrm p1 p2).1)
  have own : ∀ p, a <= p -> p < a + m -> A.ow p = 41 := fun p p1 p2 => (h.usedR hrm p1 p2).2
  have htb := h.tb
  rw [e, eE]
  refine ⟨⟨⟨rfl, rfl, rfl, hz, fun p hp => ?_⟩, ?_⟩, rfl, fun _ _ => Iff.rfl, fun hx => (hx rfl).elim, fun _ => ⟨_, hrm, hx, rfl⟩⟩
  ·by_cases hin : a <= p /\ p < a + m
   ·rw [(hi p hin.1 hin.2).1] at hp; omega
   ·rw [o.f p hin] at hp; exact hp
  ·refine ⟨pg, h.tb, h.lc, h.lt, h.cen, h.one, fun j d tt hj p => ?_, fun p => ?_, fun p => ?_, fun q hq => h.rpos q (List.mem_filter.1 hq).1, h.rdis.filter _, h.trn, h.trt, h.trb⟩
   ·have hj : Cl A j d tt := hj
    have := hj.lt
    by_cases hin : a <= p /\ p < a + m
    ·rw [(hi p hin.1 hin.2).2, ← h.ow j d tt hj p, own p hin.1 hin.2]; omega
    ·rw [o.ow p hin]; exact h.ow j d tt hj p
   ·show _ ↔ inR (A.runs.filter fun q => !(q == (a, m))) p
    by_cases hin : a <= p /\ p < a + m
    ·rw [(hi p hin.1 hin.2).2]
     constructor
     ·intro hx; omega
     ·rintro ⟨q, hq, q1, q2⟩
      have hq' := List.mem_filter.1 hq
      have := h.runs_uniq hq'.1 hrm q1 q2 hin.1 hin.2
      subst this
      simp at hq'
    ·rw [o.ow p hin]
     show A.ow p = 41 ↔ _
     rw [h.ow41]
     constructor
     ·rintro ⟨q, hq, q1⟩
      refine ⟨q, List.mem_filter.2 ⟨hq, ?_⟩, q1⟩
      have : q ≠ (a, m) := by rintro rfl; exact hin q1
      simpa using this
     ·rintro ⟨q, hq, q1⟩; exact ⟨q, (List.mem_filter.1 hq).1, q1⟩
   ·by_cases hin : a <= p /\ p < a + m
    ·rw [(hi p hin.1 hin.2).2]; omega
    ·rw [o.ow p hin]; exact h.owb p
theorem WdQ (hk : Cl A k c ss) : ZD A k = swp A k c ss := by unfold ZD swp; rw [hk.1, hk.2]
theorem WaE (h : GA A) : ∀ m, m <= A.tb.length -> Ob A ((List.range m).foldl ZD A) /\ ((List.range m).foldl ZD A).tra = A.tra /\ ∀ j y, TkA ((List.range m).foldl ZD A) j y ↔ TkA A j y
 | 0, _ => ⟨⟨h, Kp.refl A, rfl⟩, rfl, fun _ _ => Iff.rfl⟩
 | m + 1, hm => by
  obtain ⟨o, e, t⟩ := WaE h m (by omega)
  rw [List.range_succ, List.foldl_append, List.foldl_cons, List.foldl_nil]
  generalize (List.range m).foldl ZD A = B at o e t
  obtain ⟨c, ss, _, hk, _⟩ := o.ga.cl (k := m) (by rw [o.kp.tb]; omega)
  rw [WdQ hk]
  have b := o.ga.swpB hk
  exact ⟨⟨o.ga.swp hk, o.kp.trans (o.ga.swpK hk), b.runs.trans o.runs⟩, b.tra.trans e, fun j y => (o.ga.swpT hk).trans (t j y)⟩
theorem Hh (h : GA A) : Ob A (Zi A) /\ (Zi A).tra = A.tra /\ ∀ j y, TkA (Zi A) j y ↔ TkA A j y := WaE h _ (Nat.le_refl _)
theorem Wbk (k : Nat) : ∀ (outs : List (List Int)) {A : AR}, GA A -> outs.flatten.Nodup -> (∀ x ∈ outs.flatten, TkA A k x /\ ¬ InT A k x) →
 Ob A (outs.foldl (fun A' xs => Yu A' (k : Int) xs) A) /\ (outs.foldl (fun A' xs => Yu A' (k : Int) xs) A).tra = A.tra /\ ∀ j y, TkA (outs.foldl (fun A' xs => Yu A' (k : Int) xs) A) j y ↔ TkA A j y /\ ¬ (j = k /\ y ∈ outs.flatten)
 | [], A, h, _, _ => ⟨⟨h, Kp.refl A, rfl⟩, rfl, by simp⟩
 | xs :: outs, A, h, hn, ht => by
  rw [List.flatten_cons] at hn ht
  have hn' := List.nodup_append.1 hn
  have htx : ∀ x ∈ xs, TkA A k x /\ ¬ InT A k x := fun x hx => ht x (List.mem_append_left _ hx)
  rw [List.foldl_cons]
  cases xs with
  | nil =>
   have hE : Yu A (k : Int) [] = A ∨ Zr A (k : Int) [] = 0 := by
    by_cases h0 : Zr A (k : Int) [] = 0
    ·exact .inr h0
    ·exact .inl (by unfold Yu; rw [if_neg h0])
   obtain ⟨o, e, t, _⟩ := UF h (k := (k : Int)) (xs := []) (fun _ => by simp)
   have t' : ∀ j y, TkA (Yu A (k : Int) []) j y ↔ TkA A j y := fun j y => by
    rcases hE with hE | hE
    ·rw [hE]
    ·rw [t hE]; simp
   have hin : ∀ j y, InT (Yu A (k : Int) []) j y ↔ InT A j y := fun j y => by unfold InT; rw [e]
   obtain ⟨o2, e2, t2⟩ := Wbk k outs o.ga hn'.2.1 fun x hx => by rw [t', hin]; exact ht x (List.mem_append_right _ hx)
   exact ⟨⟨o2.ga, o.kp.trans o2.kp, o2.runs.trans o.runs⟩, e2.trans e, fun j y => by rw [t2, t']; simp⟩
  | cons x0 xs =>
   obtain ⟨c, ss, hk, _⟩ := (htx x0 (by simp)).1
   have h0 : Zr A (k : Int) (x0 :: xs) = 0 := by
    rw [HQ h hk]
    exact WhM ⟨fun x hx => (QM hk).1 (htx x hx).1, hn'.1⟩
   obtain ⟨o, e, t, _⟩ := UF h (k := (k : Int)) (xs := x0 :: xs) (fun _ x hx => by rw [iTn]; exact (htx x hx).2)
   have t' := t h0
   have hin : ∀ j y, InT (Yu A (k : Int) (x0 :: xs)) j y ↔ InT A j y := fun j y => by unfold InT; rw [e]
   obtain ⟨o2, e2, t2⟩ := Wbk k outs o.ga hn'.2.1 fun x hx => by
    rw [t', hin]
    have := ht x (List.mem_append_right _ hx)
    exact ⟨⟨this.1, fun hy => hn'.2.2 x hy.2 x hx rfl⟩, this.2⟩
   refine ⟨⟨o2.ga, o.kp.trans o2.kp, o2.runs.trans o.runs⟩, e2.trans e, fun j y => ?_⟩
   rw [t2, t', iTn, List.flatten_cons, List.mem_append]
   constructor
   ·rintro ⟨⟨a, b⟩, d⟩
    refine ⟨a, fun ⟨hj, hy⟩ => ?_⟩
    rcases hy with hy | hy
    ·exact b ⟨hj, hy⟩
    ·exact d ⟨hj, hy⟩
   ·rintro ⟨a, b⟩
    exact ⟨⟨a, fun ⟨hj, hy⟩ => b ⟨hj, .inl hy⟩⟩, fun ⟨hj, hy⟩ => b ⟨hj, .inr hy⟩⟩
structure Tck (A B : AR) : Prop where
 ob : Ob A B
 sub : ∀ j y, InT B j y -> InT A j y
 tk : ∀ j y, TkA B j y ↔ TkA A j y /\ (InT A j y -> InT B j y)
theorem Tck.trans {B C : AR} (h : Tck A B) (k : Tck B C) : Tck A C :=
 ⟨⟨k.ob.ga, h.ob.kp.trans k.ob.kp, k.ob.runs.trans h.ob.runs⟩, fun j y hx => h.sub j y (k.sub j y hx), fun j y => by
  rw [k.tk, h.tk]
  exact ⟨fun ⟨⟨a, b⟩, d⟩ => ⟨a, fun e => d (b e)⟩, fun ⟨a, b⟩ => ⟨⟨a, fun e => k.sub j y (b e)⟩, fun e => b (h.sub j y e)⟩⟩⟩
theorem Wer (h : GA A) (hk : k < A.tb.length) : Tck A (Z8 A k) := by
 obtain ⟨c, ss, t, hc, ht⟩ := h.cl hk
 have hkl : k < A.tra.length := by rw [h.lt]; exact hk
 have e : Z8 A k = t.out.foldl (fun A' xs => Yu A' (k : Int) xs) { A with tra := A.tra.set k t.tick } := by unfold Z8; rw [ht]
 have hsp : t.bs = t.out ++ t.tick.bs := (List.take_append_drop ((t.low + 1) / 2) t.bs).symm
 have hfl : t.bs.flatten = t.out.flatten ++ t.tick.bs.flatten := by conv => lhs; rw [hsp]; rw [List.flatten_append]
 have hnd := h.trn k t ht
 rw [hfl] at hnd
 have hnd' := List.nodup_append.1 hnd
 have htk : ∀ x ∈ t.bs.flatten, TkA A k x := fun x hx => (QM hc).2 (h.trt k c ss t hc ht x hx)
 have g1 : GA { A with tra := A.tra.set k t.tick } := h.setTra hnd'.2.1 (fun x hx => htk x (by rw [hfl]; exact List.mem_append_right _ hx)) fun c' hc' xs hxs => h.trb k c' t hc' ht xs (t.tick_sub xs hxs)
 obtain ⟨o, e2, t2⟩ := Wbk k t.out g1 hnd'.1 fun x hx => by
  refine ⟨htk x (by rw [hfl]; exact List.mem_append_left _ hx), ?_⟩
  rw [GT hkl]
  rintro (⟨_, hy⟩ | ⟨hy, _⟩)
  ·exact hnd'.2.2 x hx x hy rfl
  ·exact hy rfl
 rw [← e] at o e2 t2
 have hin : ∀ j y, InT (Z8 A k) j y ↔ (j = k /\ y ∈ t.tick.bs.flatten) ∨ (j ≠ k /\ InT A j y) := fun j y => by
  rw [← GT hkl]; unfold InT; rw [e2]
 refine ⟨⟨o.ga, (Kp.pages rfl rfl rfl rfl : Kp A { A with tra := A.tra.set k t.tick }).trans o.kp, o.runs⟩, fun j y hx => ?_, fun j y => ?_⟩
 ·rcases (hin j y).1 hx with ⟨rfl, hy⟩ | ⟨_, hy⟩
  ·rw [V1 ht, hfl]; exact List.mem_append_right _ hy
  ·exact hy
 ·rw [t2, hin]
  show TkA A j y /\ _ ↔ _
  by_cases hjk : j = k
  ·subst hjk
   rw [V1 ht, hfl, List.mem_append]
   constructor
   ·rintro ⟨a, b⟩
    refine ⟨a, fun hx => ?_⟩
    rcases hx with hx | hx
    ·exact (b ⟨rfl, hx⟩).elim
    ·exact .inl ⟨rfl, hx⟩
   ·rintro ⟨a, b⟩
    refine ⟨a, fun ⟨_, hx⟩ => ?_⟩
    rcases b (.inl hx) with ⟨_, hy⟩ | ⟨hy, _⟩
    ·exact hnd'.2.2 y hx y hy rfl
    ·exact hy rfl
  ·exact ⟨fun ⟨a, _⟩ => ⟨a, fun hx => .inr ⟨hjk, hx⟩⟩, fun ⟨a, _⟩ => ⟨a, fun ⟨hx, _⟩ => hjk hx⟩⟩
theorem Wct (h : GA A) : ∀ m, m <= A.tb.length -> Tck A ((List.range m).foldl Z8 A)
 | 0, _ => ⟨⟨h, Kp.refl A, rfl⟩, fun _ _ => id, fun _ _ => ⟨fun a => ⟨a, id⟩, fun a => a.1⟩⟩
 | m + 1, hm => by
  have t := Wct h m (by omega)
  rw [List.range_succ, List.foldl_append, List.foldl_cons, List.foldl_nil]
  exact t.trans (Wer t.ob.ga (by rw [t.ob.kp.tb]; omega))
theorem GL (h : GA A) : Tck A (QB A) := Wct h _ (by rw [h.lt]; exact Nat.le_refl _)
end Go.Ar
namespace Go.Ar
open Go.Bu (XA Zg runS Xj HE allF QS Ku give take Qg Qb Bounded)


variable {A : AR} {sp : Sp} {k : Nat} {c : Cls} {ss : List SpA}
theorem Wfl {st : List Nat} {a m v : Nat} (hl : a + m <= st.length) : v ∈ (st.drop a).take m ↔ ∃ p, a <= p /\ p < a + m /\ gf st p = v := by
 constructor
 ·intro hm
  obtain ⟨i, hi⟩ := List.getElem?_of_mem hm
  rw [List.getElem?_take] at hi
  split at hi
  ·rename_i hlt
   rw [List.getElem?_drop] at hi
   refine ⟨a + i, by omega, by omega, ?_⟩
   unfold gf
   rw [List.getD_eq_getElem?_getD, hi]; rfl
  ·cases hi
 ·rintro ⟨p, h1, h2, h3⟩
  have hp : p < st.length := by omega
  unfold gf at h3
  rw [List.getD_eq_getElem?_getD, gGe hp] at h3
  refine List.mem_of_getElem? (i := p - a) ?_
  rw [List.getElem?_take, if_pos (by omega), List.getElem?_drop, show a + (p - a) = p by omega, gGe hp]
  exact congrArg some h3
theorem VB {st : List Nat} {a b v : Nat} (hab : a <= b) (hb : b <= st.length) : cntR st a b v = 0 ↔ ∀ p, a <= p -> p < b -> gf st p ≠ v := by
 unfold cntR
 rw [List.count_eq_zero, Wfl (by omega)]
 constructor
 ·intro h p h1 h2 h3; exact h ⟨p, h1, by omega, h3⟩
 ·rintro h ⟨p, h1, h2, h3⟩; exact h p h1 (by omega) h3
theorem WaK {s m v : Nat} (h1 : 1 <= m) (h2 : s + m <= sp.st.length) (h : ∀ p, s <= p -> p < s + m -> gf sp.st p ≠ 0) : Kk sp (s : Int) (m : Int) v = sp.set s m v := by
 unfold Kk VC
 rw [if_pos (Ke.2 ⟨h1, h2⟩), iTn, iTn, (Wdh h2).2 h]; rfl
theorem WgQ {s m v : Nat} (h2 : s + m <= sp.st.length) (p : Nat) : gf (sp.set s m v).st p = if s <= p /\ p < s + m then v else gf sp.st p := Hu h2
theorem WgN {s m v x : Nat} (h : ¬ (s <= x / 32 /\ x / 32 < s + m)) : (sp.set s m v).wd x = sp.wd x := by
 show (if s * 32 <= x /\ x < (s + m) * 32 then 0 else sp.wd x) = _
 rw [if_neg (by omega)]
structure Trm (A B : AR) (sp sp' : Sp) (l : List Nat) : Prop where
 st : St A B sp sp'
 f : ∀ p, B.f p = if p / 16 ∈ l then 0 else A.f p
 ow : B.ow = A.ow
 tra : B.tra = A.tra
 cen : B.cen = A.cen
 runs : B.runs = A.runs
 wd : ∀ x, x / 32 / 16 ∉ l -> sp'.wd x = sp.wd x
 gf : ∀ p, p / 16 ∉ l -> gf sp'.st p = gf sp.st p
 pk : sp'.pk = sp.pk
theorem Wf1 (h : GA A) (hw : Ow A sp) {g : Nat} (hg : 16 * g + 16 <= A.n) (hi : ∀ p, p / 16 = g -> 2 <= A.f p) : Trm A (KH (A, sp) g).1 sp (KH (A, sp) g).2 [g] := by
 have hin : ∀ p, 16 * g <= p /\ p < 16 * g + 16 ↔ p / 16 = g := fun p => by omega
 have e1 : (KH (A, sp) g).1.st = setR A.st (16 * g) (16 * g + 16) 0 := by
  show remT A.st (g : Int) = _
  have hid : Wda A.st g = true := by
   unfold Wda
   have h1 := hi (16 * g) (by omega)
   have h2 := (VB (st := A.st) (a := 16 * g) (b := 16 * g + 16) (v := 1) (by omega) (by rw [h.pg.len]; exact hg)).2 fun p p1 p2 e => by
    have := hi p (by omega); unfold AR.f at this; omega
   unfold AR.f gf at h1
   have hne : A.st.getD (16 * g) 0 ≠ 0 := by omega
   rw [h2, bne_iff_ne.2 hne]; rfl
  unfold remT remE
  rw [Vd (by rw [h.pg.len]; exact hg), if_pos rfl, iTn, hid]; rfl
 have e2 : (KH (A, sp) g).1.S = take A.S (g * 16) (g * 16 + 16) := Wg9 (n := A.n) (S := A.S) (a := g * 16) (m := 16) (by omega) (by omega) fun p p1 p2 => by rw [h.pg.fr]; exact hi p (by omega)
 have e3 : (KH (A, sp) g).2 = sp.set (g * 16) 16 0 := WaK (sp := sp) (s := g * 16) (m := 16) (v := 0) (by omega) (by rw [hw.l]; omega) fun p p1 p2 => hw.own p (by have := hi p (by omega); omega)
 have hl2 : g * 16 + 16 <= sp.st.length := by rw [hw.l]; omega
 have ef : ∀ p, (KH (A, sp) g).1.f p = if p / 16 = g then 0 else A.f p := fun p => by
  unfold AR.f; rw [e1, Hu (by rw [h.pg.len]; exact hg)]
  by_cases hp : p / 16 = g
  ·rw [if_pos hp, if_pos ((hin p).2 hp)]
  ·rw [if_neg hp, if_neg (fun hx => hp ((hin p).1 hx))]
 have eg : ∀ p, gf (KH (A, sp) g).2.st p = if p / 16 = g then 0 else gf sp.st p := fun p => by
  rw [e3, WgQ hl2]
  by_cases hp : p / 16 = g
  ·rw [if_pos hp, if_pos (by omega)]
  ·rw [if_neg hp, if_neg (by omega)]
 have pg : PG (KH (A, sp) g).1 := by
  refine ⟨by rw [e1, ZL]; exact h.pg.len, h.pg.n1, h.pg.n2, h.pg.n16, fun p => ?_, fun p => ?_, fun p => ?_, fun p => ?_⟩
  ·rw [ef]; have := h.pg.le p; split <;> omega
  ·rw [ef]
   show _ ↔ A.ow p ≠ 0
   have := h.pg.us p
   by_cases hp : p / 16 = g
   ·rw [if_pos hp]; have := hi p hp; constructor
    ·intro hx; omega
    ·intro hx; have := (h.pg.us p).2 hx; omega
   ·rw [if_neg hp]; exact this
  ·rw [ef, e2, Qb]
   have := h.pg.fr p
   by_cases hp : p / 16 = g
   ·rw [if_pos hp]; constructor
    ·rintro ⟨_, hx⟩; exact (hx (by omega)).elim
    ·intro hx; omega
   ·rw [if_neg hp]; constructor
    ·rintro ⟨hx, _⟩; exact this.1 hx
    ·intro hx; exact ⟨this.2 hx, by omega⟩
  ·rw [ef, ef]
   have e : p / 16 * 16 / 16 = p / 16 := by omega
   rw [e]
   split
   ·exact Iff.rfl
   ·exact h.pg.hp p
 have ga : GA (KH (A, sp) g).1 := ⟨pg, h.tb, h.lc, h.lt, h.cen, h.one, h.ow, h.ow41, h.owb, h.rpos, h.rdis, h.trn, h.trt, h.trb⟩
 refine ⟨⟨ga, ⟨by rw [e3]; show (setR _ _ _ _).length = A.n; rw [ZL]; exact hw.l, fun p hp => ?_, fun p hp => ?_, fun p => ?_⟩, rfl, rfl, rfl, fun p h1 h2 => ?_, fun p h1 h2 => ?_, fun p h1 h2 => ?_⟩, fun p => ?_, rfl, rfl, rfl, rfl, fun x hx => ?_, fun p hp => ?_, ?_⟩
 ·rw [ef] at hp; rw [eg]
  split at hp
  ·exact (hp rfl).elim
  ·rename_i hn; rw [if_neg hn]; exact hw.own p hp
 ·rw [ef] at hp; rw [eg]
  split at hp
  ·cases hp
  ·rename_i hn; rw [if_neg hn]; exact hw.cl p hp
 ·rw [eg]; have := hw.le p; split <;> omega
 ·rw [eg]
  by_cases hp : p / 16 = g
  ·have := hi p hp; omega
  ·rw [if_neg hp]
 ·rw [ef] at h2; rw [eg]
  split at h2
  ·rename_i hp; rw [if_pos hp]
  ·exact (h1 h2).elim
 ·rw [ef] at h2
  split at h2
  ·exact (h2 rfl).elim
  ·exact (h2 h1).elim
 ·rw [ef]; simp
 ·rw [e3]; exact WgN fun hx2 => hx (by simp; omega)
 ·rw [eg, if_neg (by simpa using hp)]
 ·rw [e3]; rfl
theorem Wcd : ∀ (l : List Nat) {A : AR} {sp : Sp}, GA A -> Ow A sp -> l.Nodup -> (∀ g ∈ l, 16 * g + 16 <= A.n /\ ∀ p, p / 16 = g -> 2 <= A.f p) -> Trm A (l.foldl KH (A, sp)).1 sp (l.foldl KH (A, sp)).2 l
 | [], A, sp, h, hw, _, _ => ⟨St.refl h hw, fun p => by simp, rfl, rfl, rfl, rfl, fun _ _ => rfl, fun _ _ => rfl, rfl⟩
 | g :: l, A, sp, h, hw, hn, hi => by
  have hn' := List.nodup_cons.1 hn
  have t := Wf1 h hw (hi g (by simp)).1 (hi g (by simp)).2
  have k := Wcd l (A := (KH (A, sp) g).1) (sp := (KH (A, sp) g).2) t.st.ga t.st.ow hn'.2 fun g' hg' => by
   refine ⟨by rw [t.st.n]; exact (hi g' (by simp [hg'])).1, fun p hp => ?_⟩
   rw [t.f, if_neg (by simp; rintro rfl; exact hn'.1 (hp ▸ hg'))]
   exact (hi g' (by simp [hg'])).2 p hp
  rw [List.foldl_cons]
  refine ⟨t.st.trans k.st, fun p => ?_, k.ow.trans t.ow, k.tra.trans t.tra, k.cen.trans t.cen, k.runs.trans t.runs, fun x hx => ?_, fun p hp => ?_, k.pk.trans t.pk⟩
  ·rw [k.f, t.f]
   by_cases h1 : p / 16 ∈ l
   ·rw [if_pos h1, if_pos (by simp [h1])]
   ·rw [if_neg h1]
    by_cases h2 : p / 16 = g
    ·rw [if_pos (by simp [h2]), if_pos (by simp [h2])]
    ·rw [if_neg (by simp [h2]), if_neg (by simp [h1, h2])]
  ·simp only [List.mem_cons, not_or] at hx
   exact (k.wd x hx.2).trans (t.wd x (by simpa using hx.1))
  ·simp only [List.mem_cons, not_or] at hp
   exact (k.gf p hp.2).trans (t.gf p (by simpa using hp.1))
theorem Wdz (h : GA A) {g : Nat} : g ∈ Z9 A.st 0 ↔ 16 * g + 16 <= A.n /\ ∀ p, p / 16 = g -> 2 <= A.f p := by
 have hn := h.pg.n16
 unfold Z9
 rw [List.mem_filter, List.mem_range, h.pg.len]
 have hk : ∀ (hg : 16 * g + 16 <= A.n), (QC A.st g == 0) = true ↔ ∀ p, p / 16 = g -> A.f p ≠ 1 := fun hg => by
  have h2 := VB (st := A.st) (a := 16 * g) (b := 16 * g + 16) (v := 1) (by omega) (by rw [h.pg.len]; exact hg)
  have e : (QC A.st g == 0) = true ↔ cntR A.st (16 * g) (16 * g + 16) 1 = 0 := by
   unfold QC
   split
   ·rename_i hx; simp [hx]
   ·rename_i hx
    constructor
    ·intro hy; split at hy <;> simp at hy
    ·intro hy; exact (hx hy).elim
  rw [e, h2]
  constructor
  ·intro hx p hp; exact hx p (by omega) (by omega)
  ·intro hx p p1 p2; exact hx p (by omega)
 simp only [Bool.and_eq_true, bne_iff_ne, ne_eq]
 constructor
 ·rintro ⟨h1, h2, h3⟩
  have hg : 16 * g + 16 <= A.n := by omega
  refine ⟨hg, fun p hp => ?_⟩
  have h4 := (hk hg).1 h3 p hp
  have h5 : A.f p ≠ 0 := fun e => h2 ((h.pg.hp2 (q := 16 * g) (by omega)).1 e)
  omega
 ·rintro ⟨hg, h2⟩
  refine ⟨by omega, fun e => ?_, (hk hg).2 fun p hp e => ?_⟩
  ·have e : A.f (16 * g) = 0 := e
   have := h2 (16 * g) (by omega); omega
  ·have := h2 p hp; omega
theorem Wbq (st : List Nat) (k : Nat) : (Z9 st k).Nodup := List.nodup_range.filter _
theorem UM (h : GA A) (hw : Ow A sp) : Trm A (Vh A sp).1 sp (Vh A sp).2 (Z9 A.st 0) := Wcd _ h hw (Wbq _ _) fun g hg => (Wdz h).1 hg
structure Rlz (A B : AR) (sp sp' : Sp) (rs : List (Nat × Nat)) : Prop where
 st : St A B sp sp'
 i : ∀ p, inR rs p -> A.f p = 2 /\ B.f p = 3 /\ gf sp'.st p = 1
 o : ∀ p, ¬ inR rs p -> B.f p = A.f p /\ gf sp'.st p = gf sp.st p
 ow : B.ow = A.ow
 tra : B.tra = A.tra
 cen : B.cen = A.cen
 runs : B.runs = A.runs
 wd : ∀ x, ¬ inR rs (x / 32) -> sp'.wd x = sp.wd x
 pk : sp'.pk = sp.pk
theorem WhZ (h : GA A) (hw : Ow A sp) {a m : Nat} (h1 : 1 <= m) (hi : ∀ p, a <= p -> p < a + m -> A.f p = 2) : Rlz A (rel1 (A, sp) (a, m)).1 sp (rel1 (A, sp) (a, m)).2 [(a, m)] := by
 have hl : a + m <= A.n := by have := h.pg.lt (p := a + m - 1) (by rw [hi _ (by omega) (by omega)]; omega); omega
 have hin : ∀ p, inR [(a, m)] p ↔ a <= p /\ p < a + m := fun p => by simp [inR]
 have e1 : (rel1 (A, sp) (a, m)).1.st = setR A.st a (a + m) 3 := GJ h1 (by rw [h.pg.len]; exact hl) fun p p1 p2 => by
  have := hi p p1 p2; unfold AR.f at this; rw [this]; simp
 have hl2 : a + m <= sp.st.length := by rw [hw.l]; exact hl
 have e3 : (rel1 (A, sp) (a, m)).2 = sp.set a m 1 := WaK h1 hl2 fun p p1 p2 => hw.own p (by rw [hi p p1 p2]; omega)
 have ef : ∀ p, (rel1 (A, sp) (a, m)).1.f p = if a <= p /\ p < a + m then 3 else A.f p := fun p => by unfold AR.f; rw [e1, Hu (by rw [h.pg.len]; exact hl)]
 have eg : ∀ p, gf (rel1 (A, sp) (a, m)).2.st p = if a <= p /\ p < a + m then 1 else gf sp.st p := fun p => by rw [e3, WgQ hl2]
 have hz : ∀ p, (rel1 (A, sp) (a, m)).1.f p = 0 ↔ A.f p = 0 := fun p => by
  rw [ef]; split
  ·rename_i hp; rw [hi p hp.1 hp.2]; omega
  ·exact Iff.rfl
 have pg : PG (rel1 (A, sp) (a, m)).1 := by
  refine ⟨by rw [e1, ZL]; exact h.pg.len, h.pg.n1, h.pg.n2, h.pg.n16, fun p => ?_, fun p => ?_, fun p => ?_, WhD h.pg hz⟩
  ·rw [ef]; have := h.pg.le p; split <;> omega
  ·rw [ef]
   show _ ↔ A.ow p ≠ 0
   rw [← h.pg.us p]
   split
   ·rename_i hp; rw [hi p hp.1 hp.2]; omega
   ·exact Iff.rfl
  ·rw [ef]
   show A.S p = true ↔ _
   rw [h.pg.fr p]
   split
   ·rename_i hp; rw [hi p hp.1 hp.2]; omega
   ·exact Iff.rfl
 have ga : GA (rel1 (A, sp) (a, m)).1 := ⟨pg, h.tb, h.lc, h.lt, h.cen, h.one, h.ow, h.ow41, h.owb, h.rpos, h.rdis, h.trn, h.trt, h.trb⟩
 refine ⟨⟨ga, ⟨by rw [e3]; show (setR _ _ _ _).length = A.n; rw [ZL]; exact hw.l, fun p hp => ?_, fun p hp => ?_, fun p => ?_⟩, rfl, rfl, rfl, fun p h1 h2 => ?_, fun p h1 h2 => (h1 ((hz p).1 h2)).elim, fun p h1 h2 => (h2 ((hz p).2 h1)).elim⟩, fun p hp => ?_, fun p hp => ?_, rfl, rfl, rfl, rfl, fun x hx => ?_, ?_⟩
 ·rw [eg]; split
  ·omega
  ·rename_i hn; exact hw.own p fun e => hp ((hz p).2 e)
 ·rw [ef] at hp; rw [eg]
  split at hp
  ·rename_i hn; rw [if_pos hn]
  ·rename_i hn; rw [if_neg hn]; exact hw.cl p hp
 ·rw [eg]; have := hw.le p; split <;> omega
 ·rw [eg, if_neg fun hp => by have := hi p hp.1 hp.2; omega]
 ·rw [hin] at hp; rw [ef, eg, if_pos hp, if_pos hp]; exact ⟨hi p hp.1 hp.2, rfl, rfl⟩
 ·rw [hin] at hp; rw [ef, eg, if_neg hp, if_neg hp]; exact ⟨rfl, rfl⟩
 ·rw [hin] at hx; rw [e3]; exact WgN hx
 ·rw [e3]; rfl
theorem WeK : ∀ (rs : List (Nat × Nat)) {A : AR} {sp : Sp}, GA A -> Ow A sp -> (∀ r ∈ rs, 1 <= r.2 /\ ∀ p, r.1 <= p -> p < r.1 + r.2 -> A.f p = 2) -> rs.Pairwise (fun a b => a.1 + a.2 <= b.1 ∨ b.1 + b.2 <= a.1) →
 Rlz A (rs.foldl rel1 (A, sp)).1 sp (rs.foldl rel1 (A, sp)).2 rs
 | [], A, sp, h, hw, _, _ => ⟨St.refl h hw, fun p ⟨r, hr, _⟩ => by simp at hr, fun p _ => ⟨rfl, rfl⟩, rfl, rfl, rfl, rfl, fun _ _ => rfl, rfl⟩
 | (a, m) :: rs, A, sp, h, hw, hi, hd => by
  have hd' := List.pairwise_cons.1 hd
  have hi0 := hi (a, m) (List.mem_cons_self ..)
  have t := WhZ h hw hi0.1 hi0.2
  have hin : ∀ p, inR [(a, m)] p ↔ a <= p /\ p < a + m := fun p => by simp [inR]
  have hcons : ∀ p, inR ((a, m) :: rs) p ↔ (a <= p /\ p < a + m) ∨ inR rs p := fun p => by simp [inR]
  have k := WeK rs (A := (rel1 (A, sp) (a, m)).1) (sp := (rel1 (A, sp) (a, m)).2) t.st.ga t.st.ow (fun r hr => by
   have := hi r (List.mem_cons_of_mem _ hr)
   refine ⟨this.1, fun p p1 p2 => ?_⟩
   have hx := hd'.1 r hr
   simp only at hx
   rw [(t.o p (by rw [hin]; omega)).1]
   exact this.2 p p1 p2) hd'.2
  rw [List.foldl_cons]
  refine ⟨t.st.trans k.st, fun p hp => ?_, fun p hp => ?_, k.ow.trans t.ow, k.tra.trans t.tra, k.cen.trans t.cen, k.runs.trans t.runs, fun x hx => ?_, k.pk.trans t.pk⟩
  ·by_cases h2 : inR rs p
   ·have := k.i p h2
    refine ⟨?_, this.2⟩
    by_cases h3 : a <= p /\ p < a + m
    ·exact hi0.2 p h3.1 h3.2
    ·rw [← (t.o p (by rw [hin]; exact h3)).1]; exact this.1
   ·have h3 : a <= p /\ p < a + m := ((hcons p).1 hp).resolve_right h2
    have h4 := t.i p ((hin p).2 h3)
    have h5 := k.o p h2
    exact ⟨h4.1, h5.1.trans h4.2.1, h5.2.trans h4.2.2⟩
  ·rw [hcons] at hp
   have h2 : ¬ inR rs p := fun h => hp (.inr h)
   have h3 : ¬ inR [(a, m)] p := fun h => hp (.inl ((hin p).1 h))
   exact ⟨(k.o p h2).1.trans (t.o p h3).1, (k.o p h2).2.trans (t.o p h3).2⟩
  ·rw [hcons] at hx
   exact (k.wd x fun h => hx (.inr h)).trans (t.wd x fun h => hx (.inl ((hin _).1 h)))
theorem Wfi {st : List Nat} {p m : Nat} (hl : p + m <= st.length) : runL st p m <= m /\ (∀ x, p <= x -> x < p + runL st p m -> gf st x = 2) /\ (runL st p m < m -> gf st (p + runL st p m) ≠ 2) := by
 have key : ∀ (l : List Nat), (l.takeWhile (· == 2)).length <= l.length /\ (∀ i, i < (l.takeWhile (· == 2)).length -> l[i]? = some 2) /\ ((l.takeWhile (· == 2)).length < l.length -> l[(l.takeWhile (· == 2)).length]? ≠ some 2) := by
  intro l
  induction l with
  | nil => simp
  | cons x l ih =>
   rw [List.takeWhile_cons]
   by_cases hx : x = 2
   ·subst hx
    simp only [beq_self_eq_true, if_true, List.length_cons]
    refine ⟨by omega, fun i hi => ?_, fun hlt => ?_⟩
    ·cases i with
     | zero => rfl
     | succ i => simpa using ih.2.1 i (by omega)
    ·simpa using ih.2.2 (by omega)
   ·have : (x == 2) = false := by simpa using hx
    simp [this, hx]
 have k := key ((st.drop p).take m)
 have hlen : ((st.drop p).take m).length = m := by simp; omega
 have get : ∀ i, i < m -> ((st.drop p).take m)[i]? = some (gf st (p + i)) := fun i hi => by
  rw [List.getElem?_take, if_pos hi, List.getElem?_drop]
  unfold gf
  rw [List.getD_eq_getElem?_getD, gGe (by omega)]; rfl
 rw [hlen] at k
 refine ⟨k.1, fun x h1 h2 => ?_, fun hlt => ?_⟩
 ·have h3 := k.2.1 (x - p) (by unfold runL at h2; omega)
  have hle : runL st p m <= m := k.1
  rw [get _ (by omega), show p + (x - p) = x by omega] at h3
  exact Option.some.inj h3
 ·have h3 := k.2.2 hlt
  have e : (((st.drop p).take m).takeWhile (· == 2)).length = runL st p m := rfl
  rw [e, get _ hlt] at h3
  exact fun e => h3 (congrArg some e)
theorem QU {st : List Nat} {e : Nat} (he : e <= st.length) : ∀ (f p : Nat), (∀ r ∈ Ql st e f p, 1 <= r.2 /\ p <= r.1 /\ r.1 + r.2 <= e /\ ∀ x, r.1 <= x -> x < r.1 + r.2 -> gf st x = 2) /\ (Ql st e f p).Pairwise (fun a b => a.1 + a.2 <= b.1) ∧
 (e - p < f -> ∀ x, p <= x -> x < e -> gf st x = 2 -> inR (Ql st e f p) x) /\ ((Ql st e f p).map (·.2)).sum <= e - p
 | 0, p => ⟨by simp [Ql], by simp [Ql], fun h => by omega, by simp [Ql]⟩
 | f + 1, p => by
  rw [Ql]
  split
  ·rename_i hp
   exact ⟨by simp, by simp, fun _ x h1 h2 => by omega, by simp⟩
  ·rename_i hp
   have hr := Wfi (st := st) (p := p) (m := e - p) (by omega)
   split
   ·rename_i h0
    obtain ⟨i1, i2, i3, i4⟩ := QU he f (p + 1)
    refine ⟨fun r hr' => ?_, i2, fun hf x h1 h2 h3 => ?_, by omega⟩
    ·have := i1 r hr'; exact ⟨this.1, by omega, this.2.2⟩
    ·by_cases hx : x = p
     ·subst hx
      rw [h0] at hr
      exact (hr.2.2 (by omega) (by simpa using h3)).elim
     ·exact i3 (by omega) x (by omega) h2 h3
   ·rename_i h0
    obtain ⟨i1, i2, i3, i4⟩ := QU he f (p + runL st p (e - p) + 1)
    refine ⟨fun r hr' => ?_, List.pairwise_cons.2 ⟨fun r hr' => ?_, i2⟩, fun hf x h1 h2 h3 => ?_, ?_⟩
    ·rcases List.mem_cons.1 hr' with rfl | hr'
     ·exact ⟨by simp only; omega, Nat.le_refl _, by simp only; omega, hr.2.1⟩
     ·have := i1 r hr'; exact ⟨this.1, by omega, this.2.2⟩
    ·have := i1 r hr'; simp only; omega
    ·by_cases hx : x < p + runL st p (e - p)
     ·exact ⟨_, List.mem_cons_self .., h1, hx⟩
     ·by_cases hx2 : x = p + runL st p (e - p)
      ·subst hx2
       exact (hr.2.2 (by omega) h3).elim
      ·obtain ⟨r, hr', h4⟩ := i3 (by omega) x (by omega) h2 h3
       exact ⟨r, List.mem_cons_of_mem _ hr', h4⟩
    ·simp only [List.map_cons, List.sum_cons]; omega
theorem WdA (st : List Nat) (l : List Nat) (h : Nat) : (insH st l h).Perm (h :: l) := by
 unfold insH
 refine List.perm_middle.trans ?_
 rw [List.takeWhile_append_dropWhile]
theorem WeV (st : List Nat) : (ordT st).Perm ((List.range (st.length / 16)).filter fun h => 0 < cntR st (16 * h) (16 * h + 16) 2) := by
 unfold ordT
 have key : ∀ (l m : List Nat), (l.foldl (insH st) m).Perm (l ++ m) := by
  intro l
  induction l with
  | nil => intro m; exact List.Perm.refl _
  | cons x l ih =>
   intro m
   rw [List.foldl_cons, List.cons_append]
   refine (ih _).trans ?_
   refine ((WdA st m x).append_left l).trans ?_
   exact List.perm_middle
 simpa using key _ []
theorem Wco (want : Int) : ∀ (x : Nat) (l : List (Nat × Nat)), (cutW want x l).Sublist l
 | x, [] => by simp [cutW]
 | x, r :: l => by
  rw [cutW]; split
  ·exact List.nil_sublist _
  ·exact (Wco want (x + r.2) l).cons_cons r
theorem Wau {want : Int} : ∀ (x : Nat) (l : List (Nat × Nat)), (∀ r ∈ l, 1 <= r.2) -> ((x + (l.map (·.2)).sum : Nat) : Int) <= want -> cutW want x l = l
 | x, [], _, _ => by simp [cutW]
 | x, r :: l, hp, hs => by
  have := hp r (by simp)
  simp only [List.map_cons, List.sum_cons] at hs
  rw [cutW, if_neg (by omega), Wau (x + r.2) l (fun q hq => hp q (by simp [hq])) (by omega)]
theorem Wf4 {st : List Nat} (h16 : st.length % 16 = 0) : (∀ r ∈ (ordT st).flatMap (KI st), 1 <= r.2 /\ ∀ x, r.1 <= x -> x < r.1 + r.2 -> gf st x = 2) /\ ((ordT st).flatMap (KI st)).Pairwise (fun a b => a.1 + a.2 <= b.1 ∨ b.1 + b.2 <= a.1) ∧
 (∀ x, gf st x = 2 -> inR ((ordT st).flatMap (KI st)) x) /\ (((ordT st).flatMap (KI st)).map (·.2)).sum <= st.length := by
 have hp := WeV st
 have hlt : ∀ h ∈ ordT st, 16 * h + 16 <= st.length := fun h hh => by
  have := (List.mem_filter.1 (hp.subset hh)).1
  rw [List.mem_range] at this; omega
 have hnd : (ordT st).Nodup := hp.nodup_iff.2 (List.nodup_range.filter _)
 have hlen : (ordT st).length <= st.length / 16 := by
  rw [hp.length_eq]
  exact Nat.le_trans (List.length_filter_le _ _) (by simp)
 refine ⟨fun r hr => ?_, ?_, fun x hx => ?_, ?_⟩
 ·obtain ⟨h, hh, hr⟩ := List.mem_flatMap.1 hr
  have := (QU (hlt h hh) 17 (16 * h)).1 r hr
  exact ⟨this.1, this.2.2.2⟩
 ·have key : ∀ l : List Nat, l.Nodup -> (∀ h ∈ l, 16 * h + 16 <= st.length) -> (l.flatMap (KI st)).Pairwise (fun a b => a.1 + a.2 <= b.1 ∨ b.1 + b.2 <= a.1) := by
   intro l
   induction l with
   | nil => intro _ _; simp
   | cons h l ih =>
    intro hn hl
    have hn := List.nodup_cons.1 hn
    rw [List.flatMap_cons]
    refine List.pairwise_append.2 ⟨(QU (hl h (by simp)) 17 (16 * h)).2.1.imp fun {a b} hab => .inl hab, ih hn.2 fun g hg => hl g (by simp [hg]), fun a ha b hb => ?_⟩
    obtain ⟨g, hg, hb⟩ := List.mem_flatMap.1 hb
    have h1 := (QU (hl h (by simp)) 17 (16 * h)).1 a ha
    have h2 := (QU (hl g (by simp [hg])) 17 (16 * g)).1 b hb
    have hne : h ≠ g := fun e => hn.1 (e ▸ hg)
    omega
  exact key _ hnd hlt
 ·have hxl : x < st.length := WhG (by omega)
  have hm : x / 16 ∈ ordT st := hp.symm.subset (List.mem_filter.2 ⟨List.mem_range.2 (by omega), by
   have : cntR st (16 * (x / 16)) (16 * (x / 16) + 16) 2 ≠ 0 := fun h0 => by
    rw [VB (by omega) (by omega)] at h0
    exact h0 x (by omega) (by omega) hx
   simp; omega⟩)
  obtain ⟨r, hr, h1⟩ := (QU (hlt _ hm) 17 (16 * (x / 16))).2.2.1 (by omega) x (by omega) (by omega) hx
  exact ⟨r, List.mem_flatMap.2 ⟨_, hm, hr⟩, h1⟩
 ·have key : ∀ l : List Nat, (∀ h ∈ l, 16 * h + 16 <= st.length) -> ((l.flatMap (KI st)).map (·.2)).sum <= 16 * l.length := by
   intro l
   induction l with
   | nil => intro _; simp
   | cons h l ih =>
    intro hl
    have h1 := (QU (hl h (by simp)) 17 (16 * h)).2.2.2
    have h2 := ih fun g hg => hl g (by simp [hg])
    rw [List.flatMap_cons, List.map_append, List.sum_append, List.length_cons]
    have h1 : ((KI st h).map (·.2)).sum <= 16 * h + 16 - 16 * h := h1
    omega
  have := key _ hlt
  omega
theorem WhC (h : GA A) (hw : Ow A sp) {want : Int} (h0 : 0 <= want) : Rlz (Zi A) (relS A sp want).1 sp (relS A sp want).2 (QL A want) /\ (1024 <= want -> ∀ p, (relS A sp want).1.f p ≠ 2) := by
 obtain ⟨o, _, _⟩ := Hh h
 have hl16 : (Zi A).st.length % 16 = 0 := by rw [o.ga.pg.len]; exact o.ga.pg.n16
 obtain ⟨r1, r2, r3, r4⟩ := Wf4 hl16
 have hsub := Wco want 0 ((ordT (Zi A).st).flatMap (KI (Zi A).st))
 have e : relS A sp want = (QL A want).foldl rel1 (Zi A, sp) := by unfold relS; rw [if_neg (by omega)]
 rw [e]
 have t := WeK (QL A want) o.ga (hw.kp o.kp) (fun r hr => r1 r (hsub.subset hr)) (r2.sublist hsub)
 refine ⟨t, fun hbig p hp => ?_⟩
 have hn := o.ga.pg.n2
 have hfull : QL A want = (ordT (Zi A).st).flatMap (KI (Zi A).st) := Wau 0 _ (fun r hr => (r1 r hr).1) (by
  rw [o.ga.pg.len] at r4; omega)
 by_cases hi : inR (QL A want) p
 ·rw [(t.i p hi).2.1] at hp; omega
 ·rw [(t.o p hi).1] at hp
  exact hi (by rw [hfull]; exact r3 p hp)
theorem G4 (h : GA A) (hw : Ow A sp) (want : Int) : St A (relS A sp want).1 sp (relS A sp want).2 /\ (relS A sp want).1.runs = A.runs /\ (relS A sp want).1.tra = A.tra /\ ∀ j y, TkA (relS A sp want).1 j y ↔ TkA A j y := by
 by_cases h0 : 0 <= want
 ·obtain ⟨t, _⟩ := WhC h hw h0
  obtain ⟨o, e, k⟩ := Hh h
  refine ⟨(o.st hw).trans t.st, t.runs.trans o.runs, t.tra.trans e, fun j y => ?_⟩
  rw [← k]
  unfold TkA Cl; rw [t.cen, t.st.tb]
 ·have e : relS A sp want = (A, sp) := by unfold relS; rw [if_pos (by omega)]
  rw [e]; exact ⟨St.refl h hw, rfl, rfl, fun _ _ => Iff.rfl⟩
end Go.Ar
namespace Go.Ar


structure Pc where
 k : Nat
 cls : Int
 addr : Nat
 size : Nat
 moved : Bool
 deriving DecidableEq
structure Wd where
 tb : List Cls
 sp : Sp
 ars : List AR
 held : List Pc
structure Act where
 kd : Int
 ar : Int
 cl : Int
 a : Int
 b : Int
 l : List Int
abbrev Key := Nat × Int × Nat
def Pc.key (p : Pc) : Key := (p.k, p.cls, p.addr)
def isAt (k : Nat) (cls x : Int) (p : Pc) : Bool := p.k == k && (p.cls == cls && ((p.addr : Int) == x && !p.moved))
def atW (held : List Pc) (k : Nat) (cls x : Int) : Option Nat := held.findIdx? (isAt k cls x)
def ownW (held : List Pc) (k : Nat) (cls : Int) (l : List Int) : Bool := l.all (fun x => (atW held k cls x).isSome) && decide l.Nodup
def WaN (k : Nat) (cls : Int) (held : List Pc) (x : Int) : List Pc := match atW held k cls x with
 | some i => held.take i ++ held.drop (i + 1)
 | none => held
def KN (held : List Pc) (k : Nat) (cls : Int) (l : List Int) : List Pc := l.foldl (WaN k cls) held
def isOf (k : Nat) (cls : Int) (l : List Int) (p : Pc) : Bool := p.k == k && (p.cls == cls && l.contains (p.addr : Int))
def QI (held : List Pc) (k : Nat) (cls : Int) (l : List Int) (m : Bool) : List Pc := held.map fun p => if isOf k cls l p then { p with moved := m } else p
def Qc (held : List Pc) (x : Int) : Bool := held.any fun p => decide ((p.addr : Int) <= x) && decide (x - (p.addr : Int) < (p.size : Int))
def Ux (us : List AR) (held : List Pc) : List Pc := held.filter fun p => !p.moved || (match us[p.k]? with
 | some A => Ub A (p.addr : Int)
 | none => false)
def numW (n : Nat) (x : Int) : Nat := (x % (n : Int)).toNat
def WgD (A : AR) (x : Int) : Int := if (Vu A x).isSome then 0 else 8
def szOf (tb : List Cls) (k : Int) : Nat := ((tb[k.toNat]?).map (·.size)).getD 0
def Wd.put (W : Wd) (k : Nat) (A : AR) (sp : Sp) (held : List Pc) : Wd := { W with sp := sp, ars := W.ars.set k A, held := held }
def actW (W : Wd) (k : Nat) (A : AR) (x : Act) : Wd × Int :=
 if x.kd = 0 then (W.put k (ZX A W.sp x.cl).1 (ZX A W.sp x.cl).2 W.held, KT A W.sp x.cl)
 else if x.kd = 1 then (W.put k (Ye A x.cl x.a) W.sp (W.held ++ (YY A x.cl x.a).map fun y => ⟨k, x.cl, y, szOf W.tb x.cl, false⟩), Zm A x.cl x.a)
 else if x.kd = 2 then (if ownW W.held k x.cl x.l then (W.put k (Yu A x.cl x.l) W.sp (if Zr A x.cl x.l = 0 then KN W.held k x.cl x.l else W.held), Zr A x.cl x.l) else (W, 0))
 else if x.kd = 3 then (W.put k (Y7 A x.cl) W.sp (QI W.held k x.cl (Y8 A x.cl) false), Z1 A x.cl)
 else if x.kd = 4 then (if ownW W.held k x.cl x.l then (W.put k (Qu A x.cl x.l) W.sp (if KJ A x.cl x.l then QI W.held k x.cl x.l true else W.held), VM A x.cl x.l) else (W, 0))
 else if x.kd = 5 then (W.put k (Yt A W.sp x.a x.b).1 (Yt A W.sp x.a x.b).2 (if ZT A W.sp x.a x.b = 0 then W.held ++ [⟨k, -1, QF A W.sp x.a x.b * 256, x.a.toNat * 256, false⟩] else W.held), ZT A W.sp x.a x.b)
 else if x.kd = 6 then (W.put k (ZO A x.a) W.sp (if ZS A x.a = 0 then KN W.held k (-1) [x.a * 256] else W.held), ZS A x.a)
 else if x.kd = 7 then (W, WgD A x.a)
 else if x.kd = 10 then (W.put k (relS A W.sp x.a).1 (relS A W.sp x.a).2 W.held, relE x.a)
 else if x.kd = 11 then (W.put k (Vh A W.sp).1 (Vh A W.sp).2 W.held, 0)
 else if x.kd = 12 then (W.put k (QB A) W.sp (Ux (W.ars.set k (QB A)) W.held), 0)
 else if x.kd = 13 then (if Qc W.held x.a then ({ W with sp := QA W.sp x.a x.b }, accE W.sp x.a) else (W, 0))
 else (W, 0)
def doW (W : Wd) (x : Act) : Wd × Int := match W.ars[numW W.ars.length x.ar]? with
 | some A => actW W (numW W.ars.length x.ar) A x
 | none => (W, 0)
def Hd (A : AR) (p : Pc) : Prop := (p.cls = -1 /\ p.moved = false /\ ∃ r ∈ A.runs, p.addr = r.1 * 256 /\ p.size = r.2 * 256) ∨
 ∃ (j : Nat) (c : Cls), p.cls = j /\ A.tb[j]? = some c /\ p.size = c.size /\ TkA A j (p.addr : Int) /\ (p.moved = true ↔ InT A j (p.addr : Int))
structure WI (W : Wd) : Prop where
 ga : ∀ (k : Nat) (A : AR), W.ars[k]? = some A -> GA A
 ow : ∀ (k : Nat) (A : AR), W.ars[k]? = some A -> Ow A W.sp
 tb : ∀ (k : Nat) (A : AR), W.ars[k]? = some A -> A.tb = W.tb
 low : ∀ (k : Nat) (A : AR), W.ars[k]? = some A -> ∀ p, p < 16 -> A.f p = 0
 own : ∀ p, gf W.sp.st p ≠ 0 -> ∃ (k : Nat) (A : AR), W.ars[k]? = some A /\ A.f p ≠ 0
 one : ∀ p (k l : Nat) (A B : AR), W.ars[k]? = some A -> W.ars[l]? = some B -> A.f p ≠ 0 -> B.f p ≠ 0 -> k = l
 hk : (W.held.map Pc.key).Nodup
 hf : ∀ p ∈ W.held, ∃ A, W.ars[p.k]? = some A /\ Hd A p
 ht : ∀ (k : Nat) (A : AR), W.ars[k]? = some A -> ∀ (j : Nat) (y : Int), TkA A j y -> ∃ p ∈ W.held, p.k = k /\ p.cls = j /\ (p.addr : Int) = y
 hr : ∀ (k : Nat) (A : AR), W.ars[k]? = some A -> ∀ r ∈ A.runs, ∃ p ∈ W.held, p.k = k /\ p.cls = -1 /\ p.addr = r.1 * 256
variable {W : Wd} {k : Nat} {A : AR}
theorem Q5 {α : Type} {l : List α} {k j : Nat} {x y : α} (h : (l.set k x)[j]? = some y) : (j = k /\ y = x /\ k < l.length) ∨ (j ≠ k /\ l[j]? = some y) := by
 by_cases hjk : j = k
 ·subst hjk
  have hl : j < l.length := by have := (gSi.1 h).1; simpa using this
  rw [List.getElem?_set_self hl] at h
  exact .inl ⟨rfl, (Option.some.inj h).symm, hl⟩
 ·rw [List.getElem?_set_ne (Ne.symm hjk)] at h; exact .inr ⟨hjk, h⟩
theorem WI.unique (h : WI W) {p q : Pc} (hp : p ∈ W.held) (hq : q ∈ W.held) (e : p.key = q.key) : p = q := by
 obtain ⟨i, hi⟩ := List.getElem?_of_mem hp
 obtain ⟨j, hj⟩ := List.getElem?_of_mem hq
 obtain ⟨hi1, rfl⟩ := gSi.1 hi
 obtain ⟨hj1, rfl⟩ := gSi.1 hj
 have := List.pairwise_iff_getElem.1 h.hk
 rcases Nat.lt_trichotomy i j with hl | hl | hl
 ·exact (this i j (by simpa using hi1) (by simpa using hj1) hl (by simpa using e)).elim
 ·subst hl; rfl
 ·exact (this j i (by simpa using hj1) (by simpa using hi1) hl (by simpa using e.symm)).elim
theorem WI.step (h : WI W) (hk : W.ars[k]? = some A) {B : AR} {sp' : Sp} {held' : List Pc} (s : St A B W.sp sp') (h1 : (held'.map Pc.key).Nodup) (h2 : ∀ p ∈ held', p.k = k -> Hd B p) (h3 : ∀ p, p.k ≠ k -> (p ∈ held' ↔ p ∈ W.held))
 (h4 : ∀ (j : Nat) (y : Int), TkA B j y -> ∃ p ∈ held', p.k = k /\ p.cls = j /\ (p.addr : Int) = y) (h5 : ∀ r ∈ B.runs, ∃ p ∈ held', p.k = k /\ p.cls = -1 /\ p.addr = r.1 * 256) : WI (W.put k B sp' held') := by
 have hkl := (gSi.1 hk).1
 have self : (W.ars.set k B)[k]? = some B := List.getElem?_set_self hkl
 have ne : ∀ {j : Nat} {C : AR}, j ≠ k -> W.ars[j]? = some C -> (W.ars.set k B)[j]? = some C := fun hj hC => (List.getElem?_set_ne (Ne.symm hj)).trans hC
 have oth : ∀ {j : Nat} {C : AR}, j ≠ k -> W.ars[j]? = some C -> ∀ p, C.f p ≠ 0 -> A.f p = 0 /\ B.f p = 0 /\ gf sp'.st p = gf W.sp.st p := by
  intro j C hj hC p hp
  have hA : A.f p = 0 := Classical.byContradiction fun hn => hj (h.one p j k C A hC hk hp hn)
  have hB : B.f p = 0 := Classical.byContradiction fun hn => by
   have := (s.new p hA hn).1
   exact (h.ow j C hC).own p hp this
  exact ⟨hA, hB, s.same p hA hB⟩
 refine ⟨fun j C hj => ?_, fun j C hj => ?_, fun j C hj => ?_, fun j C hj p hp => ?_, fun p hp => ?_, fun p j l C D hj hl hC hD => ?_, h1, fun p hp => ?_, fun j C hj i y hy => ?_, fun j C hj r hr => ?_⟩
 ·rcases Q5 hj with ⟨rfl, rfl, _⟩ | ⟨_, hj⟩
  ·exact s.ga
  ·exact h.ga j C hj
 ·rcases Q5 hj with ⟨rfl, rfl, _⟩ | ⟨hne, hj⟩
  ·exact s.ow
  ·have o := h.ow j C hj
   have oA := h.ow k A hk
   refine ⟨?_, fun p hp => ?_, fun p hp => ?_, s.ow.le⟩
   ·show sp'.st.length = C.n
    rw [s.ow.l, s.n, ← oA.l, o.l]
   ·show gf sp'.st p ≠ 0
    rw [(oth hne hj p hp).2.2]; exact o.own p hp
   ·show gf sp'.st p = 1
    rw [(oth hne hj p (by omega)).2.2]; exact o.cl p hp
 ·rcases Q5 hj with ⟨rfl, rfl, _⟩ | ⟨_, hj⟩
  ·exact s.tb.trans (h.tb _ A hk)
  ·exact h.tb j C hj
 ·rcases Q5 hj with ⟨rfl, rfl, _⟩ | ⟨_, hj⟩
  ·apply Classical.byContradiction; intro hn
   have := s.new p (h.low _ A hk p hp) hn
   omega
  ·exact h.low j C hj p hp
 ·have hp : gf sp'.st p ≠ 0 := hp
  by_cases hB : B.f p = 0
  ·by_cases hA : A.f p = 0
   ·rw [s.same p hA hB] at hp
    obtain ⟨j, C, hj, hC⟩ := h.own p hp
    have hne : j ≠ k := by
     rintro rfl
     rw [hk] at hj; cases hj; exact hC hA
    exact ⟨j, C, ne hne hj, hC⟩
   ·exact (hp (s.gone p hA hB)).elim
  ·exact ⟨k, B, self, hB⟩
 ·rcases Q5 hj with ⟨rfl, rfl, _⟩ | ⟨hne, hj'⟩
  ·rcases Q5 hl with ⟨rfl, rfl, _⟩ | ⟨hne2, hl'⟩
   ·rfl
   ·exact (hC (oth hne2 hl' p hD).2.1).elim
  ·rcases Q5 hl with ⟨rfl, rfl, _⟩ | ⟨hne2, hl'⟩
   ·exact (hD (oth hne hj' p hC).2.1).elim
   ·exact h.one p j l C D hj' hl' hC hD
 ·by_cases hpk : p.k = k
  ·exact ⟨B, by rw [hpk]; exact self, h2 p hp hpk⟩
  ·obtain ⟨C, hC, hh⟩ := h.hf p ((h3 p hpk).1 hp)
   exact ⟨C, ne hpk hC, hh⟩
 ·rcases Q5 hj with ⟨rfl, rfl, _⟩ | ⟨hne, hj⟩
  ·exact h4 i y hy
  ·obtain ⟨p, hp, e1, e2, e3⟩ := h.ht j C hj i y hy
   exact ⟨p, (h3 p (by rw [e1]; exact hne)).2 hp, e1, e2, e3⟩
 ·rcases Q5 hj with ⟨rfl, rfl, _⟩ | ⟨hne, hj⟩
  ·exact h5 r hr
  ·obtain ⟨p, hp, e1, e2, e3⟩ := h.hr j C hj r hr
   exact ⟨p, (h3 p (by rw [e1]; exact hne)).2 hp, e1, e2, e3⟩
theorem Hd.to {B : AR} {p : Pc} (h : Hd A p) (e1 : B.tb = A.tb) (e2 : B.runs = A.runs) (e3 : ∀ j y, TkA A j y -> TkA B j y) (e4 : ∀ j y, InT B j y ↔ InT A j y) : Hd B p := by
 rcases h with ⟨h1, h2, r, hr, h3⟩ | ⟨j, c, h1, h2, h3, h4, h5⟩
 ·exact .inl ⟨h1, h2, r, by rw [e2]; exact hr, h3⟩
 ·exact .inr ⟨j, c, h1, by rw [e1]; exact h2, h3, e3 _ _ h4, by rw [e4]; exact h5⟩
theorem WI.hd (h : WI W) (hk : W.ars[k]? = some A) {p : Pc} (hp : p ∈ W.held) (e : p.k = k) : Hd A p := by
 obtain ⟨C, hC, hh⟩ := h.hf p hp
 rw [e, hk] at hC; cases hC; exact hh
theorem WI.stepSame (h : WI W) (hk : W.ars[k]? = some A) {B : AR} {sp' : Sp} (s : St A B W.sp sp') (e2 : B.runs = A.runs) (e3 : ∀ j y, TkA B j y ↔ TkA A j y) (e4 : B.tra = A.tra) : WI (W.put k B sp' W.held) :=
 h.step hk s h.hk (fun p hp e => (h.hd hk hp e).to s.tb e2 (fun j y => (e3 j y).2) fun j y => by unfold InT; rw [e4]) (fun _ _ => Iff.rfl) (fun j y hy => h.ht k A hk j y ((e3 j y).1 hy)) fun r hr => h.hr k A hk r (by rw [← e2]; exact hr)
theorem WI.cls (h : WI W) {p : Pc} (hp : p ∈ W.held) {j : Nat} (e : p.cls = j) (hk : W.ars[p.k]? = some A) : ∃ c, A.tb[j]? = some c /\ p.size = c.size /\ TkA A j (p.addr : Int) /\ (p.moved = true ↔ InT A j (p.addr : Int)) := by
 rcases h.hd hk hp rfl with ⟨h1, _⟩ | ⟨i, c, h1, h2, h3, h4, h5⟩
 ·omega
 ·obtain rfl : i = j := by omega
  exact ⟨c, h2, h3, h4, h5⟩
theorem WI.run (h : WI W) {p : Pc} (hp : p ∈ W.held) (e : p.cls = -1) (hk : W.ars[p.k]? = some A) : p.moved = false /\ ∃ r ∈ A.runs, p.addr = r.1 * 256 /\ p.size = r.2 * 256 := by
 rcases h.hd hk hp rfl with ⟨_, h2⟩ | ⟨i, c, h1, _⟩
 ·exact h2
 ·omega
theorem UA {k : Nat} {cls x : Int} {p : Pc} : isAt k cls x p = true ↔ p.k = k /\ p.cls = cls /\ (p.addr : Int) = x /\ p.moved = false := by
 simp [isAt]
theorem Zl {k : Nat} {cls : Int} {l : List Int} {p : Pc} : isOf k cls l p = true ↔ p.k = k /\ p.cls = cls /\ (p.addr : Int) ∈ l := by
 simp [isOf]
theorem Wch {held : List Pc} {k : Nat} {cls x : Int} {i : Nat} (h : atW held k cls x = some i) : ∃ p, held[i]? = some p /\ isAt k cls x p = true := by
 obtain ⟨hi, hp, _⟩ := List.findIdx?_eq_some_iff_getElem.1 h
 exact ⟨held[i], gGe hi, hp⟩
theorem WiR {held : List Pc} {k : Nat} {cls x : Int} {p : Pc} (hp : p ∈ held) (h : isAt k cls x p = true) : (atW held k cls x).isSome = true := by
 unfold atW
 rw [List.findIdx?_isSome, List.any_eq_true]
 exact ⟨p, hp, h⟩
theorem Ky {held : List Pc} {k : Nat} {cls : Int} {l : List Int} : ownW held k cls l = true ↔ (∀ x ∈ l, ∃ p ∈ held, isAt k cls x p = true) /\ l.Nodup := by
 unfold ownW
 rw [Bool.and_eq_true, List.all_eq_true, decide_eq_true_eq]
 refine and_congr_left fun _ => forall_congr' fun x => imp_congr_right fun hx => ?_
 unfold atW
 rw [List.findIdx?_isSome, List.any_eq_true]
theorem WaJ {held : List Pc} (hn : (held.map Pc.key).Nodup) {i : Nat} {p : Pc} (hi : held[i]? = some p) : held.take i ++ held.drop (i + 1) = held.filter fun q => !(q.key == p.key) := by
 induction held generalizing i with
 | nil => simp at hi
 | cons q l ih =>
  rw [List.map_cons, List.nodup_cons] at hn
  cases i with
  | zero =>
   simp only [List.getElem?_cons_zero, Option.some.injEq] at hi
   subst hi
   have : l.filter (fun r => !(r.key == q.key)) = l := by
    rw [List.filter_eq_self]
    intro r hr
    have : r.key ≠ q.key := fun e => hn.1 (List.mem_map.2 ⟨r, hr, e⟩)
    simpa using this
   simp [this]
  | succ i =>
   have hi : l[i]? = some p := by simpa using hi
   have hne : q.key ≠ p.key := fun e => hn.1 (List.mem_map.2 ⟨p, List.mem_of_getElem? hi, e.symm⟩)
   rw [List.take_succ_cons, List.drop_succ_cons, List.cons_append, ih hn.2 hi, List.filter_cons]
   have : (!(q.key == p.key)) = true := by simpa using hne
   rw [this]; rfl
theorem Kt {held : List Pc} (hn : (held.map Pc.key).Nodup) (f : Pc -> Bool) : ((held.filter f).map Pc.key).Nodup := hn.sublist (List.filter_sublist.map _)
theorem WbV {k : Nat} {cls : Int} : ∀ (l : List Int) {held : List Pc}, (held.map Pc.key).Nodup -> (∀ x ∈ l, ∃ p ∈ held, isAt k cls x p = true) -> l.Nodup -> KN held k cls l = held.filter fun p => !isOf k cls l p
 | [], held, _, _, _ => by
  have : ∀ p, isOf k cls [] p = false := fun p => by simp [isOf]
  exact (List.filter_eq_self.2 fun p _ => by rw [this]; rfl).symm
 | x :: l, held, hn, ho, hl => by
  obtain ⟨p, hp, hx⟩ := ho x (by simp)
  obtain ⟨i, hi⟩ := Option.isSome_iff_exists.1 (WiR hp hx)
  obtain ⟨q, hq, hqx⟩ := Wch hi
  have hl' := List.nodup_cons.1 hl
  have e1 : WaN k cls held x = held.filter fun r => !(r.key == q.key) := by unfold WaN; rw [hi]; exact WaJ hn hq
  obtain ⟨q1, q2, q3, q4⟩ := UA.1 hqx
  have ih := WbV l (held := held.filter fun r => !(r.key == q.key)) (Kt hn _) (fun y hy => by
   obtain ⟨r, hr, hry⟩ := ho y (by simp [hy])
   refine ⟨r, List.mem_filter.2 ⟨hr, ?_⟩, hry⟩
   have : r.key ≠ q.key := fun e => by
    have e3 : r.addr = q.addr := congrArg (fun z : Key => z.2.2) e
    have := (UA.1 hry).2.2.1
    have : y = x := by omega
    subst this; exact hl'.1 hy
   simpa using this) hl'.2
  unfold KN at ih ⊢
  rw [List.foldl_cons, e1, ih, List.filter_filter]
  apply List.filter_congr
  intro r hr
  have e : (r.key == q.key) = (r.k == k && (r.cls == cls && (r.addr : Int) == x)) := by
   rw [Bool.eq_iff_iff]
   simp only [Pc.key, beq_iff_eq, Bool.and_eq_true, Prod.mk.injEq]
   constructor
   ·rintro ⟨a, b, c⟩; exact ⟨by omega, by omega, by omega⟩
   ·rintro ⟨a, b, c⟩; exact ⟨by omega, by omega, by omega⟩
  rw [e]
  unfold isOf
  rw [List.contains_cons]
  cases r.k == k <;> cases r.cls == cls <;> cases ((r.addr : Int) == x) <;> cases l.contains (r.addr : Int) <;> rfl
theorem VP {held : List Pc} {k : Nat} {cls : Int} {l : List Int} {m : Bool} {p : Pc} : p ∈ QI held k cls l m ↔ ∃ q ∈ held, p = if isOf k cls l q then { q with moved := m } else q := by
 unfold QI
 rw [List.mem_map]
 constructor
 ·rintro ⟨q, hq, rfl⟩; exact ⟨q, hq, rfl⟩
 ·rintro ⟨q, hq, rfl⟩; exact ⟨q, hq, rfl⟩
theorem Wdd {held : List Pc} {k : Nat} {cls : Int} {l : List Int} {m : Bool} : (QI held k cls l m).map Pc.key = held.map Pc.key := by
 unfold QI
 rw [List.map_map]
 apply List.map_congr_left
 intro p _
 simp only [Function.comp]
 split <;> rfl
end Go.Ar
namespace Go.Ar


variable {W : Wd} {k : Nat} {A : AR}
theorem UE (hk : W.ars[k]? = some A) (h : WI W) : WI (W.put k A W.sp W.held) := h.stepSame hk (St.refl (h.ga k A hk) (h.ow k A hk)) rfl (fun _ _ => Iff.rfl) rfl
theorem Wd9 (h : GA A) {j : Nat} {c : Cls} {ss : List SpA} (hc : Cl A j c ss) {l : Nat} {s : SpA} {i : Nat} (hs : ss[l]? = some s) (hi : i < c.n) {x : Nat} (h1 : at_ c s i <= x) (h2 : x < at_ c s i + c.size) : Vu A (x : Int) = some ((j : Int), at_ c s i) := by
 have hC := h.cen j c ss hc
 have hp := VY hC.pos hi h1 h2
 have hu := h.used hc (List.mem_of_getElem? hs) hp.1 hp.2
 have hlt := h.pg.lt (p := x / 256) (by rw [hu.1]; omega)
 have hn := h.pg.n2
 have hjl := hc.lt
 have htb := h.tb
 unfold Vu
 rw [if_neg (by omega), iTn]
 simp only
 rw [if_pos (show x / 256 < 1024 by omega), hu.2, if_neg (by omega), if_neg (by omega), Nat.add_sub_cancel, hc.1, hc.2]
 simp only
 rw [(WaG hC).2 ⟨l, s, i, hs, hi, rfl, by omega, by omega⟩]; rfl
theorem WaL (h : GA A) {r : Nat × Nat} (hr : r ∈ A.runs) {x : Nat} (h1 : r.1 * 256 <= x) (h2 : x < (r.1 + r.2) * 256) : Vu A (x : Int) = some (-1, r.1 * 256) := by
 have hu := h.usedR hr (p := x / 256) (by omega) (by omega)
 have hlt := h.pg.lt (p := x / 256) (by rw [hu.1]; omega)
 have hn := h.pg.n2
 unfold Vu
 rw [if_neg (by omega), iTn]
 simp only
 rw [if_pos (show x / 256 < 1024 by omega), hu.2, if_neg (by omega), if_pos rfl, GI h.runsOk hr (by omega) (by omega)]; rfl
theorem WcG (h : GA A) {x : Int} {k : Int} {a : Nat} (hf : Vu A x = some (k, a)) : (k = -1 /\ ∃ r ∈ A.runs, a = r.1 * 256 /\ ((r.1 * 256 : Nat) : Int) <= x /\ x < (((r.1 + r.2) * 256 : Nat) : Int)) ∨
 ∃ (j : Nat) (c : Cls) (ss : List SpA) (l : Nat) (s : SpA) (i : Nat), k = j /\ Cl A j c ss /\ ss[l]? = some s /\ i < c.n /\ a = at_ c s i /\ ((at_ c s i : Nat) : Int) <= x /\ x < ((at_ c s i + c.size : Nat) : Int) := by
 unfold Vu at hf
 split at hf
 ·cases hf
 ·rename_i hx
  obtain ⟨y, rfl⟩ := Int.eq_ofNat_of_zero_le (show 0 <= x by omega)
  rw [iTn] at hf
  simp only at hf
  by_cases hlt : y / 256 < 1024
  ·rw [if_pos hlt] at hf
   split at hf
   ·cases hf
   ·split at hf
    ·rename_i h0 h41
     obtain ⟨r, hr, he⟩ := Option.map_eq_some_iff.1 hf
     have hm := List.mem_of_find?_eq_some hr
     have hp := List.find?_some hr
     simp at hp
     cases he
     exact .inl ⟨rfl, r, hm, rfl, by omega, by omega⟩
    ·rename_i h0 h41
     split at hf
     ·rename_i c ss h1 h2
      obtain ⟨a', ha, he⟩ := Option.map_eq_some_iff.1 hf
      cases he
      have hc : Cl A (A.ow (y / 256) - 1) c ss := ⟨h1, h2⟩
      obtain ⟨l, s, i, hs, hi, rfl, h3, h4⟩ := (WaG (h.cen _ _ _ hc)).1 ha
      exact .inr ⟨_, c, ss, l, s, i, rfl, hc, hs, hi, rfl, h3, h4⟩
     ·cases hf
  ·rw [if_neg hlt, if_pos rfl] at hf; cases hf
theorem TkA.find (h : GA A) {j : Nat} {x : Int} (hx : TkA A j x) : ∃ y : Nat, x = y /\ Vu A x = some ((j : Int), y) := by
 obtain ⟨c, ss, hc, ht⟩ := hx
 have hC := h.cen j c ss hc
 obtain ⟨l, s, i, hs, hi, rfl, hb⟩ := (KX hC).1 ht
 exact ⟨_, rfl, Wd9 h hc hs hi (Nat.le_refl _) (by have := hC.pos; omega)⟩
theorem K1 (h : GA A) {x : Int} : Ub A x = true ↔ (∃ j, TkA A j x) ∨ ∃ r ∈ A.runs, x = ((r.1 * 256 : Nat) : Int) := by
 constructor
 ·intro hx
  unfold Ub at hx
  split at hx
  ·rename_i k a hf
   split at hx
   ·rename_i he
    rcases WcG h hf with ⟨rfl, r, hr, rfl, _⟩ | ⟨j, c, ss, l, s, i, rfl, hc, hs, hi, rfl, _⟩
    ·exact .inr ⟨r, hr, he.symm⟩
    ·rw [if_neg (by omega), iTn, hc.1, hc.2] at hx
     exact .inl ⟨j, c, ss, hc, by simpa [Tk] using hx⟩
   ·cases hx
  ·cases hx
 ·rintro (⟨j, hj⟩ | ⟨r, hr, rfl⟩)
  ·obtain ⟨y, rfl, hf⟩ := hj.find h
   obtain ⟨c, ss, hc, ht⟩ := hj
   unfold Ub
   rw [hf]
   simp only
   rw [if_pos True.intro, if_neg (by omega), iTn, hc.1, hc.2]
   unfold Tk at ht
   show (isTk c ss (y : Int) == some true) = true
   rw [ht]; rfl
  ·unfold Ub
   have := h.rpos r hr
   rw [WaL h hr (Nat.le_refl _) (by omega)]
   simp
theorem WI.own1 (h : WI W) (hk : W.ars[k]? = some A) {cl : Int} {l : List Int} (ho : ownW W.held k cl l = true) {j : Nat} (e : cl = j) : ∀ x ∈ l, ¬ InT A j x := by
 intro x hx hin
 obtain ⟨p, hp, hpx⟩ := (Ky.1 ho).1 x hx
 obtain ⟨p1, p2, p3, p4⟩ := UA.1 hpx
 obtain ⟨c, _, _, _, h5⟩ := h.cls hp (j := j) (by rw [p2, e]) (by rw [p1]; exact hk)
 rw [p3] at h5
 rw [h5.2 hin] at p4; cases p4
theorem WI.grow (h : WI W) (hk : W.ars[k]? = some A) (x : Int) : WI (W.put k (ZX A W.sp x).1 (ZX A W.sp x).2 W.held) := by
 obtain ⟨s, e1, e2, e3, _⟩ := Gn (h.ga k A hk) (h.ow k A hk) x
 exact h.stepSame hk s e1 e3 e2
theorem WI.from (h : WI W) (hk : W.ars[k]? = some A) (cl m : Int) : WI (W.put k (Ye A cl m) W.sp (W.held ++ (YY A cl m).map fun y => ⟨k, cl, y, szOf W.tb cl, false⟩)) := by
 obtain ⟨o, e1, e2, e3, e4, e5⟩ := Gm (h.ga k A hk) cl m
 have tb : (Ye A cl m).tb = A.tb := o.kp.tb
 have newK : ∀ y ∈ YY A cl m, ∃ j : Nat, cl = j /\ j < A.tb.length := fun y hy => e3 (fun e => by rw [e] at hy; simp at hy)
 have hnot : ∀ y ∈ YY A cl m, ∀ p ∈ W.held, ¬ (p.k = k /\ p.cls = cl /\ p.addr = y) := by
  rintro y hy p hp ⟨a1, a2, a3⟩
  obtain ⟨j, rfl, _⟩ := newK y hy
  obtain ⟨c, _, _, ht, _⟩ := h.cls hp a2 (by rw [a1]; exact hk)
  rw [a3] at ht
  exact e4 y hy (by rw [iTn]; exact ht)
 refine h.step hk (o.st (h.ow k A hk)) ?_ (fun p hp e => ?_) (fun p hne => ?_) (fun j y hy => ?_) fun r hr => ?_
 ·rw [List.map_append, List.nodup_append]
  refine ⟨h.hk, ?_, fun a ha b hb e => ?_⟩
  ·rw [List.map_map]
   exact List.Pairwise.map (R := (· ≠ ·)) _ (fun a b hab e => hab (by simpa [Pc.key] using e)) e2
  ·subst e
   obtain ⟨p, hp, rfl⟩ := List.mem_map.1 ha
   obtain ⟨q, hq, e⟩ := List.mem_map.1 hb
   obtain ⟨y, hy, rfl⟩ := List.mem_map.1 hq
   simp only [Pc.key, Prod.mk.injEq] at e
   exact hnot y hy p hp ⟨e.1.symm, e.2.1.symm, e.2.2.symm⟩
 ·rcases List.mem_append.1 hp with hp | hp
  ·exact (h.hd hk hp e).to tb o.runs (fun j y hj => (e5 j y).2 (.inl hj)) fun j y => by unfold InT; rw [e1]
  ·obtain ⟨y, hy, rfl⟩ := List.mem_map.1 hp
   obtain ⟨j, rfl, hj⟩ := newK y hy
   refine .inr ⟨j, A.tb[j], rfl, by rw [tb]; exact gGe hj, ?_, (e5 j y).2 (.inr ⟨(iTn j).symm, y, hy, rfl⟩), ?_⟩
   ·show szOf W.tb (j : Int) = _
    unfold szOf
    rw [iTn, ← h.tb k A hk, gGe hj]; rfl
   ·constructor
    ·intro hx; cases hx
    ·rintro ⟨t, ht, hx⟩
     rw [e1] at ht
     obtain ⟨c, ss, t', hc, ht'⟩ := (h.ga k A hk).cl hj
     rw [ht] at ht'; cases ht'
     exact (e4 y hy (by rw [iTn]; exact (QM hc).2 ((h.ga k A hk).trt j c ss t hc ht _ hx))).elim
 ·rw [List.mem_append]
  constructor
  ·rintro (hp | hp)
   ·exact hp
   ·obtain ⟨y, _, rfl⟩ := List.mem_map.1 hp; exact (hne rfl).elim
  ·exact .inl
 ·rcases (e5 j y).1 hy with hy | ⟨rfl, x, hx, rfl⟩
  ·obtain ⟨p, hp, q⟩ := h.ht k A hk j y hy
   exact ⟨p, List.mem_append_left _ hp, q⟩
  ·obtain ⟨j, rfl, _⟩ := newK x hx
   exact ⟨_, List.mem_append_right _ (List.mem_map.2 ⟨x, hx, rfl⟩), rfl, by simp, rfl⟩
 ·rw [o.runs] at hr
  obtain ⟨p, hp, q⟩ := h.hr k A hk r hr
  exact ⟨p, List.mem_append_left _ hp, q⟩
theorem WI.drp (h : WI W) {cl : Int} {l : List Int} (ho : ownW W.held k cl l = true) : KN W.held k cl l = W.held.filter fun p => !isOf k cl l p :=
 WbV l h.hk (Ky.1 ho).1 (Ky.1 ho).2
theorem WI.toC (h : WI W) (hk : W.ars[k]? = some A) {cl : Int} {l : List Int} (ho : ownW W.held k cl l = true) : WI (W.put k (Yu A cl l) W.sp (if Zr A cl l = 0 then KN W.held k cl l else W.held)) := by
 have ga := h.ga k A hk
 obtain ⟨o, e1, e2, e3⟩ := UF ga (k := cl) (xs := l) fun h0 x hx => by
  obtain ⟨j, c, ss, rfl, _⟩ := VH ga h0
  rw [iTn]; exact h.own1 hk ho rfl x hx
 by_cases h0 : Zr A cl l = 0
 ·rw [if_pos h0, h.drp ho]
  obtain ⟨j, c, ss, rfl, hc, hA⟩ := VH ga h0
  have e2 := e2 h0
  rw [iTn] at e2
  refine h.step hk (o.st (h.ow k A hk)) (Kt h.hk _) (fun p hp e => ?_) (fun p hne => ?_) (fun i y hy => ?_) fun r hr => ?_
  ·have hp' := List.mem_filter.1 hp
   have hno : isOf k (j : Int) l p = false := by simpa using hp'.2
   rcases h.hd hk hp'.1 e with ⟨h1, h2, r, hr, h3⟩ | ⟨i, d, h1, h2, h3, h4, h5⟩
   ·exact .inl ⟨h1, h2, r, by rw [o.runs]; exact hr, h3⟩
   ·refine .inr ⟨i, d, h1, by rw [o.kp.tb]; exact h2, h3, (e2 i _).2 ⟨h4, fun ⟨a, b⟩ => ?_⟩, by unfold InT at h5 ⊢; rw [e1]; exact h5⟩
    have : isOf k (j : Int) l p = true := Zl.2 ⟨e, by rw [h1, a], b⟩
    rw [hno] at this; cases this
  ·rw [List.mem_filter]
   have : isOf k (j : Int) l p = false := by
    apply Bool.eq_false_iff.2; intro hx; exact hne (Zl.1 hx).1
   rw [this]; simp
  ·obtain ⟨hy1, hy2⟩ := (e2 i y).1 hy
   obtain ⟨p, hp, a1, a2, a3⟩ := h.ht k A hk i y hy1
   refine ⟨p, List.mem_filter.2 ⟨hp, ?_⟩, a1, a2, a3⟩
   have : isOf k (j : Int) l p = false := by
    apply Bool.eq_false_iff.2; intro hx
    obtain ⟨_, b2, b3⟩ := Zl.1 hx
    exact hy2 ⟨by omega, by rw [← a3]; exact b3⟩
   rw [this]; rfl
  ·rw [o.runs] at hr
   obtain ⟨p, hp, a1, a2, a3⟩ := h.hr k A hk r hr
   refine ⟨p, List.mem_filter.2 ⟨hp, ?_⟩, a1, a2, a3⟩
   have : isOf k (j : Int) l p = false := by
    apply Bool.eq_false_iff.2; intro hx
    have := (Zl.1 hx).2.1; omega
   rw [this]; rfl
 ·rw [if_neg h0, e3 h0]; exact UE hk h
theorem WI.move (h : WI W) (hk : W.ars[k]? = some A) {B : AR} {j : Nat} {l : List Int} {m : Bool} (o : Ob A B) (e1 : ∀ i y, TkA B i y ↔ TkA A i y) (e2 : ∀ i y, InT B i y ↔ if i = j /\ y ∈ l then m = true else InT A i y) : WI (W.put k B W.sp (QI W.held k (j : Int) l m)) := by
 refine h.step hk (o.st (h.ow k A hk)) (by rw [Wdd]; exact h.hk) (fun p hp e => ?_) (fun p hne => ?_) (fun i y hy => ?_) fun r hr => ?_
 ·obtain ⟨q, hq, rfl⟩ := VP.1 hp
  have hqk : q.k = k := by
   split at e <;> exact e
  rcases h.hd hk hq hqk with ⟨h1, h2, r, hr, h3⟩ | ⟨i, c, h1, h2, h3, h4, h5⟩
  ·have : isOf k (j : Int) l q = false := by
    apply Bool.eq_false_iff.2; intro hx
    have := (Zl.1 hx).2.1; omega
   rw [this]
   exact .inl ⟨h1, h2, r, by rw [o.runs]; exact hr, h3⟩
  ·by_cases hx : isOf k (j : Int) l q = true
   ·rw [if_pos hx]
    obtain ⟨_, b2, b3⟩ := Zl.1 hx
    have hij : i = j := by omega
    refine .inr ⟨i, c, h1, by rw [o.kp.tb]; exact h2, h3, (e1 _ _).2 h4, ?_⟩
    show m = true ↔ InT B i (q.addr : Int)
    rw [e2, if_pos ⟨hij, b3⟩]
   ·rw [if_neg hx]
    refine .inr ⟨i, c, h1, by rw [o.kp.tb]; exact h2, h3, (e1 _ _).2 h4, ?_⟩
    rw [e2, if_neg fun hy => hx (Zl.2 ⟨hqk, by rw [h1, hy.1], hy.2⟩)]
    exact h5
 ·rw [VP]
  constructor
  ·rintro ⟨q, hq, rfl⟩
   have : isOf k (j : Int) l q = false := by
    apply Bool.eq_false_iff.2; intro hx
    rw [if_pos hx] at hne
    exact hne (Zl.1 hx).1
   rw [this]; exact hq
  ·intro hp
   refine ⟨p, hp, ?_⟩
   have : isOf k (j : Int) l p = false := by
    apply Bool.eq_false_iff.2; intro hx; exact hne (Zl.1 hx).1
   rw [this]; rfl
 ·obtain ⟨p, hp, a1, a2, a3⟩ := h.ht k A hk i y ((e1 i y).1 hy)
  refine ⟨_, VP.2 ⟨p, hp, rfl⟩, ?_, ?_, ?_⟩
  ·split <;> exact a1
  ·split <;> exact a2
  ·split <;> exact a3
 ·rw [o.runs] at hr
  obtain ⟨p, hp, a1, a2, a3⟩ := h.hr k A hk r hr
  refine ⟨_, VP.2 ⟨p, hp, rfl⟩, ?_, ?_, ?_⟩
  ·split <;> exact a1
  ·split <;> exact a2
  ·split <;> exact a3
theorem Wdl {held : List Pc} {k : Nat} {cls : Int} {m : Bool} : QI held k cls [] m = held := by
 unfold QI
 have : ∀ p, isOf k cls [] p = false := fun p => by simp [isOf]
 simp [this]
theorem WI.fromT (h : WI W) (hk : W.ars[k]? = some A) (cl : Int) : WI (W.put k (Y7 A cl) W.sp (QI W.held k cl (Y8 A cl) false)) := by
 obtain ⟨o, e1, e2, e3, e4, e5⟩ := WaU (h.ga k A hk) cl
 by_cases hv : Y8 A cl = []
 ·rw [hv, Wdl]
  have e6 : ∀ j y, InT (Y7 A cl) j y ↔ InT A j y := fun j y => by rw [e5, hv]; simp
  refine h.step hk (o.st (h.ow k A hk)) h.hk (fun p hp e => (h.hd hk hp e).to o.kp.tb o.runs (fun j y => (e1 j y).2) e6) (fun _ _ => Iff.rfl) (fun j y hy => h.ht k A hk j y ((e1 j y).1 hy)) fun r hr => h.hr k A hk r (by rw [← o.runs]; exact hr)
 ·obtain ⟨j, rfl, _⟩ := e4 hv
  rw [iTn] at e5
  exact h.move hk o e1 fun i y => by
   rw [e5]
   split
   ·rename_i hx; simp [hx]
   ·rename_i hx; simp [hx]
theorem WI.toT (h : WI W) (hk : W.ars[k]? = some A) {cl : Int} {l : List Int} (ho : ownW W.held k cl l = true) : WI (W.put k (Qu A cl l) W.sp (if KJ A cl l then QI W.held k cl l true else W.held)) := by
 by_cases hv : KJ A cl l = true
 ·have hck : ∃ j : Nat, cl = j := by
   have hE : VM A cl l = 0 := by
    unfold KJ at hv
    simp only [Bool.and_eq_true, decide_eq_true_eq] at hv
    exact hv.1
   have hck : A.ck cl = true := by
    unfold VM at hE
    split at hE
    ·assumption
    ·cases hE
   obtain ⟨j, hj, _⟩ := Hf.1 hck
   exact ⟨j, hj⟩
  obtain ⟨j, rfl⟩ := hck
  obtain ⟨o, e1, e2, _⟩ := Whb (h.ga k A hk) (j : Int) (xs := l) (Ky.1 ho).2 (by rw [iTn]; exact h.own1 hk ho rfl)
  obtain ⟨_, _, e2⟩ := e2 hv
  rw [iTn] at e2
  rw [hv, if_pos rfl]
  exact h.move hk o e1 fun i y => by
   rw [e2]
   split
   ·rename_i hx; simp [hx]
   ·rename_i hx; simp [hx]
 ·have hv : KJ A cl l = false := by simpa using hv
  have e : Qu A cl l = A := by unfold Qu; rw [hv]; rfl
  rw [hv, e]; exact UE hk h
theorem WI.takeP (h : WI W) (hk : W.ars[k]? = some A) (m a : Int) : WI (W.put k (Yt A W.sp m a).1 (Yt A W.sp m a).2 (if ZT A W.sp m a = 0 then W.held ++ [⟨k, -1, QF A W.sp m a * 256, m.toNat * 256, false⟩] else W.held)) := by
 rcases Q1 (h.ga k A hk) (h.ow k A hk) m a with ⟨e, hE, _⟩ | ⟨x, A1, sp1, hp, hE, hV, e, htk, hor, s, et, ek⟩
 ·rw [if_neg hE, e]; exact UE hk h
 ·rw [if_pos hE, hV]
  have eR : (Yt A W.sp m a).1.runs = A.runs ++ [(x, m.toNat)] := by rw [e]
  have hnew : ∀ r ∈ A.runs, r.1 ≠ x := by
   have hd := s.ga.rdis
   rw [eR] at hd
   intro r hr e2
   have h1 := (List.pairwise_append.1 hd).2.2 r hr (x, m.toNat) (by simp)
   have h2 := (h.ga k A hk).rpos r hr
   have h3 := s.ga.rpos (x, m.toNat) (by rw [eR]; simp)
   simp only at h1 h3
   omega
  refine h.step hk s ?_ (fun p hp e => ?_) (fun p hne => ?_) (fun j y hy => ?_) fun r hr => ?_
  ·rw [List.map_append, List.nodup_append]
   refine ⟨h.hk, by simp, fun b hb d hd e2 => ?_⟩
   subst e2
   obtain ⟨p, hp, rfl⟩ := List.mem_map.1 hb
   simp only [List.map_cons, List.map_nil, List.mem_singleton, Pc.key, Prod.mk.injEq] at hd
   obtain ⟨_, r, hr, h3, _⟩ := h.run hp hd.2.1 (A := A) (by rw [hd.1]; exact hk)
   exact hnew r hr (by omega)
  ·rcases List.mem_append.1 hp with hp | hp
   ·rcases h.hd hk hp e with ⟨h1, h2, r, hr, h3⟩ | ⟨j, c, h1, h2, h3, h4, h5⟩
    ·exact .inl ⟨h1, h2, r, by rw [eR]; exact List.mem_append_left _ hr, h3⟩
    ·exact .inr ⟨j, c, h1, by rw [s.tb]; exact h2, h3, (ek _ _).2 h4, by unfold InT at h5 ⊢; rw [et]; exact h5⟩
   ·simp only [List.mem_singleton] at hp
    subst hp
    exact .inl ⟨rfl, rfl, (x, m.toNat), by rw [eR]; simp, rfl, rfl⟩
  ·rw [List.mem_append]
   constructor
   ·rintro (hp | hp)
    ·exact hp
    ·simp only [List.mem_singleton] at hp; subst hp; exact (hne rfl).elim
   ·exact .inl
  ·obtain ⟨p, hp, q⟩ := h.ht k A hk j y ((ek j y).1 hy)
   exact ⟨p, List.mem_append_left _ hp, q⟩
  ·rw [eR] at hr
   rcases List.mem_append.1 hr with hr | hr
   ·obtain ⟨p, hp, q⟩ := h.hr k A hk r hr
    exact ⟨p, List.mem_append_left _ hp, q⟩
   ·simp only [List.mem_singleton] at hr; subst hr
    exact ⟨_, List.mem_append_right _ (List.mem_singleton.2 rfl), rfl, rfl, rfl⟩
theorem WI.giveOwn (h : WI W) (hk : W.ars[k]? = some A) {r : Nat × Nat} (hr : r ∈ A.runs) : ownW W.held k (-1) [(r.1 : Int) * 256] = true := by
 refine Ky.2 ⟨fun x hx => ?_, by simp⟩
 simp only [List.mem_singleton] at hx; subst hx
 obtain ⟨p, hp, a1, a2, a3⟩ := h.hr k A hk r hr
 exact ⟨p, hp, UA.2 ⟨a1, a2, by omega, (h.run hp a2 (by rw [a1]; exact hk)).1⟩⟩
theorem WI.giveP (h : WI W) (hk : W.ars[k]? = some A) (x : Int) : WI (W.put k (ZO A x) W.sp (if ZS A x = 0 then KN W.held k (-1) [x * 256] else W.held)) := by
 have ga := h.ga k A hk
 obtain ⟨⟨kp, g⟩, et, ek, e1, e2⟩ := Wam ga x
 by_cases h0 : ZS A x = 0
 ·rw [if_pos h0]
  obtain ⟨r, hr, rfl, eR⟩ := e2 h0
  rw [h.drp (h.giveOwn hk hr)]
  have hof : ∀ p : Pc, isOf k (-1) [(r.1 : Int) * 256] p = true ↔ p.k = k /\ p.cls = -1 /\ p.addr = r.1 * 256 := fun p => by
   rw [Zl]; simp only [List.mem_singleton]
   constructor
   ·rintro ⟨a, b, c⟩; exact ⟨a, b, by omega⟩
   ·rintro ⟨a, b, c⟩; exact ⟨a, b, by omega⟩
  refine h.step hk (St.kp g (h.ow k A hk) kp) (Kt h.hk _) (fun p hp e => ?_) (fun p hne => ?_) (fun i y hy => ?_) fun q hq => ?_
  ·have hp' := List.mem_filter.1 hp
   have hno : ¬ isOf k (-1) [(r.1 : Int) * 256] p = true := by simpa using hp'.2
   rw [hof] at hno
   rcases h.hd hk hp'.1 e with ⟨h1, h2, q, hq, h3⟩ | ⟨j, c, h1, h2, h3, h4, h5⟩
   ·refine .inl ⟨h1, h2, q, ?_, h3⟩
    rw [eR, List.mem_filter]
    refine ⟨hq, ?_⟩
    have : q ≠ r := by rintro rfl; exact hno ⟨e, h1, h3.1⟩
    simpa using this
   ·exact .inr ⟨j, c, h1, by rw [kp.tb]; exact h2, h3, (ek _ _).2 h4, by unfold InT at h5 ⊢; rw [et]; exact h5⟩
  ·rw [List.mem_filter]
   have : isOf k (-1) [(r.1 : Int) * 256] p = false := by
    apply Bool.eq_false_iff.2; intro hx; exact hne (Zl.1 hx).1
   rw [this]; simp
  ·obtain ⟨p, hp, a1, a2, a3⟩ := h.ht k A hk i y ((ek i y).1 hy)
   refine ⟨p, List.mem_filter.2 ⟨hp, ?_⟩, a1, a2, a3⟩
   have : isOf k (-1) [(r.1 : Int) * 256] p = false := by
    apply Bool.eq_false_iff.2; intro hx
    have := ((hof p).1 hx).2.1; omega
   rw [this]; rfl
  ·rw [eR, List.mem_filter] at hq
   obtain ⟨p, hp, a1, a2, a3⟩ := h.hr k A hk q hq.1
   refine ⟨p, List.mem_filter.2 ⟨hp, ?_⟩, a1, a2, a3⟩
   have : isOf k (-1) [(r.1 : Int) * 256] p = false := by
    apply Bool.eq_false_iff.2; intro hx
    have h3 := ((hof p).1 hx).2.2
    have h4 := ga.rpos q hq.1
    have h5 := ga.rpos r hr
    have : q = r := ga.runs_uniq hq.1 hr (x := q.1) (by omega) (by omega) (by omega) (by omega)
    subst this
    simp at hq
   rw [this]; rfl
 ·rw [if_neg h0, e1 h0]; exact UE hk h
theorem WI.tick (h : WI W) (hk : W.ars[k]? = some A) : WI (W.put k (QB A) W.sp (Ux (W.ars.set k (QB A)) W.held)) := by
 have ga := h.ga k A hk
 have t := GL ga
 have hkl := (gSi.1 hk).1
 have self : (W.ars.set k (QB A))[k]? = some (QB A) := List.getElem?_set_self hkl
 have keep : ∀ p ∈ W.held, p ∈ Ux (W.ars.set k (QB A)) W.held ↔ (p.k = k -> ∀ j : Nat, p.cls = j -> TkA (QB A) j (p.addr : Int)) := by
  intro p hp
  unfold Ux
  rw [List.mem_filter]
  simp only [hp, true_and, Bool.or_eq_true, Bool.not_eq_true']
  by_cases hpk : p.k = k
  ·rw [hpk, self]
   simp only [true_implies]
   rcases h.hd hk hp hpk with ⟨h1, h2, r, hr, h3⟩ | ⟨j, c, h1, h2, h3, h4, h5⟩
   ·exact ⟨fun _ j hj => by omega, fun _ => .inl h2⟩
   ·constructor
    ·intro hx i hi
     obtain rfl : i = j := by omega
     rcases hx with hx | hx
     ·refine (t.tk i _).2 ⟨h4, fun hin => ?_⟩
      rw [h5.2 hin] at hx; cases hx
     ·rcases (K1 t.ob.ga).1 hx with ⟨j', hj'⟩ | ⟨r, hr, e⟩
      ·obtain ⟨y, e, hf⟩ := ((t.tk j' _).1 hj').1.find ga
       obtain ⟨y', e', hf'⟩ := h4.find ga
       rw [hf] at hf'
       have : j' = i := by
        have := congrArg Prod.fst (Option.some.inj hf'); simp only at this; omega
       rw [← this]; exact hj'
      ·rw [t.ob.runs] at hr
       have := ga.rpos r hr
       have h6 := WaL ga hr (x := r.1 * 256) (Nat.le_refl _) (by omega)
       obtain ⟨y', e', hf'⟩ := h4.find ga
       rw [e, h6] at hf'
       have := congrArg Prod.fst (Option.some.inj hf'); simp only at this; omega
    ·intro hx
     by_cases hm : p.moved = true
     ·exact .inr ((K1 t.ob.ga).2 (.inl ⟨j, hx j h1⟩))
     ·exact .inl (by simpa using hm)
  ·constructor
   ·intro _ hx; exact (hpk hx).elim
   ·intro _
    obtain ⟨C, hC, hh⟩ := h.hf p hp
    rw [List.getElem?_set_ne (Ne.symm hpk), hC]
    rcases hh with ⟨h1, h2, _⟩ | ⟨j, c, _, _, _, h4, _⟩
    ·exact .inl h2
    ·exact .inr ((K1 (h.ga _ C hC)).2 (.inl ⟨j, h4⟩))
 have sub : ∀ p, p ∈ Ux (W.ars.set k (QB A)) W.held -> p ∈ W.held := fun p hp => (List.mem_filter.1 hp).1
 refine h.step hk (t.ob.st (h.ow k A hk)) (Kt h.hk _) (fun p hp e => ?_) (fun p hne => ⟨sub p, fun hp => (keep p hp).2 fun e => (hne e).elim⟩) (fun j y hy => ?_) fun r hr => ?_
 ·have hk2 := (keep p (sub p hp)).1 hp e
  rcases h.hd hk (sub p hp) e with ⟨h1, h2, r, hr, h3⟩ | ⟨j, c, h1, h2, h3, h4, h5⟩
  ·exact .inl ⟨h1, h2, r, by rw [t.ob.runs]; exact hr, h3⟩
  ·have hj := hk2 j h1
   refine .inr ⟨j, c, h1, by rw [t.ob.kp.tb]; exact h2, h3, hj, ?_⟩
   rw [h5]
   exact ⟨((t.tk j _).1 hj).2, t.sub j _⟩
 ·obtain ⟨p, hp, a1, a2, a3⟩ := h.ht k A hk j y ((t.tk j y).1 hy).1
  refine ⟨p, (keep p hp).2 fun _ i hi => ?_, a1, a2, a3⟩
  obtain rfl : i = j := by omega
  rw [a3]; exact hy
 ·rw [t.ob.runs] at hr
  obtain ⟨p, hp, a1, a2, a3⟩ := h.hr k A hk r hr
  exact ⟨p, (keep p hp).2 fun _ i hi => by omega, a1, a2, a3⟩
theorem WI.page (h : WI W) {p : Pc} (hp : p ∈ W.held) (hk : W.ars[p.k]? = some A) {x : Nat} (h1 : p.addr <= x) (h2 : x < p.addr + p.size) : A.f (x / 256) = 1 := by
 have ga := h.ga _ A hk
 rcases h.hd hk hp rfl with ⟨_, _, r, hr, e1, e2⟩ | ⟨j, c, _, hc, e1, ht, _⟩
 ·exact (ga.usedR hr (by omega) (by omega)).1
 ·obtain ⟨c', ss, hcl, htk⟩ := ht
  have : c' = c := Option.some.inj (hcl.1.symm.trans hc)
  subst this
  have hC := ga.cen j c' ss hcl
  obtain ⟨l, s, i, hs, hi, e, _⟩ := (KX hC).1 htk
  have e' : p.addr = at_ c' s i := Int.ofNat.inj e
  have := VY hC.pos hi (s := s) (x := x) (by omega) (by omega)
  exact (ga.used hcl (List.mem_of_getElem? hs) this.1 this.2).1
theorem WI.write (h : WI W) {x v : Int} (hi : Qc W.held x = true) : WI { W with sp := QA W.sp x v } := by
 unfold Qc at hi
 rw [List.any_eq_true] at hi
 obtain ⟨p, hp, hx⟩ := hi
 simp only [Bool.and_eq_true, decide_eq_true_eq] at hx
 obtain ⟨y, rfl⟩ := Int.eq_ofNat_of_zero_le (show 0 <= x by omega)
 obtain ⟨A, hk, _⟩ := h.hf p hp
 have h1 := h.page hp hk (x := y) (by omega) (by omega)
 have hm := (h.ow _ A hk).own (y / 256) (by omega)
 by_cases hacc : accE W.sp (y : Int) = 0
 ·have e : (QA W.sp (y : Int) v).st = W.sp.st.set (y / 256) 2 := by
   unfold QA; rw [if_pos hacc]
   show W.sp.st.set (_ / 32) 2 = _
   rw [iTn, show y / 8 / 32 = y / 256 by omega]
  have hlt := WhG hm
  have eg : ∀ q, gf (QA W.sp (y : Int) v).st q = if q = y / 256 then 2 else gf W.sp.st q := fun q => by
   rw [e]; unfold gf
   simp only [List.getD_eq_getElem?_getD]
   by_cases hq : q = y / 256
   ·subst hq; rw [List.getElem?_set_self hlt, if_pos rfl]; rfl
   ·rw [List.getElem?_set_ne (Ne.symm hq), if_neg hq]
  have hz : ∀ q, gf (QA W.sp (y : Int) v).st q ≠ 0 ↔ gf W.sp.st q ≠ 0 := fun q => by
   rw [eg]; split
   ·rename_i hq; subst hq; simp [hm]
   ·exact Iff.rfl
  refine ⟨h.ga, fun j C hC => ?_, h.tb, h.low, fun q hq => h.own q ((hz q).1 hq), h.one, h.hk, h.hf, h.ht, h.hr⟩
  have o := h.ow j C hC
  refine ⟨by show (QA W.sp (y : Int) v).st.length = _; rw [e, List.length_set]; exact o.l, fun q hq => (hz q).2 (o.own q hq), fun q hq => ?_, fun q => ?_⟩
  ·show gf (QA W.sp (y : Int) v).st q = 1
   rw [eg, if_neg]
   ·exact o.cl q hq
   ·rintro rfl
    have hj : j = p.k := h.one (y / 256) j p.k C A hC hk (by omega) (by omega)
    subst hj
    rw [hk] at hC; cases hC
    omega
  ·show gf (QA W.sp (y : Int) v).st q <= 2
   rw [eg]; have := o.le q; split <;> omega
 ·have e : QA W.sp (y : Int) v = W.sp := by unfold QA; rw [if_neg hacc]
  rw [e]; exact h
theorem WhJ (h : WI W) (hk : W.ars[k]? = some A) (x : Act) : WI (actW W k A x).1 := by
 unfold actW
 by_cases h0 : x.kd = 0
 ·rw [if_pos h0]
  exact h.grow hk _
 rw [if_neg h0]
 by_cases h1 : x.kd = 1
 ·rw [if_pos h1]
  exact h.from hk _ _
 rw [if_neg h1]
 by_cases h2 : x.kd = 2
 ·rw [if_pos h2]
  by_cases ho : ownW W.held k x.cl x.l = true
  ·rw [if_pos ho]; exact h.toC hk ho
  ·rw [if_neg ho]; exact h
 rw [if_neg h2]
 by_cases h3 : x.kd = 3
 ·rw [if_pos h3]
  exact h.fromT hk _
 rw [if_neg h3]
 by_cases h4 : x.kd = 4
 ·rw [if_pos h4]
  by_cases ho : ownW W.held k x.cl x.l = true
  ·rw [if_pos ho]; exact h.toT hk ho
  ·rw [if_neg ho]; exact h
 rw [if_neg h4]
 by_cases h5 : x.kd = 5
 ·rw [if_pos h5]
  exact h.takeP hk _ _
 rw [if_neg h5]
 by_cases h6 : x.kd = 6
 ·rw [if_pos h6]
  exact h.giveP hk _
 rw [if_neg h6]
 by_cases h7 : x.kd = 7
 ·rw [if_pos h7]
  exact h
 rw [if_neg h7]
 by_cases h10 : x.kd = 10
 ·rw [if_pos h10]
  obtain ⟨s, e1, e2, e3⟩ := G4 (h.ga k A hk) (h.ow k A hk) x.a
  exact h.stepSame hk s e1 e3 e2
 rw [if_neg h10]
 by_cases h11 : x.kd = 11
 ·rw [if_pos h11]
  have t := UM (h.ga k A hk) (h.ow k A hk)
  exact h.stepSame hk t.st t.runs (fun j y => by unfold TkA Cl; rw [t.cen, t.st.tb]) t.tra
 rw [if_neg h11]
 by_cases h12 : x.kd = 12
 ·rw [if_pos h12]
  exact h.tick hk
 rw [if_neg h12]
 by_cases h13 : x.kd = 13
 ·rw [if_pos h13]
  by_cases hi : Qc W.held x.a = true
  ·rw [if_pos hi]; exact h.write hi
  ·rw [if_neg hi]; exact h
 rw [if_neg h13]
 exact h
theorem Wb4 (h : WI W) (x : Act) : WI (doW W x).1 := by
 unfold doW
 split
 ·rename_i A hA; exact WhJ h hA x
 ·exact h
end Go.Ar
namespace Go.Ar
open Go.Bu (XA Zg Xj cnt)


def al0 : AR × Sp := (newA 64 2 [⟨256, 1, 2⟩], Kl 64)
def al1 : AR × Sp := ZX al0.1 al0.2 0
def al2 : AR × Sp := (Ye al1.1 0 3, al1.2)
def al3 : AR × Sp := Yt al2.1 al2.2 20 1
def al4 : AR × Sp := (ZO al3.1 32, al3.2)
def al5 : AR × Sp := Vh al4.1 al4.2
def al6 : AR × Sp := (Yu al5.1 0 [4096], al5.2)
theorem Wi1 : KT al0.1 al0.2 0 = 0 := by decide +kernel
theorem Wim : Zm al1.1 0 3 = 0 /\ YY al1.1 0 3 = [4096] := by decide +kernel
theorem WbA : Wcv al2.1 = 0 /\ Wgv al2.1 = 0 /\ WbN al2.1 = 0 /\ U6 al2.1 = 1 /\ Vr al2.1 = 0 /\ cnt al2.1.n al2.1.S = 15 := by decide +kernel
theorem WiG : ZT al2.1 al2.2 20 1 = 0 /\ QF al2.1 al2.2 20 1 = 32 := by decide +kernel
theorem WiS : ZS al3.1 32 = 0 /\ (∀ r ∈ al3.1.runs, r.1 <= 1000000) := by decide +kernel
theorem Wi6 : WhN al4.1 = 2 := by decide +kernel
theorem Wi8 : Zr al5.1 0 [4096] = 0 := by decide +kernel
theorem Wi0 : WhN al6.1 = 1 /\ Uz (Vh al6.1 al6.2).1 16 = false := by decide +kernel
end Go.Ar
namespace Go.Proofs
open Go.Vc

set_option maxRecDepth 100000
def Xp.hint : Hn := .q (.o 1) (.q (.q (.o 1) (.k (.loop [(3, .one (.i .i64))] (.q (.q (.o 4) (.c (.l) (.l))) (.q (.k (.q (.o 7) (.c (.q (.o 1) (.l)) (.l)))) (.o 3)))))) (.q (.o 4) (.l)))
def Xp.vc (l : Sl) (U : Hp) (R : Bool -> Hp -> Prop) : Prop :=
 Xe [(.i .i64)] (fun I => I 0 U) fun J (i : Int) v =>
 If (decide (i < ((l.len : Nat) : Int))) (Ix l.a l.len i 6 fun a12 =>
 LdS (a12.add 5) v fun t14 =>
 If (decide (((t14.len : Nat) : Int) > 40)) (R true v)
 (Ar .i64 (i + 1) fun i1 =>
 J i1 v))
 (R (decide (((l.len : Nat) : Int) > 40)) v)
theorem Xp.of_vc {l U R} (hv : Xp.vc l U R) : Xp.call l U R :=
 Wa Tryz.func14 (x := Xp.hint) (Eq.mpr (by kernel_rfl) hv)
def WT.hint : Hn := .q (.o 1) (.q (.o 6) (.q (.o 9) (.q (.q (.reg (.seq [.op, .op, .op, .grd false 2 [.op, .op]])) (.c (.q (.o 1) (.l)) (.l))) (.q (.o 3) (.q (.o 7) (.q (.o 15) (.q (.o 7) (.q (.o 3) (.q (.o 3) (.q (.o 4) (.q (.o 3) (.q (.reg (.seq [.op, .op, .op, .grd true 3 [.op, .op, .op], .op, .grd true 2 [.op, .op], .op, .grd true 2 [.op, .op], .op, .grd true 2 [.op, .op], .op, .grd true 2 [.op, .op], .op, .grd true 2 [.op, .op], .op, .grd true 2 [.op, .op], .op, .grd true 2 [.op, .op], .op, .grd true 2 [.op, .op], .op, .grd true 2 [.op, .op], .op, .grd true 2 [.op, .op], .op, .grd true 2 [.op, .op], .op, .grd true 2 [.op, .op], .op, .grd true 2 [.op, .op], .op, .grd true 3 [.op, .op, .op], .op])) (.l)))))))))))))
def WT.vc (U : Hp) (R : Bool -> Hp -> Prop) : Prop :=
 ZP.call 64 U fun t21 t211 v =>
 Nw (.cells #[.int .i64 256, .int .i64 1, .int .i64 2] 51 (0, 0)) v fun n26 v1 =>
 ZQ.call ⟨(some n26), 1, 1⟩ t21 2 v1 fun t28 t281 v2 =>
 JnB (fun r v3 =>
 If r (R false v3)
 (XJ.call t28 0 v3 fun b v4 =>
 Wy.call t28 0 3 v4 fun t41 t411 v5 =>
 Xi.call t28 v5 fun t46 t461 t462 t463 t464 t465 v6 =>
 W0.call t28 20 1 v6 fun t55 t551 v7 =>
 WZ.call t28 32 v7 fun c v8 =>
 XN.call t28 v8 fun t v9 =>
 Nw (.cells #[.int .i64 4096] 3 (0, 0)) v9 fun n63 v10 =>
 WD.call t28 0 ⟨(some n63), 1, 1⟩ v10 fun d v11 =>
 XN.call t28 v11 fun u v12 =>
 JnB (fun r1 v13 =>
 JnB (fun r2 v14 =>
 JnB (fun r3 v15 =>
 JnB (fun r4 v16 =>
 JnB (fun r5 v17 =>
 JnB (fun r6 v18 =>
 JnB (fun r7 v19 =>
 JnB (fun r8 v20 =>
 JnB (fun r9 v21 =>
 JnB (fun r10 v22 =>
 JnB (fun r11 v23 =>
 JnB (fun r12 v24 =>
 JnB (fun r13 v25 =>
 JnB (fun r14 v26 =>
 JnB (fun r15 v27 =>
 R r15 v27) fun J15 =>
 If r14 (Xh.call t28 16 v26 fun t128 v28 =>
 J15 (!t128) v28)
 (J15 false v26)) fun J14 =>
 If r13 (J14 (u == 1) v25)
 (J14 false v25)) fun J13 =>
 If r12 (J13 (d == 0) v24)
 (J13 false v24)) fun J12 =>
 If r11 (J12 (t == 2) v23)
 (J12 false v23)) fun J11 =>
 If r10 (J11 (c == 0) v22)
 (J11 false v22)) fun J10 =>
 If r9 (J10 (t551 == 0) v21)
 (J10 false v21)) fun J9 =>
 If r8 (J9 (t55 == 32) v20)
 (J9 false v20)) fun J8 =>
 If r7 (J8 (t465 == 15) v19)
 (J8 false v19)) fun J7 =>
 If r6 (J7 (t464 == 0) v18)
 (J7 false v18)) fun J6 =>
 If r5 (J6 (t463 == 1) v17)
 (J6 false v17)) fun J5 =>
 If r4 (J5 (t462 == 0) v16)
 (J5 false v16)) fun J4 =>
 If r3 (J4 (t461 == 0) v15)
 (J4 false v15)) fun J3 =>
 If r2 (J3 (t46 == 0) v14)
 (J3 false v14)) fun J2 =>
 If r1 (J2 (t411 == 0) v13)
 (J2 false v13)) fun J1 =>
 If (b == 0) (Nw (.cells #[.int .i64 4096] 3 (0, 0)) v12 fun n71 v29 =>
 WQ.call t41 ⟨(some n71), 1, 1⟩ v29 fun t72 v30 =>
 J1 t72 v30)
 (J1 false v12))) fun J =>
 If (t281 != 0) (J true v2)
 (J t28.isNone v2)
theorem WT.of_vc {U R} (hv : WT.vc U R) : WT.call U R :=
 Wa Tryz.func15 (x := WT.hint) (Eq.mpr (by kernel_rfl) hv)
def Xk.hint : Hn := .q (.o 2) (.q (.q (.o 3) (.c (.q (.o 2) (.l)) (.l))) (.q (.o 11) (.q (.q (.o 2) (.c (.q (.o 2) (.l)) (.l))) (.q (.o 5) (.q (.q (.o 1) (.k (.loop [(15, .one (.i .i64))] (.q (.q (.o 4) (.c (.l) (.l))) (.q (.k (.q (.o 11) (.q (.q (.o 2) (.c (.q (.o 2) (.l)) (.l))) (.o 11)))) (.o 3)))))) (.q (.q (.o 1) (.k (.loop [(18, .one (.i .i64))] (.q (.q (.o 4) (.c (.l) (.l))) (.q (.k (.o 6)) (.o 3)))))) (.q (.o 3) (.l))))))))
def Xk.vc (table : Sl) (pages : Int) (many : Int) (room : Int) (l : Sl) (U : Hp) (R : Option Addr -> Bool -> Hp -> Prop) : Prop :=
 If (decide (((table.len : Nat) : Int) > 100)) (R none false U)
 (Ar .i64 pages fun t24 =>
 Nz 12 <|
 Ar .i64 ((t24.tmod 12) + 2) fun t26 =>
 Ar .i64 (16 * t26) fun t27 =>
 ZP.call t27 U fun t28 t281 v =>
 If (t281 != 0) (R none false v)
 (Nw (.cells #[.pointer t28, .slice none 0 0, .slice table.a table.len table.cap, .slice none 0 0] 34 (0, 0)) v fun n36 v1 =>
 Xe [(.i .i64)] (fun I => I 0 v1) fun J (i : Int) v2 =>
 XW.call many v2 fun t39 v3 =>
 If (decide (i < t39)) (Ar .i64 room fun t47 =>
 Nz 9 <|
 ZQ.call table t28 (t47.tmod 9) v3 fun t49 t491 v4 =>
 If (t491 != 0) (R none false v4)
 (NilP (some n36) fun a56 =>
 LdS (a56.add 1) v4 fun t58 =>
 Nw (.cells #[.pointer t49] 36 (0, 0)) v4 fun n60 v5 =>
 App t58 1 8 36 [.pointer none] ⟨(some n60), 1, 1⟩ v5 fun t61 v6 =>
 NilP (some n36) fun a62 =>
 St1 (a62.add 1) (.slice t61.a t61.len t61.cap) v6 fun v7 =>
 Ar .i64 (i + 1) fun i1 =>
 J i1 v7))
 (Xe [(.i .i64)] (fun I1 => I1 0 v3) fun J1 (i2 : Int) v8 =>
 If (decide (i2 < ((l.len : Nat) : Int))) (Ix l.a l.len i2 6 fun a73 =>
 LdI .i64 (a73.add 0) v8 fun t74 =>
 LdI .i64 (a73.add 1) v8 fun t741 =>
 LdI .i64 (a73.add 2) v8 fun t742 =>
 LdI .i64 (a73.add 3) v8 fun t743 =>
 LdI .i64 (a73.add 4) v8 fun t744 =>
 LdS (a73.add 5) v8 fun t745 =>
 Wr.call (some n36) t74 t741 t742 t743 t744 t745 v8 fun t75 v9 =>
 Ar .i64 (i2 + 1) fun i3 =>
 J1 i3 v9)
 (R (some n36) true v8))))
theorem Xk.of_vc {table pages many room l U R} (hv : Xk.vc table pages many room l U R) : Xk.call table pages many room l U R :=
 Wa Tryz.func16 (x := Xk.hint) (Eq.mpr (by kernel_rfl) hv)
def WA.hint : Hn := .q (.o 2) (.q (.oq 21) (.l))
def WA.vc (vw : Option Addr) (vx : Int) (vx1 : Int) (vx2 : Int) (vx3 : Int) (vx4 : Int) (vx5 : Sl) (U : Hp) (R : Int -> Hp -> Prop) : Prop :=
 Nw (.cells #[.int .i64 vx, .int .i64 vx1, .int .i64 vx2, .int .i64 vx3, .int .i64 vx4, .slice vx5.a vx5.len vx5.cap] 44 (0, 0)) U fun n3 v =>
 LdI .i64 (n3.add 1) v fun t6 =>
 NilP vw fun a8 =>
 LdS (a8.add 1) v fun t10 =>
 Nz ((t10.len : Nat) : Int) <|
 NilP vw fun a14 =>
 LdS (a14.add 1) v fun t16 =>
 Ar .i64 ((t6.tmod ((t10.len : Nat) : Int)) + ((t16.len : Nat) : Int)) fun t18 =>
 NilP vw fun a20 =>
 LdS (a20.add 1) v fun t22 =>
 Nz ((t22.len : Nat) : Int) <|
 R (t18.tmod ((t22.len : Nat) : Int)) v
theorem WA.of_vc {vw vx vx1 vx2 vx3 vx4 vx5 U R} (hv : WA.vc vw vx vx1 vx2 vx3 vx4 vx5 U R) : WA.call vw vx vx1 vx2 vx3 vx4 vx5 U R :=
 Wa Tryz.func20 (x := WA.hint) (Eq.mpr (by kernel_rfl) hv)
def WK.hint : Hn := .q (.o 2) (.q (.q (.o 1) (.k (.loop [(7, .one (.i .i64))] (.q (.q (.o 5) (.c (.l) (.l))) (.q (.k (.q (.q (.reg (.tail 9 [.op, .op, .op, .op, .op, .op, .op, .op, .op] [.op, .op])) (.c (.q (.o 1) (.l)) (.l))) (.q (.o 1) (.k (.loop [(8, .one (.i .i64))] (.q (.q (.o 3) (.c (.l) (.l))) (.q (.k (.q (.oq 11) (.c (.q (.o 1) (.l)) (.l)))) (.o 3)))))))) (.o 3)))))) (.q (.o 1) (.l)))
def WK.vc (vw : Option Addr) (k : Int) (vx : Int) (vx1 : Int) (vx2 : Int) (vx3 : Int) (vx4 : Int) (vx5 : Sl) (U : Hp) (R : Bool -> Hp -> Prop) : Prop :=
 Nw (.cells #[.int .i64 vx, .int .i64 vx1, .int .i64 vx2, .int .i64 vx3, .int .i64 vx4, .slice vx5.a vx5.len vx5.cap] 44 (0, 0)) U fun n5 v =>
 Xe [(.i .i64)] (fun I => I 0 v) fun J (i : Int) v1 =>
 LdS (n5.add 5) v1 fun t11 =>
 If (decide (i < ((t11.len : Nat) : Int))) (LdI .i64 (n5.add 2) v1 fun t19 =>
 LdS (n5.add 5) v1 fun t21 =>
 Ix t21.a t21.len i 1 fun a23 =>
 LdI .i64 a23 v1 fun t24 =>
 WP.call vw k t19 t24 v1 fun t25 v2 =>
 If (decide (t25 < 0)) (R false v2)
 (Xe [(.i .i64)] (fun I1 => I1 0 v2) fun J1 (j : Int) v3 =>
 If (decide (j < i)) (LdS (n5.add 5) v3 fun t33 =>
 Ix t33.a t33.len i 1 fun a35 =>
 LdI .i64 a35 v3 fun t36 =>
 LdS (n5.add 5) v3 fun t38 =>
 Ix t38.a t38.len j 1 fun a40 =>
 LdI .i64 a40 v3 fun t41 =>
 If (t36 == t41) (R false v3)
 (Ar .i64 (j + 1) fun j1 =>
 J1 j1 v3))
 (Ar .i64 (i + 1) fun i1 =>
 J i1 v3)))
 (R true v1)
theorem WK.of_vc {vw k vx vx1 vx2 vx3 vx4 vx5 U R} (hv : WK.vc vw k vx vx1 vx2 vx3 vx4 vx5 U R) : WK.call vw k vx vx1 vx2 vx3 vx4 vx5 U R :=
 Wa Tryz.func21 (x := WK.hint) (Eq.mpr (by kernel_rfl) hv)
def Wq.hint : Hn := .q (.o 1) (.q (.o 1) (.q (.q (.o 1) (.k (.loop [(3, .one .s), (4, .one (.i .i64))] (.q (.q (.o 5) (.c (.l) (.l))) (.q (.k (.q (.o 8) (.o 5))) (.o 3)))))) (.q (.o 2) (.l))))
def Wq.vc (s : Option Addr) (U : Hp) (R : Sl -> Hp -> Prop) : Prop :=
 Xe [.s, (.i .i64)] (fun I => I ⟨none, 0, 0⟩ 0 U) fun J (l : Sl) (n : Int) v =>
 Wv.call s v fun t9 v1 =>
 Ar .i64 (t9 * 256) fun t10 =>
 If (decide (n < t10)) (YC.call s n v1 fun t17 t171 v2 =>
 Nw (.cells #[.int .i64 t17] 3 (0, 0)) v2 fun n22 v3 =>
 App l 1 8 3 [.int .i64 0] ⟨(some n22), 1, 1⟩ v3 fun l1 v4 =>
 Ar .i64 (n + 8) fun n1 =>
 J l1 n1 v4)
 (R l v1)
theorem Wq.of_vc {s U R} (hv : Wq.vc s U R) : Wq.call s U R :=
 Wa Tryz.func35 (x := Wq.hint) (Eq.mpr (by kernel_rfl) hv)
def XW.hint : Hn := .q (.o 1) (.q (.o 5) (.l))
def XW.vc (many : Int) (U : Hp) (R : Int -> Hp -> Prop) : Prop :=
 Ar .i64 many fun t4 =>
 Nz 3 <|
 Ar .i64 ((t4.tmod 3) + 1) fun t6 =>
 R t6 U
theorem XW.of_vc {many U R} (hv : XW.vc many U R) : XW.call many U R :=
 Wa Tryz.func42 (x := XW.hint) (Eq.mpr (by kernel_rfl) hv)
def Wr.hint : Hn := .q (.o 2) (.q (.o 4) (.q (.o 8) (.q (.o 1) (.q (.q (.o 2) (.k (.q (.o 2) (.c (.o 5) (.q (.o 2) (.c (.q (.o 11) (.q (.o 2) (.q (.o 1) (.k (.loop [(10, .one (.i .i64))] (.q (.q (.o 4) (.c (.l) (.l))) (.q (.k (.reg (.held true [26] (.take 0 (.take 1 (.take 2 (.take 3 (.take 4 (.take 5 (.take 6 (.take 7 (.take 8 (.take 9 (.take 10 (.take 11 (.take 12 (.take 13 (.take 14 (.take 15 (.take 16 (.take 17 (.take 18 (.take 19 (.take 20 (.take 21 (.all [(22, .all [(23, .take 24 (.take 25 (.all [(26, .done)])))])])))))))))))))))))))))))))) (.o 3)))))))) (.q (.o 2) (.c (.q (.q (.o 5) (.c (.q (.o 1) (.l)) (.l))) (.q (.o 7) (.q (.o 2) (.c (.o 7) (.l))))) (.q (.o 2) (.c (.q (.o 9) (.q (.o 2) (.o 6))) (.q (.o 2) (.c (.q (.q (.o 5) (.c (.q (.o 1) (.l)) (.l))) (.q (.o 11) (.q (.o 2) (.q (.o 1) (.c (.o 7) (.l)))))) (.q (.o 2) (.c (.q (.o 11) (.q (.o 2) (.q (.o 2) (.c (.reg (.held true [16] (.take 0 (.take 1 (.take 2 (.take 3 (.take 4 (.take 5 (.take 6 (.take 7 (.take 8 (.take 9 (.take 10 (.take 11 (.all [(12, .all [(13, .take 14 (.take 15 (.all [(16, .done)])))])]))))))))))))))) (.l))))) (.q (.o 2) (.c (.q (.o 5) (.q (.o 2) (.c (.o 7) (.l)))) (.o 5))))))))))))))))) (.q (.o 2) (.l))))))
def Wr.vc (vw : Option Addr) (vx : Int) (vx1 : Int) (vx2 : Int) (vx3 : Int) (vx4 : Int) (vx5 : Sl) (U : Hp) (R : Int -> Hp -> Prop) : Prop :=
 Nw (.cells #[.int .i64 vx, .int .i64 vx1, .int .i64 vx2, .int .i64 vx3, .int .i64 vx4, .slice vx5.a vx5.len vx5.cap] 44 (0, 0)) U fun n3 v =>
 LdI .i64 (n3.add 0) v fun t18 =>
 LdI .i64 (n3.add 1) v fun t181 =>
 LdI .i64 (n3.add 2) v fun t182 =>
 LdI .i64 (n3.add 3) v fun t183 =>
 LdI .i64 (n3.add 4) v fun t184 =>
 LdS (n3.add 5) v fun t185 =>
 WA.call vw t18 t181 t182 t183 t184 t185 v fun k v1 =>
 NilP vw fun a21 =>
 LdS (a21.add 1) v1 fun t23 =>
 Ix t23.a t23.len k 1 fun a25 =>
 LdP a25 v1 fun a =>
 LdI .i64 (n3.add 0) v1 fun t28 =>
 If (t28 == 0) (LdI .i64 (n3.add 2) v1 fun t37 =>
 XJ.call a t37 v1 fun ve v2 =>
 R ve v2)
 (If (t28 == 1) (LdI .i64 (n3.add 2) v1 fun t44 =>
 LdI .i64 (n3.add 3) v1 fun t46 =>
 Wy.call a t44 t46 v1 fun t47 t471 v3 =>
 Xe [(.i .i64)] (fun I => I 0 v3) fun J (i : Int) v4 =>
 If (decide (i < ((t47.len : Nat) : Int))) (Held v4 fun S =>
 NilP vw fun a59 =>
 LdH S .s (a59.add 3) fun (t61 : Sl) =>
 LdH S (.i .i64) (n3.add 2) fun (t64 : Int) =>
 Ix t47.a t47.len i 1 fun a67 =>
 LdH S (.i .i64) a67 fun (t68 : Int) =>
 NilP vw fun a70 =>
 LdH S .s (a70.add 2) fun (t72 : Sl) =>
 LdH S (.i .i64) (n3.add 2) fun (t74 : Int) =>
 Ix t72.a t72.len t74 3 fun a75 =>
 LdH S (.i .i64) (a75.add 0) fun (t77 : Int) =>
 Nw (.cells #[.int .i64 k, .int .i64 t64, .int .i64 t68, .int .i64 t77, .bool false] 39 (0, 0)) v4 fun n79 v5 =>
 And (S v5) <|
 App t61 5 40 39 [.int .i64 0, .int .i64 0, .int .i64 0, .int .i64 0, .bool false] ⟨(some n79), 1, 1⟩ v5 fun t80 v6 =>
 And (S v6) <|
 NilP vw fun a81 =>
 St1 (a81.add 3) (.slice t80.a t80.len t80.cap) v6 fun v7 =>
 Ar .i64 (i + 1) fun i1 =>
 J i1 v7)
 (R t471 v4))
 (If (t28 == 2) (LdI .i64 (n3.add 0) v1 fun t87 =>
 LdI .i64 (n3.add 1) v1 fun t871 =>
 LdI .i64 (n3.add 2) v1 fun t872 =>
 LdI .i64 (n3.add 3) v1 fun t873 =>
 LdI .i64 (n3.add 4) v1 fun t874 =>
 LdS (n3.add 5) v1 fun t875 =>
 WK.call vw k t87 t871 t872 t873 t874 t875 v1 fun t88 v8 =>
 If (!t88) (R 0 v8)
 (LdI .i64 (n3.add 2) v8 fun t92 =>
 LdS (n3.add 5) v8 fun t94 =>
 WD.call a t92 t94 v8 fun ve1 v9 =>
 If (ve1 == 0) (LdI .i64 (n3.add 2) v9 fun t101 =>
 LdS (n3.add 5) v9 fun t103 =>
 WE.call vw k t101 t103 v9 fun v10 =>
 R ve1 v10)
 (R ve1 v9)))
 (If (t28 == 3) (LdI .i64 (n3.add 2) v1 fun t110 =>
 WG.call a t110 v1 fun t111 t1111 v11 =>
 LdI .i64 (n3.add 2) v11 fun t118 =>
 Wt.call vw k t118 t111 false v11 fun v12 =>
 R t1111 v12)
 (If (t28 == 4) (LdI .i64 (n3.add 0) v1 fun t125 =>
 LdI .i64 (n3.add 1) v1 fun t1251 =>
 LdI .i64 (n3.add 2) v1 fun t1252 =>
 LdI .i64 (n3.add 3) v1 fun t1253 =>
 LdI .i64 (n3.add 4) v1 fun t1254 =>
 LdS (n3.add 5) v1 fun t1255 =>
 WK.call vw k t125 t1251 t1252 t1253 t1254 t1255 v1 fun t126 v13 =>
 If (!t126) (R 0 v13)
 (LdI .i64 (n3.add 2) v13 fun t131 =>
 LdS (n3.add 5) v13 fun t133 =>
 W8.call a t131 t133 v13 fun t134 t1341 v14 =>
 If t134 (LdI .i64 (n3.add 2) v14 fun t142 =>
 LdS (n3.add 5) v14 fun t144 =>
 Wt.call vw k t142 t144 true v14 fun v15 =>
 R t1341 v15)
 (R t1341 v14)))
 (If (t28 == 5) (LdI .i64 (n3.add 3) v1 fun t151 =>
 LdI .i64 (n3.add 4) v1 fun t153 =>
 W0.call a t151 t153 v1 fun t154 t1541 v16 =>
 If (t1541 == 0) (Held v16 fun S1 =>
 NilP vw fun a162 =>
 LdH S1 .s (a162.add 3) fun (t164 : Sl) =>
 Ar .i64 (t154 * 256) fun t167 =>
 LdH S1 (.i .i64) (n3.add 3) fun (t169 : Int) =>
 Ar .i64 (t169 * 256) fun t170 =>
 Nw (.cells #[.int .i64 k, .int .i64 (-1), .int .i64 t167, .int .i64 t170, .bool false] 39 (0, 0)) v16 fun n172 v17 =>
 And (S1 v17) <|
 App t164 5 40 39 [.int .i64 0, .int .i64 0, .int .i64 0, .int .i64 0, .bool false] ⟨(some n172), 1, 1⟩ v17 fun t173 v18 =>
 And (S1 v18) <|
 NilP vw fun a174 =>
 St1 (a174.add 3) (.slice t173.a t173.len t173.cap) v18 fun v19 =>
 R t1541 v19)
 (R t1541 v16))
 (If (t28 == 6) (LdI .i64 (n3.add 3) v1 fun t180 =>
 WZ.call a t180 v1 fun ve2 v20 =>
 If (ve2 == 0) (LdI .i64 (n3.add 3) v20 fun t187 =>
 Ar .i64 (t187 * 256) fun t188 =>
 Nw (.cells #[.int .i64 t188] 3 (0, 0)) v20 fun n189 v21 =>
 WE.call vw k (-1) ⟨(some n189), 1, 1⟩ v21 fun v22 =>
 R ve2 v22)
 (R ve2 v20))
 (LdI .i64 (n3.add 0) v1 fun t31 =>
 LdI .i64 (n3.add 1) v1 fun t311 =>
 LdI .i64 (n3.add 2) v1 fun t312 =>
 LdI .i64 (n3.add 3) v1 fun t313 =>
 LdI .i64 (n3.add 4) v1 fun t314 =>
 LdS (n3.add 5) v1 fun t315 =>
 WO.call vw a t31 t311 t312 t313 t314 t315 v1 fun ve3 v23 =>
 R ve3 v23)))))))
theorem Wr.of_vc {vw vx vx1 vx2 vx3 vx4 vx5 U R} (hv : Wr.vc vw vx vx1 vx2 vx3 vx4 vx5 U R) : Wr.call vw vx vx1 vx2 vx3 vx4 vx5 U R :=
 Wa Tryz.func49 (x := Wr.hint) (Eq.mpr (by kernel_rfl) hv)
def Xl.hint : Hn := .q (.o 1) (.q (.o 15) (.q (.o 15) (.q (.q (.reg (.seq [.op, .op, .op, .op, .grd false 3 [.op, .op, .op], .op, .grd false 3 [.op, .op, .op], .op, .grd false 3 [.op, .op, .op], .op, .grd false 3 [.op, .op, .op], .op, .grd false 3 [.op, .op, .op]])) (.c (.q (.o 1) (.l)) (.l))) (.q (.q (.o 1) (.k (.loop [(19, .one (.i .i64))] (.q (.q (.o 3) (.c (.l) (.l))) (.q (.k (.q (.q (.o 7) (.c (.q (.o 1) (.l)) (.l))) (.q (.o 3) (.k (.loop [(20, .one (.i .i64))] (.q (.q (.reg (.seq [.op, .op, .op, .op, .grd true 5 [.op, .op, .op, .op, .op]])) (.c (.l) (.l))) (.q (.k (.q (.o 7) (.c (.q (.o 1) (.l)) (.l)))) (.o 3)))))))) (.o 3)))))) (.q (.o 1) (.l))))))
def Xl.vc (a : Option Addr) (b : Option Addr) (pages : Int) (U : Hp) (R : Bool -> Hp -> Prop) : Prop :=
 Xi.call a U fun t23 t231 t232 t233 t234 t235 v =>
 Xi.call b v fun t32 t321 t322 t323 t324 t325 v1 =>
 JnB (fun r v2 =>
 JnB (fun r1 v3 =>
 JnB (fun r2 v4 =>
 JnB (fun r3 v5 =>
 JnB (fun r4 v6 =>
 If r4 (R false v6)
 (Xe [(.i .i64)] (fun I => I 0 v6) fun J5 (p : Int) v7 =>
 If (decide (p < pages)) (Xh.call a p v7 fun t74 v8 =>
 Xh.call b p v8 fun t77 v9 =>
 If (!(t74 == t77)) (R false v9)
 (Ar .i64 (p * 256) fun q =>
 Xe [(.i .i64)] (fun I1 => I1 q v9) fun J6 (q1 : Int) v10 =>
 Xh.call a p v10 fun t83 v11 =>
 JnB (fun r5 v12 =>
 If r5 (WR.call a q1 v12 fun t95 v13 =>
 WR.call b q1 v13 fun t98 v14 =>
 If (!(t95 == t98)) (R false v14)
 (Ar .i64 (q1 + 8) fun q2 =>
 J6 q2 v14))
 (Ar .i64 (p + 1) fun p1 =>
 J5 p1 v12)) fun J7 =>
 If t83 (Ar .i64 (p + 1) fun t87 =>
 Ar .i64 (t87 * 256) fun t88 =>
 J7 (decide (q1 < t88)) v11)
 (J7 false v11)))
 (R true v7))) fun J4 =>
 If r3 (J4 true v5)
 (J4 (t235 != t325) v5)) fun J3 =>
 If r2 (J3 true v4)
 (J3 (t234 != t324) v4)) fun J2 =>
 If r1 (J2 true v3)
 (J2 (t233 != t323) v3)) fun J1 =>
 If r (J1 true v2)
 (J1 (t232 != t322) v2)) fun J =>
 If (t23 != t32) (J true v1)
 (J (t231 != t321) v1)
theorem Xl.of_vc {a b pages U R} (hv : Xl.vc a b pages U R) : Xl.call a b pages U R :=
 Wa Tryz.func50 (x := Xl.hint) (Eq.mpr (by kernel_rfl) hv)
def WP.hint : Hn := .q (.o 1) (.q (.q (.o 1) (.k (.loop [(9, .one (.i .i64))] (.q (.q (.o 7) (.c (.l) (.l))) (.q (.k (.q (.reg (.seq [.op, .op, .op, .op, .op, .op, .op, .op, .op, .op, .op, .grd true 10 [.op, .op, .op, .op, .op, .op, .op, .op, .op, .op], .op, .grd true 10 [.op, .op, .op, .op, .op, .op, .op, .op, .op, .op], .op, .grd true 9 [.op, .op, .op, .op, .op, .op, .op, .op, .op]])) (.c (.q (.o 2) (.l)) (.l)))) (.o 3)))))) (.q (.o 1) (.l)))
def WP.vc (vw : Option Addr) (k : Int) (vclass : Int) (addr : Int) (U : Hp) (R : Int -> Hp -> Prop) : Prop :=
 Xe [(.i .i64)] (fun I => I 0 U) fun J (i : Int) v =>
 NilP vw fun a12 =>
 LdS (a12.add 3) v fun t14 =>
 If (decide (i < ((t14.len : Nat) : Int))) (NilP vw fun a20 =>
 LdS (a20.add 3) v fun t22 =>
 Ix t22.a t22.len i 5 fun a24 =>
 LdI .i64 (a24.add 0) v fun t26 =>
 JnB (fun r v1 =>
 JnB (fun r1 v2 =>
 JnB (fun r2 v3 =>
 If r2 (R i v3)
 (Ar .i64 (i + 1) fun i1 =>
 J i1 v3)) fun J3 =>
 If r1 (NilP vw fun a55 =>
 LdS (a55.add 3) v2 fun t57 =>
 Ix t57.a t57.len i 5 fun a59 =>
 LdB (a59.add 4) v2 fun t61 =>
 J3 (!t61) v2)
 (J3 false v2)) fun J2 =>
 If r (NilP vw fun a43 =>
 LdS (a43.add 3) v1 fun t45 =>
 Ix t45.a t45.len i 5 fun a47 =>
 LdI .i64 (a47.add 2) v1 fun t49 =>
 J2 (t49 == addr) v1)
 (J2 false v1)) fun J1 =>
 If (t26 == k) (NilP vw fun a31 =>
 LdS (a31.add 3) v fun t33 =>
 Ix t33.a t33.len i 5 fun a35 =>
 LdI .i64 (a35.add 1) v fun t37 =>
 J1 (t37 == vclass) v)
 (J1 false v))
 (R (-1) v)
theorem WP.of_vc {vw k vclass addr U R} (hv : WP.vc vw k vclass addr U R) : WP.call vw k vclass addr U R :=
 Wa Tryz.func63 (x := WP.hint) (Eq.mpr (by kernel_rfl) hv)
def WE.hint : Hn := .q (.o 1) (.k (.loop [(8, .one (.i .i64))] (.q (.q (.o 4) (.c (.l) (.l))) (.q (.k (.q (.o 9) (.q (.q (.o 2) (.c (.l) (.l))) (.q (.o 1) (.q (.o 9) (.o 13)))))) (.o 3)))))
def WE.vc (vw : Option Addr) (k : Int) (vclass : Int) (l : Sl) (U : Hp) (R : Hp -> Prop) : Prop :=
 Xe [(.i .i64)] (fun I => I 0 U) fun J (i : Int) v =>
 If (decide (i < ((l.len : Nat) : Int))) (Ix l.a l.len i 1 fun a22 =>
 LdI .i64 a22 v fun t23 =>
 WP.call vw k vclass t23 v fun vat v1 =>
 If (decide (vat < 0)) (Ar .i64 (i + 1) fun i1 =>
 J i1 v1)
 (NilP vw fun a29 =>
 LdS (a29.add 3) v1 fun t31 =>
 SlcL t31 5 0 vat (t31.cap : Nat) fun t33 =>
 App ⟨none, 0, 0⟩ 5 40 39 [.int .i64 0, .int .i64 0, .int .i64 0, .int .i64 0, .bool false] t33 v1 fun left v2 =>
 NilP vw fun a38 =>
 LdS (a38.add 3) v2 fun t40 =>
 Ar .i64 (vat + 1) fun t42 =>
 SlcL t40 5 t42 (t40.len : Nat) (t40.cap : Nat) fun t43 =>
 App left 5 40 39 [.int .i64 0, .int .i64 0, .int .i64 0, .int .i64 0, .bool false] t43 v2 fun t44 v3 =>
 NilP vw fun a45 =>
 St1 (a45.add 3) (.slice t44.a t44.len t44.cap) v3 fun v4 =>
 Ar .i64 (i + 1) fun i2 =>
 J i2 v4))
 (R v)
theorem WE.of_vc {vw k vclass l U R} (hv : WE.vc vw k vclass l U R) : WE.call vw k vclass l U R :=
 Wa Tryz.func127 (x := WE.hint) (Eq.mpr (by kernel_rfl) hv)
def Wt.hint : Hn := .q (.o 1) (.k (.loop [(10, .one (.i .i64))] (.q (.q (.o 7) (.c (.l) (.l))) (.q (.k (.q (.o 1) (.k (.loop [(11, .one (.i .i64))] (.q (.q (.o 4) (.c (.l) (.l))) (.q (.k (.q (.reg (.quiet [.op, .op, .op, .op, .op, .op, .op, .op, .op, .op, .op, .grd true 10 [.op, .op, .op, .op, .op, .op, .op, .op, .op, .op], .op, .grd true 13 [.op, .op, .op, .op, .op, .op, .op, .op, .op, .op, .op, .op, .op]])) (.c (.o 9) (.l)))) (.o 3))))))) (.o 3)))))
def Wt.vc (vw : Option Addr) (k : Int) (vclass : Int) (l : Sl) (moved : Bool) (U : Hp) (R : Hp -> Prop) : Prop :=
 Xe [(.i .i64)] (fun I => I 0 U) fun J (i : Int) v =>
 NilP vw fun a14 =>
 LdS (a14.add 3) v fun t16 =>
 If (decide (i < ((t16.len : Nat) : Int))) (Xe [(.i .i64)] (fun I1 => I1 0 v) fun J1 (j : Int) v1 =>
 If (decide (j < ((l.len : Nat) : Int))) (NilP vw fun a28 =>
 LdS (a28.add 3) v1 fun t30 =>
 Ix t30.a t30.len i 5 fun a32 =>
 LdI .i64 (a32.add 0) v1 fun t34 =>
 JnB (fun r v2 =>
 JnB (fun r1 v3 =>
 If r1 (NilP vw fun a65 =>
 LdS (a65.add 3) v3 fun t67 =>
 Ix t67.a t67.len i 5 fun a70 =>
 St1 (a70.add 4) (.bool moved) v3 fun v4 =>
 Ar .i64 (j + 1) fun j1 =>
 J1 j1 v4)
 (Ar .i64 (j + 1) fun j2 =>
 J1 j2 v3)) fun J3 =>
 If r (NilP vw fun a51 =>
 LdS (a51.add 3) v2 fun t53 =>
 Ix t53.a t53.len i 5 fun a55 =>
 LdI .i64 (a55.add 2) v2 fun t57 =>
 Ix l.a l.len j 1 fun a60 =>
 LdI .i64 a60 v2 fun t61 =>
 J3 (t57 == t61) v2)
 (J3 false v2)) fun J2 =>
 If (t34 == k) (NilP vw fun a39 =>
 LdS (a39.add 3) v1 fun t41 =>
 Ix t41.a t41.len i 5 fun a43 =>
 LdI .i64 (a43.add 1) v1 fun t45 =>
 J2 (t45 == vclass) v1)
 (J2 false v1))
 (Ar .i64 (i + 1) fun i1 =>
 J i1 v1))
 (R v)
theorem Wt.of_vc {vw k vclass l moved U R} (hv : Wt.vc vw k vclass l moved U R) : Wt.call vw k vclass l moved U R :=
 Wa Tryz.func128 (x := Wt.hint) (Eq.mpr (by kernel_rfl) hv)
def WO.hint : Hn := .q (.o 2) (.q (.o 1) (.q (.q (.o 2) (.k (.q (.o 2) (.c (.o 9) (.q (.o 2) (.c (.o 4) (.q (.o 2) (.c (.o 4) (.q (.o 2) (.c (.o 8) (.q (.o 2) (.c (.o 2) (.q (.o 2) (.c (.q (.o 2) (.o 2)) (.q (.o 2) (.c (.q (.o 4) (.c (.reg (.tail 8 [.op, .op, .op, .op, .op, .op, .op, .op] [.op, .op])) (.l))) (.l))))))))))))))))) (.q (.o 2) (.l))))
def WO.vc (vw : Option Addr) (a : Option Addr) (vx : Int) (vx1 : Int) (vx2 : Int) (vx3 : Int) (vx4 : Int) (vx5 : Sl) (U : Hp) (R : Int -> Hp -> Prop) : Prop :=
 Nw (.cells #[.int .i64 vx, .int .i64 vx1, .int .i64 vx2, .int .i64 vx3, .int .i64 vx4, .slice vx5.a vx5.len vx5.cap] 44 (0, 0)) U fun n5 v =>
 LdI .i64 (n5.add 0) v fun t9 =>
 If (t9 == 7) (LdI .i64 (n5.add 3) v fun t15 =>
 Yd.call a t15 v fun t16 t161 t162 v1 =>
 R t162 v1)
 (If (t9 == 8) (LdI .i64 (n5.add 3) v fun t24 =>
 WR.call a t24 v fun t25 v2 =>
 R 0 v2)
 (If (t9 == 9) (LdI .i64 (n5.add 3) v fun t30 =>
 Xh.call a t30 v fun t31 v3 =>
 R 0 v3)
 (If (t9 == 10) (LdI .i64 (n5.add 3) v fun t37 =>
 XC.call a t37 v fun t38 t381 v4 =>
 R t381 v4)
 (If (t9 == 11) (XN.call a v fun t44 v5 =>
 R 0 v5)
 (If (t9 == 12) (YG.call a v fun v6 =>
 WN.call vw v6 fun v7 =>
 R 0 v7)
 (If (t9 == 13) (LdI .i64 (n5.add 3) v fun t55 =>
 WB.call vw t55 v fun t56 v8 =>
 If t56 (NilP vw fun a58 =>
 LdP (a58.add 0) v8 fun t60 =>
 LdI .i64 (n5.add 3) v8 fun t62 =>
 LdI .i64 (n5.add 4) v8 fun t64 =>
 Yj.call t60 t62 t64 v8 fun ve v9 =>
 R ve v9)
 (R 0 v8))
 (R 0 v)))))))
theorem WO.of_vc {vw a vx vx1 vx2 vx3 vx4 vx5 U R} (hv : WO.vc vw a vx vx1 vx2 vx3 vx4 vx5 U R) : WO.call vw a vx vx1 vx2 vx3 vx4 vx5 U R :=
 Wa Tryz.func129 (x := WO.hint) (Eq.mpr (by kernel_rfl) hv)
def WN.hint : Hn := .q (.o 1) (.q (.q (.o 1) (.k (.loop [(2, .one .s), (3, .one (.i .i64))] (.q (.q (.o 7) (.c (.l) (.l))) (.q (.k (.q (.o 9) (.q (.reg (.heldJ true [] [(36, .one .b)] (.take 0 (.take 1 (.take 2 (.take 3 (.split 24 (.take 4 (.take 5 (.take 6 (.take 7 (.take 8 (.take 9 (.take 10 (.take 11 (.take 12 (.take 13 (.take 14 (.take 15 (.done))))))))))))) (.take 4 (.take 5 (.take 6 (.take 7 (.take 8 (.take 9 (.take 10 (.take 11 (.take 12 (.take 13 (.all [(14, .take 15 (.done))])))))))))))))))))) (.c (.o 5) (.l))))) (.o 3)))))) (.o 5))
def WN.vc (vw : Option Addr) (U : Hp) (R : Hp -> Prop) : Prop :=
 Xe [.s, (.i .i64)] (fun I => I ⟨none, 0, 0⟩ 0 U) fun J (left : Sl) (i : Int) v =>
 NilP vw fun a7 =>
 LdS (a7.add 3) v fun t9 =>
 If (decide (i < ((t9.len : Nat) : Int))) (NilP vw fun a15 =>
 LdS (a15.add 3) v fun t17 =>
 Ix t17.a t17.len i 5 fun a19 =>
 LdI .i64 (a19.add 0) v fun t20 =>
 LdI .i64 (a19.add 1) v fun t201 =>
 LdI .i64 (a19.add 2) v fun t202 =>
 LdI .i64 (a19.add 3) v fun t203 =>
 LdB (a19.add 4) v fun t204 =>
 Nw (.cells #[.int .i64 0, .int .i64 0, .int .i64 0, .int .i64 0, .bool false] 39 (0, 0)) v fun n4 v1 =>
 St1 (n4.add 0) (.int .i64 t20) v1 fun v2 =>
 St1 (n4.add 1) (.int .i64 t201) v2 fun v3 =>
 St1 (n4.add 2) (.int .i64 t202) v3 fun v4 =>
 St1 (n4.add 3) (.int .i64 t203) v4 fun v5 =>
 St1 (n4.add 4) (.bool t204) v5 fun v6 =>
 Jn [.b] (fun (t36 : Bool) v7 =>
 If t36 (LdI .i64 (n4.add 0) v7 fun t38 =>
 LdI .i64 (n4.add 1) v7 fun t381 =>
 LdI .i64 (n4.add 2) v7 fun t382 =>
 LdI .i64 (n4.add 3) v7 fun t383 =>
 LdB (n4.add 4) v7 fun t384 =>
 Nw (.cells #[.int .i64 t38, .int .i64 t381, .int .i64 t382, .int .i64 t383, .bool t384] 39 (0, 0)) v7 fun n39 v8 =>
 App left 5 40 39 [.int .i64 0, .int .i64 0, .int .i64 0, .int .i64 0, .bool false] ⟨(some n39), 1, 1⟩ v8 fun left1 v9 =>
 Ar .i64 (i + 1) fun i1 =>
 J left1 i1 v9)
 (Ar .i64 (i + 1) fun i2 =>
 J left i2 v7)) fun J1 =>
 Held v6 fun S =>
 LdH S .b (n4.add 4) fun (t22 : Bool) =>
 If (!t22) (J1 true v6)
 (NilP vw fun a26 =>
 LdH S .s (a26.add 1) fun (t28 : Sl) =>
 LdH S (.i .i64) (n4.add 0) fun (t30 : Int) =>
 Ix t28.a t28.len t30 1 fun a31 =>
 LdH S .p a31 fun (t32 : Option Addr) =>
 LdH S (.i .i64) (n4.add 2) fun (t34 : Int) =>
 WR.call t32 t34 v6 fun t35 v10 =>
 And (S v10) <|
 J1 t35 v10))
 (NilP vw fun a43 =>
 St1 (a43.add 3) (.slice left.a left.len left.cap) v fun v11 =>
 R v11)
theorem WN.of_vc {vw U R} (hv : WN.vc vw U R) : WN.call vw U R :=
 Wa Tryz.func201 (x := WN.hint) (Eq.mpr (by kernel_rfl) hv)
def WB.hint : Hn := .q (.o 1) (.q (.q (.o 1) (.k (.loop [(5, .one (.i .i64))] (.q (.q (.o 7) (.c (.l) (.l))) (.q (.k (.q (.reg (.quiet [.op, .op, .op, .op, .op, .op, .op, .op, .op, .op, .op, .grd true 19 [.op, .op, .op, .op, .op, .op, .op, .op, .op, .op, .op, .op, .op, .op, .op, .op, .op, .op, .op]])) (.c (.q (.o 1) (.l)) (.l)))) (.o 3)))))) (.q (.o 1) (.l)))
def WB.vc (vw : Option Addr) (addr : Int) (U : Hp) (R : Bool -> Hp -> Prop) : Prop :=
 Xe [(.i .i64)] (fun I => I 0 U) fun J (i : Int) v =>
 NilP vw fun a8 =>
 LdS (a8.add 3) v fun t10 =>
 If (decide (i < ((t10.len : Nat) : Int))) (NilP vw fun a17 =>
 LdS (a17.add 3) v fun t19 =>
 Ix t19.a t19.len i 5 fun a21 =>
 LdI .i64 (a21.add 2) v fun t23 =>
 JnB (fun r v1 =>
 If r (R true v1)
 (Ar .i64 (i + 1) fun i1 =>
 J i1 v1)) fun J1 =>
 If (decide (addr ≥ t23)) (NilP vw fun a28 =>
 LdS (a28.add 3) v fun t30 =>
 Ix t30.a t30.len i 5 fun a32 =>
 LdI .i64 (a32.add 2) v fun t34 =>
 Ar .i64 (addr - t34) fun t35 =>
 NilP vw fun a37 =>
 LdS (a37.add 3) v fun t39 =>
 Ix t39.a t39.len i 5 fun a41 =>
 LdI .i64 (a41.add 3) v fun t43 =>
 J1 (decide (t35 < t43)) v)
 (J1 false v))
 (R false v)
theorem WB.of_vc {vw addr U R} (hv : WB.vc vw addr U R) : WB.call vw addr U R :=
 Wa Tryz.func202 (x := WB.hint) (Eq.mpr (by kernel_rfl) hv)
end Go.Proofs
namespace Go.Proofs
open Go.Vc

set_option maxRecDepth 100000
def XD.hint : Hn := .q (.o 1) (.q (.q (.reg (.seq [.op, .op, .op, .op, .grd false 3 [.op, .op, .op]])) (.c (.q (.o 1) (.l)) (.l))) (.q (.q (.o 1) (.k (.loop [(3, .one (.i .i64))] (.q (.q (.o 4) (.c (.l) (.l))) (.q (.k (.q (.reg (.heldJ true [4] [(41, .one .b)] (.take 0 (.take 1 (.take 2 (.take 3 (.all [(4, .take 5 (.take 6 (.split 24 (.take 7 (.take 8 (.take 9 (.take 10 (.take 11 (.take 12 (.take 13 (.take 14 (.take 15 (.take 16 (.take 17 (.take 18 (.take 19 (.take 20 (.take 21 (.take 22 (.take 23 (.done)))))))))))))))))) (.take 7 (.take 8 (.take 9 (.split 27 (.take 10 (.take 11 (.take 12 (.take 13 (.take 14 (.take 16 (.take 17 (.take 18 (.take 19 (.all [(15, .all [(20, .take 21 (.take 22 (.take 23 (.done))))]), (20, .all [(15, .take 21 (.take 22 (.take 23 (.done))))])])))))))))) (.take 10 (.take 11 (.take 12 (.take 13 (.take 14 (.take 15 (.take 16 (.take 17 (.take 18 (.take 19 (.take 20 (.take 21 (.take 22 (.take 23 (.done))))))))))))))))))))))]))))))) (.c (.q (.o 1) (.l)) (.l)))) (.o 3)))))) (.q (.o 1) (.l))))
def XD.vc (table : Sl) (U : Hp) (R : Bool -> Hp -> Prop) : Prop :=
 JnB (fun r v =>
 If r (R false v)
 (Xe [(.i .i64)] (fun I => I 0 v) fun J1 (i : Int) v1 =>
 If (decide (i < ((table.len : Nat) : Int))) (Jn [.b] (fun (t41 : Bool) v2 =>
 If t41 (R false v2)
 (Ar .i64 (i + 1) fun i1 =>
 J1 i1 v2)) fun J2 =>
 Held v1 fun S =>
 Ix table.a table.len i 3 fun a20 =>
 LdH S (.i .i64) (a20.add 0) fun (t21 : Int) =>
 LdH S (.i .i64) (a20.add 1) fun (t211 : Int) =>
 LdH S (.i .i64) (a20.add 2) fun (t212 : Int) =>
 XF.call t21 t211 t212 v1 fun t22 v3 =>
 If (!t22) (J2 true v3)
 (If (decide (i > 0)) (Ar .i64 (i - 1) fun t30 =>
 Ix table.a table.len t30 3 fun a31 =>
 Ix table.a table.len i 3 fun a36 =>
 (LdI .i64 (a31.add 0) v3 fun t33 =>
 LdI .i64 (a36.add 0) v3 fun t38 =>
 J2 (decide (t33 ≥ t38)) v3) ∧
 (LdI .i64 (a36.add 0) v3 fun t381 =>
 LdI .i64 (a31.add 0) v3 fun t331 =>
 J2 (decide (t331 ≥ t381)) v3))
 (J2 false v3)))
 (R true v1))) fun J =>
 If (decide (((table.len : Nat) : Int) < 1)) (J true U)
 (J (decide (((table.len : Nat) : Int) > 40)) U)
theorem XD.of_vc {table U R} (hv : XD.vc table U R) : XD.call table U R :=
 Wa Tryz.func17 (x := XD.hint) (Eq.mpr (by kernel_rfl) hv)
def WQ.hint : Hn := .q (.o 1) (.q (.q (.o 5) (.c (.q (.o 1) (.l)) (.l))) (.q (.q (.o 1) (.k (.loop [(5, .one (.i .i64))] (.q (.q (.o 4) (.c (.l) (.l))) (.q (.k (.q (.oq 9) (.c (.q (.o 1) (.l)) (.l)))) (.o 3)))))) (.q (.o 1) (.l))))
def WQ.vc (a : Sl) (b : Sl) (U : Hp) (R : Bool -> Hp -> Prop) : Prop :=
 If (((a.len : Nat) : Int) != ((b.len : Nat) : Int)) (R false U)
 (Xe [(.i .i64)] (fun I => I 0 U) fun J (i : Int) v =>
 If (decide (i < ((a.len : Nat) : Int))) (Ix a.a a.len i 1 fun a19 =>
 LdI .i64 a19 v fun t20 =>
 Ix b.a b.len i 1 fun a23 =>
 LdI .i64 a23 v fun t24 =>
 If (t20 != t24) (R false v)
 (Ar .i64 (i + 1) fun i1 =>
 J i1 v))
 (R true v))
theorem WQ.of_vc {a b U R} (hv : WQ.vc a b U R) : WQ.call a b U R :=
 Wa Tryz.func24 (x := WQ.hint) (Eq.mpr (by kernel_rfl) hv)
def XF.hint : Hn := .q (.o 2) (.q (.reg (.seq [.op, .op, .op, .op, .grd true 3 [.op, .op, .op], .op, .grd true 4 [.op, .op, .op, .op], .op, .grd true 3 [.op, .op, .op], .op, .grd true 3 [.op, .op, .op], .op, .grd true 6 [.op, .op, .op, .op, .op, .op], .op, .grd true 3 [.op, .op, .op], .op, .grd true 3 [.op, .op, .op], .op])) (.l))
def XF.vc (c : Int) (c1 : Int) (c2 : Int) (U : Hp) (R : Bool -> Hp -> Prop) : Prop :=
 Nw (.cells #[.int .i64 c, .int .i64 c1, .int .i64 c2] 51 (0, 0)) U fun n1 v =>
 LdI .i64 (n1.add 0) v fun t4 =>
 JnB (fun r v1 =>
 JnB (fun r1 v2 =>
 JnB (fun r2 v3 =>
 JnB (fun r3 v4 =>
 JnB (fun r4 v5 =>
 JnB (fun r5 v6 =>
 JnB (fun r6 v7 =>
 R r6 v7) fun J6 =>
 If r5 (LdI .i64 (n1.add 2) v6 fun t42 =>
 J6 (decide (t42 <= 32)) v6)
 (J6 false v6)) fun J5 =>
 If r4 (LdI .i64 (n1.add 2) v5 fun t37 =>
 J5 (decide (t37 ≥ 1)) v5)
 (J5 false v5)) fun J4 =>
 If r3 (LdI .i64 (n1.add 1) v4 fun t29 =>
 Ar .i64 (t29 * 256) fun t30 =>
 LdI .i64 (n1.add 0) v4 fun t32 =>
 J4 (decide (t30 ≥ t32)) v4)
 (J4 false v4)) fun J3 =>
 If r2 (LdI .i64 (n1.add 1) v3 fun t24 =>
 J3 (decide (t24 <= 4)) v3)
 (J3 false v3)) fun J2 =>
 If r1 (LdI .i64 (n1.add 1) v2 fun t19 =>
 J2 (decide (t19 ≥ 1)) v2)
 (J2 false v2)) fun J1 =>
 If r (LdI .i64 (n1.add 0) v1 fun t13 =>
 Nz 8 <|
 J1 ((t13.tmod 8) == 0) v1)
 (J1 false v1)) fun J =>
 If (decide (t4 ≥ 8)) (LdI .i64 (n1.add 0) v fun t8 =>
 J (decide (t8 <= 512)) v)
 (J false v)
theorem XF.of_vc {c c1 c2 U R} (hv : XF.vc c c1 c2 U R) : XF.call c c1 c2 U R :=
 Wa Tryz.func56 (x := XF.hint) (Eq.mpr (by kernel_rfl) hv)
end Go.Proofs
namespace Go.Ar
open Go Go.Vc Go.Proofs
open Go.Bu (XA Zg Xj cnt)


variable {U : Hp} {F H : Rg} {A : AR} {sp : Sp} {Y : Lay} {T : Nat -> Hp -> Rg -> Prop}
theorem VS {a b : Sl} {xs ys : List Int} {G : Rg} (ha : SlR a 1 (YH xs) U F) (hb : SlR b 1 (YH ys) U G) (hl : xs.length <= 1000000000) {R : Bool -> Hp -> Prop} (hR : R (decide (xs = ys)) U) : WQ.call a b U R := by
 refine WQ.of_vc ?_
 unfold WQ.vc
 have la : a.len = xs.length := by have := ha.1; simp [YH] at this; omega
 have lb : b.len = ys.length := by have := hb.1; simp [YH] at this; omega
 rw [la, lb, bneN]
 refine iff_ (fun hc => ?_) fun hc => ?_
 ·have hne : xs.length ≠ ys.length := by simpa using hc
  rw [decide_eq_false fun e => hne (by rw [e])] at hR; exact hR
 have he : xs.length = ys.length := by simpa using hc
 refine YX (a := .i .i64) (fun (t : Int) v => ∃ i : Nat, t = (i : Int) /\ i <= xs.length /\ v = U /\ xs.take i = ys.take i) (fun t _ => xs.length - t.toNat) ⟨0, rfl, by omega, rfl, rfl⟩ ?_
 rintro t v ⟨i, rfl, hi, rfl, htk⟩
 refine ifD (fun hlt => ?_) fun hge => ?_
 ·have hi' : i < xs.length := by omega
  have hx : xs[i]? = some xs[i] := gGe hi'
  have hy : ys[i]? = some (ys[i]'(by omega)) := gGe _
  generalize xs[i] = x at hx
  generalize ys[i]'(by omega) = y at hy
  rw [← la, ← lb]
  refine ha.ixI hx (hb.ixI hy (iff_ (fun hne => ?_) fun heq => ?_))
  ·have hn : x ≠ y := by simpa using hne
   rw [decide_eq_false] at hR
   ·exact hR
   ·intro e; rw [e, hy] at hx; exact hn (Option.some.inj hx).symm
  ·have hxy : x = y := by simpa using heq
   refine arN (m := i + 1) (by omega) (by omega) ⟨⟨i + 1, rfl, by omega, rfl, ?_⟩, by omega⟩
   rw [List.take_add_one, List.take_add_one, htk, hx, hy, hxy]
 ·have : i = xs.length := by omega
  subst this
  rw [List.take_length, he, List.take_length] at htk
  rw [decide_eq_true htk] at hR; exact hR
def Far (F H I : Rg) : Prop := ∀ b, I b -> ¬ F b /\ ¬ H b
theorem Far.fits {I F' H' : Rg} (h : Far F H I) (hf : Fits U F H F' H') (hI : ∀ b, I b -> b < U.size) : Far F' H' I := fun b hb => ⟨fun hx => by
 rcases hf.1 b hx with h1 | h1
 ·exact (h b hb).1 h1
 ·have := hI b hb; omega, fun hx => (h b hb).2 (hf.2 b hx)⟩
theorem Far.keep {I : Rg} {s : Sl} {n : Nat} {vs : List Value} (h : Far F H I) {σ' : Hp} (e : Ext (Both F H) U σ') (hs : SlR s n vs U I) : SlR s n vs σ' I := (SlR.loc _ _ _).keep hs e fun b _ hb hc => by
 rcases hc with hc | hc
 ·exact (h b hb).1 hc
 ·exact (h b hb).2 hc
theorem K2 {A' : AR} (h1 : A'.tb = A.tb) (h2 : A'.room = A.room) (h3 : A'.tra = A.tra) : traT A' Y = traT A Y := by
 funext k; unfold traT; rw [h1, h2, h3]
theorem WdP : al2.1.tb = al0.1.tb /\ al2.1.room = al0.1.room /\ al2.1.tra = al0.1.tra := by decide +kernel
theorem HI (g : Gl U) : Off fun b => U.size <= b := fun b hb => by
 have h1 := ZM g.c0; have h2 := ZM g.u0
 exact ⟨by omega, by omega⟩
attribute [local irreducible] ZX Ye Yt ZO Vh Yu newA
theorem UP (g : Gl U) {R : Bool -> Hp -> Prop} (hR : ∀ σ', Ext0 U σ' -> R true σ') : WT.call U R := by
 refine WT.of_vc ?_
 unfold WT.vc
 refine Wao (n := 64) (by omega) (by omega) fun v hs e hp hS => ?_
 refine nw (cs := [.int .i64 256, .int .i64 1, .int .i64 2]) fun v1 z1 e1 b1 => ?_
 have hz0 := e.1
 have hz1 := b1.lt
 have hact : Acts v1 ⟨some ⟨v.size, 0, none⟩, 1, 1⟩ [(256, 1, 2)] := by
  refine ⟨rfl, fun i x y z hi => ?_⟩
  match i, hi with
  | 0, hi => cases hi; exact ⟨v.size, 0, rfl, b1.lt, by rw [b1.cell]; rfl, by rw [b1.cell]; rfl, by rw [b1.cell]; rfl⟩
 have hS1 := hS.keep0 e1
 have hne : newE [(256, 1, 2)] (Kl 64).st.length 2 = 0 := by decide +kernel
 refine Wen hact hS1 2 (fun hn => absurd hne hn) fun _ v2 Y e2 hYh hA0 => ?_
 have hA : AHY v2 (fun b => v1.size <= b) Y al0.1 (traT al0.1 Y) := hA0
 have g2 := ((g.keep0 e).keep0 e1).keep0 e2
 have hW0 : W2 v2 (fun b => v1.size <= b) (Cut (fun b => U.size <= b) v1) Y al0.1 (traT al0.1 Y) al0.2 := by
  refine ⟨hA, ?_, fun b hb hc => by have := hc.2; omega, g2, ?_, ?_⟩
  ·rw [hYh]; exact Lcl.keep0 SpH3.loc (Lcl.cut SpH3.loc hS1) e2
  ·exact HI ((g.keep0 e).keep0 e1)
  ·exact (HI g).sub fun b hb => hb.1
 refine JnB.intro (ifF rfl (ifF rfl ?_))
 have ext0 : ∀ {F H : Rg} {a b : Hp}, Ext0 U a -> (∀ b, F b -> U.size <= b) -> (∀ b, H b -> U.size <= b) -> Ext (Both F H) a b -> Ext0 U b := fun ea h1 h2 eb => Ext.fresh ea eb fun b hb => by
  rcases hb with hb | hb
  ·exact h1 b hb
  ·exact h2 b hb
 have e02 : Ext0 U v2 := Ext.trans (Ext.trans e e1) e2
 refine Wck hW0 0 fun v3 F1 H1 hf1 ex1 hW1 => ?_
 have f1 : (∀ b, F1 b -> U.size <= b) /\ ∀ b, H1 b -> U.size <= b := ⟨fun b hb => by
  rcases hf1.1 b hb with h | h
  ·have h : v1.size <= b := h; omega
  ·have := e02.1; omega, fun b hb => (hf1.2 b hb).1⟩
 have e03 : Ext0 U v3 := ext0 e02 (fun b hb => by have hb : v1.size <= b := hb; omega) (fun b hb => hb.1) ex1
 have hW1c := hW1.cut
 refine Vo hW1c.a 0 3 fun s v4 ex2 hrow hA2 => ?_
 have hW2 : W2 v4 (Cut F1 v3) (Cut H1 v3) Y al2.1 (traT al0.1 Y) al2.2 := hW1c.arena ex2 (hA2.mono fun b _ hb => hb.1)
 have e04 : Ext0 U v4 := Ext.fresh e03 ex2 fun b hb => f1.1 b hb.1
 have hrow : RowR s 1 (ints (YY al1.1 0 3)) v4 (fun b => v3.size <= b) := hrow
 rw [Wim.2] at hrow
 have hs4 : SlR s 1 (YH [4096]) v4 (fun b => v3.size <= b /\ b < v4.size) := Zh (SlR.loc _ _ _) hrow.slR
 have far2 : Far (Cut F1 v3) (Cut H1 v3) (fun b => v3.size <= b /\ b < v4.size) := fun b hb => ⟨fun h => by have := h.2; omega, fun h => by have := h.2; omega⟩
 have hAT : AHY v4 (Cut F1 v3) Y al2.1 (traT al2.1 Y) := by rw [K2 WdP.1 WdP.2.1 WdP.2.2]; exact hW2.a
 refine V7 hAT (by rw [WbA.2.2.2.2.1]; omega) fun v5 e5 => ?_
 have hW2' := hW2.keep0 e5
 have e05 := Ext.trans e04 e5
 have hs5 := (SlR.loc _ _ _).keep0 hs4 e5
 have hsz5 := e5.1
 refine VF hW2' 20 1 fun v6 F3 H3 hf3 ex6 hW3 => ?_
 have hW3 : W2 v6 F3 H3 Y al3.1 (traT al0.1 Y) al3.2 := hW3
 have f3 : (∀ b, F3 b -> U.size <= b) /\ ∀ b, H3 b -> U.size <= b := ⟨fun b hb => by
  rcases hf3.1 b hb with h | h
  ·exact f1.1 b h.1
  ·have := e05.1; omega, fun b hb => f1.2 b (hf3.2 b hb).1⟩
 have far3 := far2.fits hf3 fun b hb => by omega
 have hs6 := far2.keep ex6 hs5
 have e06 : Ext0 U v6 := ext0 e05 (fun b hb => f1.1 b hb.1) (fun b hb => f1.2 b hb.1) ex6
 refine Ul hW3.a 32 WiS.2 fun v7 ex7 hA4 => ?_
 have hW4 : W2 v7 (Grow F3 v6) (Cut H3 v6) Y al4.1 (traT al0.1 Y) al4.2 := hW3.arenaG ex7 hA4
 have hs7 := far3.keep (ex7.sub fun b hb => .inl hb) hs6
 have e07 : Ext0 U v7 := Ext.fresh e06 ex7 fun b hb => f3.1 b hb
 have sz6 := ex6.1
 have f4 : (∀ b, Grow F3 v6 b -> U.size <= b) /\ ∀ b, Cut H3 v6 b -> U.size <= b := ⟨fun b hb => by
  rcases hb with h | h
  ·exact f3.1 b h
  ·have := e06.1; omega, fun b hb => f3.2 b hb.1⟩
 have far4 : Far (Grow F3 v6) (Cut H3 v6) (fun b => v3.size <= b /\ b < v4.size) := fun b hb => ⟨fun h => by
  rcases h with h | h
  ·exact (far3 b hb).1 h
  ·omega, fun h => (far3 b hb).2 h.1⟩
 refine GG hW4 fun v8 ex8 hW5 => ?_
 have hW5 : W2 v8 (Cut (Grow F3 v6) v7) (Cut (Cut H3 v6) v7) Y al5.1 (traT al0.1 Y) al5.2 := hW5
 have hs8 := far4.keep ex8 hs7
 have e08 : Ext0 U v8 := ext0 e07 f4.1 f4.2 ex8
 have far5 : Far (Cut (Grow F3 v6) v7) (Cut (Cut H3 v6) v7) (fun b => v3.size <= b /\ b < v4.size) := fun b hb => ⟨fun h => (far4 b hb).1 h.1, fun h => (far4 b hb).2 h.1⟩
 refine nw (cs := [.int .i64 4096]) fun v9 z9 e9 b9 => ?_
 have sz8 := ex8.1
 have hW5' := hW5.keep0 e9
 have hs9 := (SlR.loc _ _ _).keep0 hs8 e9
 have e09 := Ext.trans e08 e9
 have hbx : SlR ⟨some ⟨v8.size, 0, none⟩, 1, 1⟩ 1 (YH [4096]) v9 (· = v8.size) := ⟨rfl, .inr ⟨_, 0, _, rfl, rfl, b9.q, fun j hj => by rw [Nat.zero_add]; rfl⟩⟩
 refine KP hW5'.a 0 (xs := [4096]) (by intro x hx; simp at hx; subst hx; unfold I63; omega) (by simp) (Nat.le_refl _) (.inl ⟨_, hbx, fun b _ hb hf => by subst hb; have := hf.2; omega⟩) fun v10 ex10 hA6 => ?_
 have hW6 : W2 v10 (Grow (Cut (Grow F3 v6) v7) v9) (Cut (Cut (Cut H3 v6) v7) v9) Y al6.1 (traT al0.1 Y) al6.2 := hW5'.arenaG ex10 hA6
 have hs10 := far5.keep (ex10.sub fun b hb => .inl hb) hs9
 have f5 : (∀ b, Cut (Grow F3 v6) v7 b -> U.size <= b) /\ ∀ b, Cut (Cut H3 v6) v7 b -> U.size <= b := ⟨fun b hb => f4.1 b hb.1, fun b hb => f4.2 b hb.1⟩
 have e010 : Ext0 U v10 := Ext.fresh e09 ex10 f5.1
 have far6 : Far (Grow (Cut (Grow F3 v6) v7) v9) (Cut (Cut (Cut H3 v6) v7) v9) (fun b => v3.size <= b /\ b < v4.size) := fun b hb => ⟨fun h => by
  rcases h with h | h
  ·exact (far5 b hb).1 h
  ·have := e9.1; have := ex7.1; omega, fun h => (far5 b hb).2 h.1⟩
 refine GG hW6 fun v11 ex11 hW7 => ?_
 have hs11 := far6.keep ex11 hs10
 have e011 : Ext0 U v11 := ext0 e010 (fun b hb => by
  rcases hb with h | h
  ·exact f5.1 b h
  ·have := e09.1; omega) (fun b hb => f5.2 b hb.1) ex11
 have x1 : KT al0.1 al0.2 0 = 0 := Wi1
 refine JnB.intro (ifT (by rw [x1]; rfl) (nw (cs := [.int .i64 4096]) fun v12 z12 e12 b12 => ?_))
 have hbx2 : SlR ⟨some ⟨v11.size, 0, none⟩, 1, 1⟩ 1 (YH [4096]) v12 (· = v11.size) := ⟨rfl, .inr ⟨_, 0, _, rfl, rfl, b12.q, fun j hj => by rw [Nat.zero_add]; rfl⟩⟩
 refine VS ((SlR.loc _ _ _).keep0 hs11 e12) hbx2 (by simp) ?_
 have e012 := Ext.trans e011 e12
 have c1 : Zm al1.1 0 3 = 0 := Wim.1
 refine JnB.intro (ifT rfl (JnB.intro (ifT (by show (Zm al1.1 0 3 == 0) = true; rw [c1]; rfl) ?_)))
 refine JnB.intro (ifT (by rw [WbA.1]; rfl) (JnB.intro (ifT (by rw [WbA.2.1]; rfl) (JnB.intro (ifT (by rw [WbA.2.2.1]; rfl) (JnB.intro (ifT (by rw [WbA.2.2.2.1]; rfl) (JnB.intro (ifT (by rw [WbA.2.2.2.2.1]; rfl) (JnB.intro (ifT (by rw [WbA.2.2.2.2.2]; rfl) ?_)))))))))))
 have y1 : QF al2.1 al2.2 20 1 = 32 := WiG.2
 have y2 : ZT al2.1 al2.2 20 1 = 0 := WiG.1
 refine JnB.intro (ifT (by rw [y1]; rfl) (JnB.intro (ifT (by rw [y2]; rfl) (JnB.intro (ifT (by rw [WiS.1]; rfl) (JnB.intro (ifT (by rw [Wi6]; rfl) (JnB.intro (ifT (by show (Zr al5.1 0 [4096] == 0) = true; rw [Wi8]; rfl) (JnB.intro (ifT (by rw [Wi0.1]; rfl) ?_)))))))))))
 refine UT (hW7.keep0 e12).a 16 ?_
 have o1 : Uz (Vh al6.1 al6.2).1 16 = false := Wi0.2
 rw [o1]
 exact hR v12 e012
end Go.Ar
namespace Go.Ar
open Go Go.Vc Go.Proofs
open Go.Bu (XA Zg Xj cnt)


inductive LbW where
 | hd | sp | arow | held
 | ar (k : Nat)
 deriving DecidableEq
structure LayW where
 w : Nat
 hs : Nat
 arow : Sl
 held : Sl
 table : Sl
 ys : List Lay
def hdW (L : LayW) : List Value := [.pointer (some ⟨L.hs, 0, none⟩), .slice L.arow.a L.arow.len L.arow.cap, .slice L.table.a L.table.len L.table.cap, .slice L.held.a L.held.len L.held.cap]
def pc1 (p : Pc) : List Value := [.int .i64 (p.k : Int), .int .i64 p.cls, .int .i64 (p.addr : Int), .int .i64 (p.size : Int), .bool p.moved]
def pcV (l : List Pc) : List Value := l.flatMap pc1
theorem QN (l : List Pc) : (pcV l).length = l.length * 5 := by
 induction l with
 | nil => rfl
 | cons x l ih =>
  have e : pcV (x :: l) = pc1 x ++ pcV l := rfl
  have e5 : (pc1 x).length = 5 := rfl
  rw [e, List.length_append, ih, e5, List.length_cons]; omega
theorem Uj (a b : List Pc) : pcV (a ++ b) = pcV a ++ pcV b := by simp [pcV]
theorem GO (p : Pc) : pcV [p] = pc1 p := by simp [pcV]
theorem Wby {l : List Pc} {i : Nat} {p : Pc} (h : l[i]? = some p) {d : Nat} (hd : d < 5) : (pcV l)[5 * i + d]? = (pc1 p)[d]? := by
 induction l generalizing i with
 | nil => simp at h
 | cons x l ih =>
  have e : pcV (x :: l) = pc1 x ++ pcV l := rfl
  have e5 : (pc1 x).length = 5 := rfl
  rw [e]
  cases i with
  | zero =>
   simp at h; subst h
   rw [List.getElem?_append_left (by omega)]; congr 1; omega
  | succ i =>
   rw [List.getElem?_append_right (by omega), e5, show 5 * (i + 1) + d - 5 = 5 * i + d by omega]
   exact ih (by simpa using h)
theorem WfZ (l : List Pc) (n : Nat) : pcV (l.take n) = (pcV l).take (n * 5) := by
 induction l generalizing n with
 | nil => simp [pcV]
 | cons x l ih =>
  have e : pcV (x :: l) = pc1 x ++ pcV l := rfl
  have e5 : (pc1 x).length = 5 := rfl
  cases n with
  | zero => simp [pcV]
  | succ n =>
   rw [List.take_succ_cons, e]
   have e' : pcV (x :: l.take n) = pc1 x ++ pcV (l.take n) := rfl
   rw [e', ih, List.take_append, List.take_of_length_le (l := pc1 x) (by omega), e5, show (n + 1) * 5 - 5 = n * 5 by omega]
theorem Wgn (l : List Pc) (n : Nat) : pcV (l.drop n) = (pcV l).drop (n * 5) := by
 induction l generalizing n with
 | nil => simp [pcV]
 | cons x l ih =>
  have e : pcV (x :: l) = pc1 x ++ pcV l := rfl
  have e5 : (pc1 x).length = 5 := rfl
  cases n with
  | zero => simp
  | succ n =>
   rw [List.drop_succ_cons, e, ih, List.drop_append, List.drop_of_length_le (l := pc1 x) (by omega), e5, show (n + 1) * 5 - 5 = n * 5 by omega, List.nil_append]
theorem VT {l : List Pc} : ∀ v ∈ pcV l, one1 v = true := by
 intro v hv
 obtain ⟨p, _, hp⟩ := List.mem_flatMap.1 hv
 simp only [pc1, List.mem_cons, List.not_mem_nil, or_false] at hp
 rcases hp with rfl | rfl | rfl | rfl | rfl <;> rfl
def ArR (y : Option Lay) (a : Option AR) : Hp -> Rg -> Prop := fun U F => match y, a with
 | some Y, some A => AHY U F Y A (traT A Y)
 | _, _ => True
theorem ArR.loc (y : Option Lay) (a : Option AR) : Lcl (ArR y a) := by
 intro U σ' F G h hz hs
 unfold ArR at *
 split at h
 ·exact AHY.loc _ _ _ _ h hz hs
 ·trivial
def CW (W : Wd) (L : LayW) (cs : List Value) : LbW -> Hp -> Rg -> Prop
 | .hd => BlkR L.w cs
 | .sp => fun U F => SpH3 U F L.hs W.sp
 | .arow => RowR L.arow 1 (ptrV (L.ys.map (·.p)))
 | .held => RowR L.held 5 (pcV W.held)
 | .ar k => ArR L.ys[k]? W.ars[k]?
theorem CW.loc {W : Wd} {L : LayW} {cs : List Value} : ∀ i, Lcl (CW W L cs i)
 | .hd => BlkR.loc _ _
 | .sp => SpH3.loc
 | .arow => RowR.loc _ _ _
 | .held => RowR.loc _ _ _
 | .ar k => ArR.loc _ _
structure WH (U : Hp) (F : Rg) (L : LayW) (W : Wd) : Prop where
 len : L.ys.length = W.ars.length
 hs : ∀ Y ∈ L.ys, Y.hs = L.hs
 sep : Sep (CW W L (hdW L)) U F
 g : Gl U
 gd : Gd U
 o : Off F
 o2 : ¬ F 2
variable {U : Hp} {F : Rg} {L : LayW} {W : Wd}
theorem WH.keep0 (h : WH U F L W) {σ' : Hp} (e : Ext0 U σ') : WH σ' F L W := ⟨h.len, h.hs, (Sep.loc CW.loc).keep0 h.sep e, h.g.keep0 e, h.gd.keep0 e, h.o, h.o2⟩
theorem WH.keep (h : WH U F L W) {σ' : Hp} {T : Rg} (e : Ext T U σ') (hT : ∀ b, F b -> ¬ T b) (hg : Off T) (hg2 : ¬ T 2) : WH σ' F L W := ⟨h.len, h.hs, (Sep.loc CW.loc).keep h.sep e fun b _ hb => hT b hb, h.g.keep e hg, h.gd.keep e hg2, h.o, h.o2⟩
theorem WH.mono (h : WH U F L W) {G : Rg} (hs : ∀ b, b < U.size -> F b -> G b) (o : Off G) (o2 : ¬ G 2) : WH U G L W := ⟨h.len, h.hs, (Sep.loc CW.loc).mono h.sep hs, h.g, h.gd, o, o2⟩
theorem WH.cut (h : WH U F L W) : WH U (Cut F U) L W := h.mono (fun b hb hf => ⟨hf, hb⟩) (h.o.sub fun b hb => hb.1) fun hb => h.o2 hb.1
theorem WcX (g : Gd U) : 2 < U.size := ZM g.d0
theorem WH.growO2 (h : WH U F L W) : ¬ Grow F U 2 := fun hb => by
 rcases hb with hb | hb
 ·exact h.o2 hb
 ·have := WcX h.gd; omega
theorem WH.hd (h : WH U F L W) : Blk U L.w (hdW L) := by obtain ⟨G, hG, hb⟩ := h.sep.get .hd; exact hb.2
theorem WH.held (h : WH U F L W) : RowR L.held 5 (pcV W.held) U F := by
 obtain ⟨G, hG, hb⟩ := h.sep.get .held
 exact (RowR.loc _ _ _).mono hb fun b _ hb => hG b hb
theorem WH.heldL (h : WH U F L W) : L.held.len = W.held.length := by have := h.held.1; rw [QN] at this; omega
theorem WH.arow (h : WH U F L W) : RowR L.arow 1 (ptrV (L.ys.map (·.p))) U F := by
 obtain ⟨G, hG, hb⟩ := h.sep.get .arow
 exact (RowR.loc _ _ _).mono hb fun b _ hb => hG b hb
theorem WH.arowL (h : WH U F L W) : L.arow.len = W.ars.length := by
 have := h.arow.1
 have := h.len
 simp [ptrV] at *; omega
theorem WH.sp (h : WH U F L W) : SpH3 U F L.hs W.sp := by
 obtain ⟨G, hG, hb⟩ := h.sep.get .sp
 exact Lcl.mono SpH3.loc hb fun b _ hb => hG b hb
theorem WH.ar (h : WH U F L W) {k : Nat} {A : AR} (hk : W.ars[k]? = some A) : ∃ Y, L.ys[k]? = some Y /\ Y.hs = L.hs /\ AHY U F Y A (traT A Y) := by
 have hl := (gSi.1 hk).1
 have hy : L.ys[k]? = some (L.ys[k]'(by rw [h.len]; exact hl)) := gGe _
 obtain ⟨G, hG, hb⟩ := h.sep.get (.ar k)
 simp only [CW, hk, hy, ArR] at hb
 exact ⟨_, hy, h.hs _ (List.mem_of_getElem? hy), hb.mono fun b _ hb => hG b hb⟩
theorem WH.rA (h : WH U F L W) {k : Nat} {Y : Lay} (hy : L.ys[k]? = some Y) {K : Option Addr -> Prop} (hK : K (some ⟨Y.p, 0, none⟩)) : Ix L.arow.a L.arow.len (k : Int) 1 fun a => LdP a U K :=
 Wdr h.arow.slR (by simp [hy]) hK
theorem VD {s : Sl} {l : List Pc} (h : SlR s 5 (pcV l) U F) {i d : Nat} {p : Pc} {x : Int} (hp : l[i]? = some p) (hd : d < 5) (hx : (pc1 p)[d]? = some (.int .i64 x)) {K : Int -> Prop} (hK : K x) : Ix s.a s.len (i : Int) 5 fun a => LdI .i64 (a.add d) U K := by
 have hi := (gSi.1 hp).1
 obtain ⟨b, o, ha, hc⟩ := h.cell ((Wby hp hd).trans hx)
 have hl := h.1
 rw [QN] at hl
 rw [ha]
 refine ix (by omega) (by omega) ?_
 rw [add_lit, add_lit]
 exact ldI (by rw [show o + (i : Int).toNat * 5 + d = o + (5 * i + d) by omega]; exact hc) hK
theorem Wis {s : Sl} {l : List Pc} (h : SlR s 5 (pcV l) U F) {i : Nat} {p : Pc} (hp : l[i]? = some p) {K : Bool -> Prop} (hK : K p.moved) : Ix s.a s.len (i : Int) 5 fun a => LdB (a.add 4) U K := by
 have hi := (gSi.1 hp).1
 obtain ⟨b, o, ha, hc⟩ := h.cell (v := .bool p.moved) ((Wby hp (d := 4) (by omega)).trans rfl)
 have hl := h.1
 rw [QN] at hl
 rw [ha]
 refine ix (by omega) (by omega) ?_
 rw [add_lit, add_lit]
 exact ldB (by rw [show o + (i : Int).toNat * 5 + 4 = o + (5 * i + 4) by omega]; exact hc) hK
theorem WiQ {s : Sl} {l : List Pc} (h : SlR s 5 (pcV l) U F) {i : Nat} {p : Pc} (hp : l[i]? = some p) {K : Int -> Int -> Int -> Int -> Bool -> Prop} (hK : K p.k p.cls p.addr p.size p.moved) :
 Ix s.a s.len (i : Int) 5 fun a => LdI .i64 (a.add 0) U fun x0 => LdI .i64 (a.add 1) U fun x1 => LdI .i64 (a.add 2) U fun x2 => LdI .i64 (a.add 3) U fun x3 => LdB (a.add 4) U fun x4 => K x0 x1 x2 x3 x4 := by
 have hi := (gSi.1 hp).1
 have hl := h.1
 rw [QN] at hl
 have g : ∀ d, d < 5 -> ∀ v, (pc1 p)[d]? = some v -> ∃ b o, s.a = some ⟨b, o, none⟩ /\ cell U ⟨b, o + (5 * i + d), none⟩ = some v := fun d hd v hv => h.cell ((Wby hp hd).trans hv)
 obtain ⟨b, o, ha, h0⟩ := g 0 (by omega) _ rfl
 obtain ⟨b1, o1, ha1, h1⟩ := g 1 (by omega) _ rfl
 obtain ⟨b2, o2, ha2, h2⟩ := g 2 (by omega) _ rfl
 obtain ⟨b3, o3, ha3, h3⟩ := g 3 (by omega) _ rfl
 obtain ⟨b4, o4, ha4, h4⟩ := g 4 (by omega) _ rfl
 rw [ha] at ha1 ha2 ha3 ha4
 cases ha1; cases ha2; cases ha3; cases ha4
 rw [ha]
 refine ix (by omega) (by omega) ?_
 simp only [add_lit]
 have e : ∀ d, o + (i : Int).toNat * 5 + d = o + (5 * i + d) := fun d => by omega
 exact ldI (by rw [e]; exact h0) (ldI (by rw [e]; exact h1) (ldI (by rw [e]; exact h2) (ldI (by rw [e]; exact h3) (ldB (by rw [e]; exact h4) hK))))
def atI (held : List Pc) (k : Nat) (cls x : Int) : Int := match atW held k cls x with
 | some i => (i : Int)
 | none => -1
theorem Wfs {held : List Pc} {k : Nat} {cls x : Int} {i : Nat} (h : ∀ j p, j < i -> held[j]? = some p -> isAt k cls x p = false) {p : Pc} (hp : held[i]? = some p) (ht : isAt k cls x p = true) : atW held k cls x = some i := by
 obtain ⟨hi, rfl⟩ := gSi.1 hp
 exact List.findIdx?_eq_some_iff_getElem.2 ⟨hi, ht, fun j hj => by rw [h j _ hj (gGe (by omega))]; simp⟩
theorem WfE {held : List Pc} {k : Nat} {cls x : Int} (h : ∀ (j : Nat) p, j < held.length -> held[j]? = some p -> isAt k cls x p = false) : atW held k cls x = none := by
 unfold atW
 rw [List.findIdx?_eq_none_iff]
 intro p hp
 obtain ⟨j, hj⟩ := List.getElem?_of_mem hp
 exact h j p (gSi.1 hj).1 hj
theorem Wiy (h : WH U F L W) (k : Nat) (cls x : Int) (hlen : W.held.length <= 1000000000) {R : Int -> Hp -> Prop} (hR : R (atI W.held k cls x) U) : WP.call (some ⟨L.w, 0, none⟩) (k : Int) cls x U R := by
 refine WP.of_vc ?_
 unfold WP.vc
 have hb := h.hd
 have hs := h.held.slR
 have hl := h.heldL
 refine YX (a := .i .i64) (fun (t : Int) v => ∃ i : Nat, t = (i : Int) /\ i <= W.held.length /\ v = U /\ ∀ j p, j < i -> W.held[j]? = some p -> isAt k cls x p = false) (fun t _ => W.held.length - t.toNat) ⟨0, rfl, by omega, rfl, fun j p hj => by omega⟩ ?_
 rintro t v ⟨i, rfl, hi, rfl, hno⟩
 refine nilP (hb.rS rfl (ifD (fun hlt => ?_) fun hge => ?_))
 ·simp only at hlt
  have hi' : i < W.held.length := by omega
  have hp : W.held[i]? = some W.held[i] := gGe hi'
  generalize W.held[i] = p at hp
  have next : isAt k cls x p = false -> Ar .i64 ((i : Int) + 1) fun i1 => (∃ j : Nat, i1 = (j : Int) /\ j <= W.held.length /\ v = v /\ ∀ l q, l < j -> W.held[l]? = some q -> isAt k cls x q = false) /\ W.held.length - i1.toNat < W.held.length - (i : Int).toNat := fun hf =>
   arN (m := i + 1) (by omega) (by omega) ⟨⟨i + 1, rfl, by omega, rfl, fun l q hl' hq => by
    by_cases e : l = i
    ·subst e; rw [hp] at hq; cases hq; exact hf
    ·exact hno l q (by omega) hq⟩, by omega⟩
  refine nilP (hb.rS rfl (VD hs hp (d := 0) (by omega) rfl (JnB.intro ?_)))
  have fin : ∀ (r : Bool), r = isAt k cls x p -> If r (R (i : Int) v) (Ar .i64 ((i : Int) + 1) fun i1 => (∃ j : Nat, i1 = (j : Int) /\ j <= W.held.length /\ v = v /\ ∀ l q, l < j -> W.held[l]? = some q -> isAt k cls x q = false) /\ W.held.length - i1.toNat < W.held.length - (i : Int).toNat) := by
   intro r hr
   subst hr
   refine iff_ (fun ht => ?_) fun hf => next hf
   have := Wfs hno hp ht
   unfold atI at hR; rw [this] at hR; exact hR
  have ek : ((p.k : Int) == (k : Int)) = (p.k == k) := beqN _ _
  rw [ek]
  refine iff_ (fun h1 => nilP (hb.rS rfl (VD hs hp (d := 1) (by omega) rfl (JnB.intro ?_)))) fun h1 => JnB.intro (iff_ (fun h2 => by cases h2) fun _ => JnB.intro (iff_ (fun h3 => by cases h3) fun _ => fin _ (by unfold isAt; rw [h1]; rfl)))
  refine iff_ (fun h2 => nilP (hb.rS rfl (VD hs hp (d := 2) (by omega) rfl (JnB.intro ?_)))) fun h2 => JnB.intro (iff_ (fun h3 => by cases h3) fun _ => fin _ (by unfold isAt; rw [h1, h2]; rfl))
  refine iff_ (fun h3 => nilP (hb.rS rfl (Wis hs hp ?_))) fun h3 => fin _ (by unfold isAt; rw [h1, h2, h3]; rfl)
  exact fin _ (by unfold isAt; rw [h1, h2, h3]; rfl)
 ·have hii : i = W.held.length := by simp only at hge; omega
  subst hii
  have := WfE hno
  unfold atI at hR; rw [this] at hR; exact hR
theorem Wem {held : List Pc} {k : Nat} {cls x : Int} : decide (atI held k cls x < 0) = !(atW held k cls x).isSome := by
 unfold atI
 cases atW held k cls x with
 | none => rfl
 | some i => simp
theorem WgP (h : WH U F L W) (k : Nat) (x0 x1 x2 x3 x4 : Int) {sl : Sl} {l : List Int} {X : Rg} (hs : SlR sl 1 (YH l) U X) (hlen : W.held.length <= 1000000000) (hll : l.length <= 1000000) {R : Bool -> Hp -> Prop} (hR : ∀ σ', Ext0 U σ' -> R (ownW W.held k x2 l) σ') :
 WK.call (some ⟨L.w, 0, none⟩) (k : Int) x0 x1 x2 x3 x4 sl U R := by
 refine WK.of_vc ?_
 unfold WK.vc
 have hsl : sl.len = l.length := by have := hs.1; simp [YH] at this; omega
 refine nw (cs := [.int .i64 x0, .int .i64 x1, .int .i64 x2, .int .i64 x3, .int .i64 x4, .slice sl.a sl.len sl.cap]) fun v hz e hb => ?_
 have h := h.keep0 e
 have hs := (SlR.loc _ _ _).keep0 hs e
 refine YX (a := .i .i64) (fun (t : Int) w => ∃ i : Nat, t = (i : Int) /\ i <= l.length /\ w = v /\ ownW W.held k x2 (l.take i) = true) (fun t _ => l.length - t.toNat) ⟨0, rfl, by omega, rfl, by simp [ownW]⟩ ?_
 rintro t w ⟨i, rfl, hi, rfl, hown⟩
 refine hb.rS rfl (ifD (fun hlt => ?_) fun hge => ?_)
 ·simp only at hlt
  have hi' : i < l.length := by omega
  have hx : l[i]? = some l[i] := gGe hi'
  generalize l[i] = x at hx
  refine hb.rI rfl (hb.rS rfl (hs.ixI hx (Wiy h k x2 x hlen ?_)))
  rw [Wem]
  have htake : l.take (i + 1) = l.take i ++ [x] := by rw [List.take_add_one, hx]; rfl
  have hm : x ∈ l := List.mem_of_getElem? hx
  refine iff_ (fun hn => ?_) fun hn => ?_
  ·have : ownW W.held k x2 l = false := by
    apply Bool.eq_false_iff.2; intro ho
    unfold ownW at ho
    rw [Bool.and_eq_true, List.all_eq_true] at ho
    rw [ho.1 x hm] at hn; cases hn
   have := this ▸ hR w e; exact this
  ·have hsome : (atW W.held k x2 x).isSome = true := by simpa using hn
   refine YX (a := .i .i64) (fun (t : Int) w' => ∃ j : Nat, t = (j : Int) /\ j <= i /\ w' = w /\ x ∉ l.take j) (fun t _ => i - t.toNat) ⟨0, rfl, by omega, rfl, by simp⟩ ?_
   rintro t w' ⟨j, rfl, hj, rfl, hnot⟩
   refine ifD (fun hlt2 => ?_) fun hge2 => ?_
   ·have hj' : j < l.length := by omega
    have hy : l[j]? = some l[j] := gGe hj'
    generalize l[j] = y at hy
    refine hb.rS rfl (hs.ixI hx (hb.rS rfl (hs.ixI hy (iff_ (fun he => ?_) fun he => ?_))))
    ·have hxy : x = y := by simpa using he
     have : ownW W.held k x2 l = false := by
      apply Bool.eq_false_iff.2; intro ho
      have hnd := (Ky.1 ho).2
      obtain ⟨hi1, e1⟩ := gSi.1 hx
      obtain ⟨hj1, e2⟩ := gSi.1 hy
      have := List.pairwise_iff_getElem.1 hnd j i hj1 hi1 (by omega)
      exact this (by rw [e1, e2, hxy])
     have := this ▸ hR w' e; exact this
    ·have hxy : x ≠ y := by simpa using he
     refine arN (m := j + 1) (by omega) (by omega) ⟨⟨j + 1, rfl, by omega, rfl, ?_⟩, by omega⟩
     rw [List.take_add_one, hy]
     simp only [Option.toList, List.mem_append, List.mem_singleton, not_or]
     exact ⟨hnot, hxy⟩
   ·have hji : j = i := by omega
    subst hji
    refine arN (m := j + 1) (by omega) (by omega) ⟨⟨j + 1, rfl, by omega, rfl, ?_⟩, by omega⟩
    rw [htake]
    rw [Ky] at hown ⊢
    refine ⟨fun z hz => ?_, List.nodup_append.2 ⟨hown.2, by simp, fun a ha b hb e => ?_⟩⟩
    ·rcases List.mem_append.1 hz with hz | hz
     ·exact hown.1 z hz
     ·simp only [List.mem_singleton] at hz; subst hz
      unfold atW at hsome
      rw [List.findIdx?_isSome, List.any_eq_true] at hsome
      exact hsome
    ·simp only [List.mem_singleton] at hb; subst hb; subst e; exact hnot ha
 ·have hii : i = l.length := by simp only at hge; omega
  subst hii
  rw [List.take_length] at hown
  have := hown ▸ hR w e; exact this
end Go.Ar