/- Texts joined. -/
import Derived.Test.YtmjjhknmbflfhaaGreatDoorRows
import Derived.ChangeVars
import Derived.JoinedOf
import Derived.RowKit
import Derived.WalkKit
import Derived.ProofKit
import Derived.OpenShut
import Derived.ChangeOld
import Derived.Carry
import Derived.Test.YtmjjhknmbflfhaaGreatDoorY5
set_option linter.unusedVariables false
set_option linter.unusedSimpArgs false
namespace Go.Ar
open Go Go.Vc Go.Proofs
open Go.Bu (XA Zg Xj cnt)


variable {U : Hp} {F : Rg} {L : LayW} {W : Wd}
theorem Whp {cs : List Value} {k : Nat} {A : AR} : ∀ j, j ≠ LbW.ar k -> CW { W with ars := W.ars.set k A } L cs j = CW W L cs j := by
 intro j hj
 cases j <;> try rfl
 rename_i m
 have hm : m ≠ k := fun e => hj (by rw [e])
 show ArR _ (W.ars.set k A)[m]? = _
 rw [List.getElem?_set_ne (Ne.symm hm)]; rfl
theorem WiF {cs : List Value} {sp : Sp} : ∀ j, j ≠ LbW.sp -> CW { W with sp := sp } L cs j = CW W L cs j := by
 intro j hj
 cases j <;> first | rfl | exact absurd rfl hj
theorem WH.re (h : WH U F L W) {σ' : Hp} {W' : Wd} {L' : LayW} {G : Rg} (e : Ext F U σ') (hl : L'.ys.length = W'.ars.length) (hh : ∀ Y ∈ L'.ys, Y.hs = L'.hs) (hs : Sep (CW W' L' (hdW L')) σ' G) (o : Off G) (o2 : ¬ G 2) : WH σ' G L' W' :=
 ⟨hl, hh, hs, h.g.keep e h.o, h.gd.keep e h.o2, o, o2⟩
theorem WH.oG (h : WH U F L W) : Off (Grow F U) := h.o.grow h.g
theorem WH.stepA (h : WH U F L W) {k : Nat} {A : AR} (hk : W.ars[k]? = some A) : ∃ (Y : Lay) (G : Rg), L.ys[k]? = some Y /\ Y.hs = L.hs /\ (∀ b, G b -> F b) /\ AHY U G Y A (traT A Y) /\ ∀ (σ' : Hp) (A' : AR) (F' : Rg), Ext G U σ' -> (∀ b, F' b -> Grow G U b) -> AHY σ' F' Y A' (traT A' Y) →
 Ext F U σ' /\ WH σ' (fun b => F b /\ b < U.size /\ ¬ G b ∨ F' b) L { W with ars := W.ars.set k A' } := by
 have hl := (gSi.1 hk).1
 have hy : L.ys[k]? = some (L.ys[k]'(by rw [h.len]; exact hl)) := gGe _
 generalize (L.ys[k]'(by rw [h.len]; exact hl)) = Y at hy
 obtain ⟨G, hG, hi, hput⟩ := h.sep.step CW.loc (.ar k)
 simp only [CW, hk, hy, ArR] at hi
 refine ⟨Y, G, hy, h.hs _ (List.mem_of_getElem? hy), hG, hi, fun σ' A' F' e hF' hA => ?_⟩
 have e' := e.sub hG
 refine ⟨e', h.re e' (by simp [h.len]) h.hs (hput σ' (CW { W with ars := W.ars.set k A' } L (hdW L)) F' Whp e hF' ?_ (CW.loc _)) (h.oG.sub fun b hb => ?_) fun hb => h.growO2 ?_⟩
 ·show ArR L.ys[k]? (W.ars.set k A')[k]? σ' F'
  rw [hy, List.getElem?_set_self hl]; exact hA
 ·rcases hb with hb | hb
  ·exact .inl hb.1
  ·exact (hF' b hb).imp (hG b) id
 ·rcases hb with hb | hb
  ·exact .inl hb.1
  ·exact (hF' _ hb).imp (hG _) id
theorem WH.stepAS (h : WH U F L W) {k : Nat} {A : AR} (hk : W.ars[k]? = some A) : ∃ (Y : Lay) (G H : Rg), L.ys[k]? = some Y /\ Y.hs = L.hs /\ W2 U G H Y A (traT A Y) W.sp /\ ∀ (σ' : Hp) (A' : AR) (sp' : Sp) (F' H' : Rg), Ext (Both G H) U σ' -> Fits U G H F' H' -> W2 σ' F' H' Y A' (traT A' Y) sp' →
 Ext F U σ' /\ WH σ' (Grow F U) L { W with sp := sp', ars := W.ars.set k A' } := by
 have hl := (gSi.1 hk).1
 have hy : L.ys[k]? = some (L.ys[k]'(by rw [h.len]; exact hl)) := gGe _
 generalize (L.ys[k]'(by rw [h.len]; exact hl)) = Y at hy
 obtain ⟨G, H, hG, hH, hd, hi, hj, hput⟩ := h.sep.step2 CW.loc (.ar k) .sp (by intro e; cases e)
 simp only [CW, hk, hy, ArR] at hi
 have hj : SpH3 U H L.hs W.sp := hj
 have hhs := h.hs _ (List.mem_of_getElem? hy)
 refine ⟨Y, G, H, hy, hhs, ⟨hi, by rw [hhs]; exact hj, hd, h.g, h.o.sub hG, h.o.sub hH⟩, fun σ' A' sp' F' H' e hf hW => ?_⟩
 have e' : Ext F U σ' := e.sub fun b hb => by
  rcases hb with hb | hb
  ·exact hG b hb
  ·exact hH b hb
 have hF' : ∀ b, F' b -> (G b ∨ H b) ∨ U.size <= b := fun b hb => (hf.1 b hb).imp .inl id
 have hH' : ∀ b, H' b -> (G b ∨ H b) ∨ U.size <= b := fun b hb => .inl (.inr (hf.2 b hb))
 have hs := hput σ' (CW { W with sp := sp', ars := W.ars.set k A' } L (hdW L)) F' H' (fun j h1 h2 => ?_) e hF' hH' hW.d ?_ ?_ CW.loc
 ·refine ⟨e', h.re e' (by simp [h.len]) h.hs ((Sep.loc CW.loc).mono hs fun b _ hb => ?_) h.oG h.growO2⟩
  rcases hb with hb | hb | hb
  ·exact .inl hb.1
  ·exact (hF' b hb).imp (fun hx => hx.elim (hG b) (hH b)) id
  ·exact .inl (hH b (hf.2 b hb))
 ·have a1 := Whp (W := { W with sp := sp' }) (L := L) (cs := hdW L) (A := A') j h1
  exact a1.trans (WiF j h2)
 ·show ArR L.ys[k]? (W.ars.set k A')[k]? σ' F'
  rw [hy, List.getElem?_set_self hl]; exact hW.a
 ·show SpH3 σ' H' L.hs sp'
  rw [← hhs]; exact hW.s
theorem WH.stepS (h : WH U F L W) : ∃ G : Rg, (∀ b, G b -> F b) /\ SpH3 U G L.hs W.sp /\ Off G /\ ∀ (σ' : Hp) (sp' : Sp), Ext G U σ' -> SpH3 σ' (Grow G U) L.hs sp' -> Ext F U σ' /\ WH σ' (Grow F U) L { W with sp := sp' } := by
 obtain ⟨G, hG, hi, hput⟩ := h.sep.step CW.loc .sp
 refine ⟨G, hG, hi, h.o.sub hG, fun σ' sp' e hs => ?_⟩
 have e' := e.sub hG
 refine ⟨e', h.re e' h.len h.hs ((Sep.loc CW.loc).mono (hput σ' (CW { W with sp := sp' } L (hdW L)) (Grow G U) WiF e (fun b hb => hb) hs (CW.loc _)) fun b _ hb => Q8 hG (fun b hb => hb) b hb) h.oG h.growO2⟩
theorem We0 {cs : List Value} {s : Sl} {l : List Pc} : ∀ j, j ≠ LbW.held -> CW { W with held := l } { L with held := s } cs j = CW W L cs j := by
 intro j hj
 cases j <;> first | rfl | exact absurd rfl hj
theorem Wcu {cs : List Value} {ty : Nat} (h : Sep (CW W L cs) U F) (hlen : W.held.length <= 1000000000) {p : Pc} {vb : Nat} (hb : Blk U vb (pc1 p)) (hvb : ¬ F vb) {K : Sl -> Hp -> Prop}
 (hK : ∀ s' σ', Ext F U σ' -> Sep (CW { W with held := W.held ++ [p] } { L with held := s' } cs) σ' (Grow F U) -> K s' σ') : App L.held 5 40 ty [.int .i64 0, .int .i64 0, .int .i64 0, .int .i64 0, .bool false] ⟨some ⟨vb, 0, none⟩, 1, 1⟩ U K := by
 obtain ⟨G, hG, hi, _, hput⟩ := h.stepD CW.loc .held
 have hi : RowR L.held 5 (pcV W.held) U G := hi
 have hlc : L.held.len = W.held.length := by have := hi.1; rw [QN] at this; omega
 refine hi.app (ys := pc1 p) rfl rfl ?_ (fun v hv => VT (l := [p]) v (by rw [GO]; exact hv)) (by simp only; omega) (by simp only; omega) Nat.zero_lt_one fun s' σ' hl' e hr => hK s' σ' (e.sub hG) ?_
 ·intro j u hu
  rw [add_lit, Nat.zero_add, hb.cell]; exact hu
 refine (Sep.loc CW.loc).mono (hput σ' (CW { W with held := W.held ++ [p] } { L with held := s' } cs) (Grow G U) We0 e (fun b hb => hb) ?_ (CW.loc _)) fun b _ hb => Q8 hG (fun b hb => hb) b hb
 show RowR s' 5 (pcV (W.held ++ [p])) σ' (Grow G U)
 rw [Uj, GO]; exact hr
theorem WgU {cs : List Value} (h : Sep (CW W L cs) U F) {i : Nat} {v : Value} (hi : i < cs.length) {K : Hp -> Prop} (hK : ∀ σ', Ext F U σ' -> Sep (CW W L (cs.set i v)) σ' F -> K σ') : St1 (Addr.add ⟨L.w, 0, none⟩ i) v U K := by
 obtain ⟨G, hG, hp, _, hput⟩ := h.stepD CW.loc .hd
 have hp : BlkR L.w cs U G := hp
 refine hp.2.s1 (by omega) fun σ' o b => hK σ' (o.ext.sub fun b hb => by subst hb; exact hG _ hp.1) ?_
 rw [Nat.zero_add] at b
 refine (Sep.loc CW.loc).mono (hput σ' (CW W L (cs.set i v)) G (fun j hj => ?_) (o.ext.sub fun b hb => by subst hb; exact hp.1) (fun b hb => .inl hb) ⟨hp.1, b⟩ (CW.loc _)) fun b _ hb => Q6 hG (fun b hb => hb) b hb
 cases j <;> first | rfl | exact absurd rfl hj
theorem Wgz (L : LayW) (s : Sl) : (hdW L).set 3 (.slice s.a s.len s.cap) = hdW { L with held := s } := rfl
theorem WH.putHeld (h : WH U F L W) {s : Sl} {l : List Pc} {Q : Rg} (hr : RowR s 5 (pcV l) U Q) (hQ : ∀ b, Q b -> ¬ F b) (oQ : Off Q) (oQ2 : ¬ Q 2) {K : Hp -> Prop}
 (hK : ∀ σ', Ext F U σ' -> WH σ' (fun b => F b ∨ Q b) { L with held := s } { W with held := l } -> K σ') : St1 (Addr.add ⟨L.w, 0, none⟩ 3) (.slice s.a s.len s.cap) U K := by
 have h1 : Sep (CW { W with held := l } { L with held := s } (hdW L)) U fun b => F b ∨ Q b := h.sep.put CW.loc .held hQ We0 hr (CW.loc _)
 have o : Off fun b => F b ∨ Q b := fun b hb => hb.elim (h.o b) (oQ b)
 have o2 : ¬ (F 2 ∨ Q 2) := fun hb => hb.elim h.o2 oQ2
 obtain ⟨G, hG, hp, _, hput⟩ := h1.stepD CW.loc .hd
 have hp : BlkR L.w (hdW L) U G := hp
 have hw : F L.w := by
  obtain ⟨G', hG', hb⟩ := h.sep.get .hd
  exact hG' _ hb.1
 refine hp.2.s1 (o := 0) (i := 3) (by simp [hdW]) fun σ' oo b => ?_
 have e : Ext F U σ' := oo.ext.sub fun b hb => by subst hb; exact hw
 refine hK σ' e (h.re e h.len h.hs ((Sep.loc CW.loc).mono (hput σ' (CW { W with held := l } { L with held := s } (hdW { L with held := s })) G (fun j hj => ?_) (oo.ext.sub fun b hb => by subst hb; exact hp.1) (fun b hb => .inl hb) ⟨hp.1, ?_⟩ (CW.loc _)) fun b _ hb => Q6 hG (fun b hb => hb) b hb) o o2)
 ·cases j <;> first | rfl | exact absurd rfl hj
 ·rw [Nat.zero_add, Wgz] at b; exact b
theorem Wdu (h : WH U F L W) (x : Int) (hx : I63 x) (hlen : W.held.length <= 1000000000) {R : Bool -> Hp -> Prop} (hR : R (Qc W.held x) U) : WB.call (some ⟨L.w, 0, none⟩) x U R := by
 refine WB.of_vc ?_
 unfold WB.vc
 have hb := h.hd
 have hs := h.held.slR
 have hl := h.heldL
 refine YX (a := .i .i64) (fun (t : Int) v => ∃ i : Nat, t = (i : Int) /\ i <= W.held.length /\ v = U /\ Qc (W.held.take i) x = false) (fun t _ => W.held.length - t.toNat) ⟨0, rfl, by omega, rfl, rfl⟩ ?_
 rintro t v ⟨i, rfl, hi, rfl, hno⟩
 refine nilP (hb.rS rfl (ifD (fun hlt => ?_) fun hge => ?_))
 ·simp only at hlt
  have hi' : i < W.held.length := by omega
  have hp : W.held[i]? = some W.held[i] := gGe hi'
  generalize W.held[i] = p at hp
  have htake : W.held.take (i + 1) = W.held.take i ++ [p] := by rw [List.take_add_one, hp]; rfl
  have fin : ∀ (r : Bool), r = (decide ((p.addr : Int) <= x) && decide (x - (p.addr : Int) < (p.size : Int))) -> If r (R true v) (Ar .i64 ((i : Int) + 1) fun i1 => (∃ j : Nat, i1 = (j : Int) /\ j <= W.held.length /\ v = v /\ Qc (W.held.take j) x = false) /\ W.held.length - i1.toNat < W.held.length - (i : Int).toNat) := by
   intro r hr
   subst hr
   refine iff_ (fun ht => ?_) fun hf => arN (m := i + 1) (by omega) (by omega) ⟨⟨i + 1, rfl, by omega, rfl, ?_⟩, by omega⟩
   ·have : Qc W.held x = true := by
     unfold Qc; rw [List.any_eq_true]; exact ⟨p, List.mem_of_getElem? hp, ht⟩
    rw [this] at hR; exact hR
   ·rw [htake]
    unfold Qc at hno ⊢
    rw [List.any_append, hno]; simpa using hf
  refine nilP (hb.rS rfl (VD hs hp (d := 2) (by omega) rfl (JnB.intro (ifD (fun h1 => ?_) fun h1 => ?_))))
  ·refine nilP (hb.rS rfl (VD hs hp (d := 2) (by omega) rfl (ar (by unfold I63 at hx; omega) (by unfold I63 at hx; omega) (nilP (hb.rS rfl (VD hs hp (d := 3) (by omega) rfl ?_))))))
   exact fin _ (by rw [decide_eq_true (show (p.addr : Int) <= x from h1), Bool.true_and])
  ·exact fin _ (by rw [decide_eq_false (show ¬ (p.addr : Int) <= x from h1), Bool.false_and])
 ·have hii : i = W.held.length := by simp only at hge; omega
  subst hii
  rw [List.take_length] at hno
  rw [hno] at hR; exact hR
def CWq (W : Wd) (L : LayW) (cs : List Value) (k : Nat) (Q : Hp -> Rg -> Prop) : LbW -> Hp -> Rg -> Prop := fun i U F => CW W L cs i U F /\ (i = .ar k -> Q U F)
theorem CWq.loc {cs : List Value} {k : Nat} {Q : Hp -> Rg -> Prop} (hQ : Lcl Q) (i : LbW) : Lcl (CWq W L cs k Q i) := fun U σ' F G h hz hs => ⟨CW.loc i _ _ _ _ h.1 hz hs, fun e => hQ _ _ _ _ (h.2 e) hz hs⟩
theorem CWq.out {cs : List Value} {k : Nat} {Q : Hp -> Rg -> Prop} (h : Sep (CWq W L cs k Q) U F) : Sep (CW W L cs) U F := by
 obtain ⟨ρ, h⟩ := h; exact ⟨ρ, fun i => (h i).1⟩
theorem WhW {l : List Pc} {i : Nat} {p q : Pc} (h : l[i]? = some p) (e : q = { p with moved := q.moved }) : (pcV l).set (5 * i + 4) (.bool q.moved) = pcV (l.set i q) := by
 induction l generalizing i with
 | nil => simp at h
 | cons x l ih =>
  have e1 : pcV (x :: l) = pc1 x ++ pcV l := rfl
  have e5 : (pc1 x).length = 5 := rfl
  cases i with
  | zero =>
   simp at h; subst h
   have e2 : pcV ((x :: l).set 0 q) = pc1 q ++ pcV l := rfl
   rw [e1, e2, List.set_append_left _ _ (by omega), e]; rfl
  | succ i =>
   have e2 : pcV ((x :: l).set (i + 1) q) = pc1 x ++ pcV (l.set i q) := rfl
   rw [e1, e2, List.set_append_right _ _ (by omega), e5, show 5 * (i + 1) + 4 - 5 = 5 * i + 4 by omega, ih (by simpa using h)]
def mv1 (k : Nat) (cls : Int) (l : List Int) (m : Bool) (p : Pc) : Pc := if isOf k cls l p then { p with moved := m } else p
theorem Whm (k : Nat) (cls : Int) (l : List Int) (m : Bool) (p : Pc) : (mv1 k cls l m p).k = p.k /\ (mv1 k cls l m p).cls = p.cls /\ (mv1 k cls l m p).addr = p.addr /\ (mv1 k cls l m p).size = p.size := by
 unfold mv1; split <;> exact ⟨rfl, rfl, rfl, rfl⟩
def mvAt (held : List Pc) (k : Nat) (cls : Int) (l : List Int) (m : Bool) (i : Nat) (q : List Pc) : List Pc := QI (held.take i) k cls l m ++ (q ++ held.drop (i + 1))
theorem WeC {held : List Pc} {k : Nat} {cls : Int} {l : List Int} {m : Bool} : (QI held k cls l m).length = held.length := by unfold QI; rw [List.length_map]
theorem Wfc {k0 : Nat} {Q : Hp -> Rg -> Prop} (hQ : Lcl Q) (h : Sep (CWq W L (hdW L) k0 Q) U F) (k : Nat) (cls : Int) {sl : Sl} {l : List Int} (m : Bool) (hsl : sl.len = l.length) (hll : l.length <= 1000000000) (hlen : W.held.length <= 1000000000)
 (rd : ∀ v held', Ext F U v -> Sep (CWq { W with held := held' } L (hdW L) k0 Q) v F -> ∃ X, SlR sl 1 (YH l) v X) {R : Hp -> Prop}
 (hR : ∀ σ', Ext F U σ' -> Sep (CWq { W with held := QI W.held k cls l m } L (hdW L) k0 Q) σ' F -> R σ') : Wt.call (some ⟨L.w, 0, none⟩) (k : Int) cls sl m U R := by
 refine Wt.of_vc ?_
 unfold Wt.vc
 have hdr : ∀ {v : Hp} {hl : List Pc}, Sep (CWq { W with held := hl } L (hdW L) k0 Q) v F -> Blk v L.w (hdW L) := fun hv => by
  obtain ⟨G, _, hb, _⟩ := hv.get .hd; exact hb.2
 have hrow : ∀ {v : Hp} {hl : List Pc}, Sep (CWq { W with held := hl } L (hdW L) k0 Q) v F -> RowR L.held 5 (pcV hl) v F := fun hv => by
  obtain ⟨G, hG, hb, _⟩ := hv.get .held; exact (RowR.loc _ _ _).mono hb fun b _ hb => hG b hb
 have hlh : L.held.len = W.held.length := by
  have h0 : Sep (CWq { W with held := W.held } L (hdW L) k0 Q) U F := h
  have := (hrow h0).1; rw [QN] at this; omega
 refine YX (a := .i .i64) (fun (t : Int) v => ∃ i : Nat, t = (i : Int) /\ i <= W.held.length /\ Ext F U v /\ Sep (CWq { W with held := QI (W.held.take i) k cls l m ++ W.held.drop i } L (hdW L) k0 Q) v F) (fun t _ => W.held.length - t.toNat)
  ⟨0, rfl, by omega, Ext.refl _ _, by simpa [QI] using h⟩ ?_
 rintro t v ⟨i, rfl, hi, ev, hv⟩
 refine nilP ((hdr hv).rS rfl (ifD (fun hlt => ?_) fun hge => ?_))
 ·simp only at hlt
  have hi' : i < W.held.length := by omega
  have hp : W.held[i]? = some W.held[i] := gGe hi'
  generalize hpe : W.held[i] = p at hp
  have hdrop : W.held.drop i = p :: W.held.drop (i + 1) := by rw [List.drop_eq_getElem_cons hi', hpe]
  have htake : W.held.take (i + 1) = W.held.take i ++ [p] := by rw [List.take_add_one, hp]; rfl
  have mvn : ∀ q : Pc, mv1 k cls [] m q = q := fun q => by simp [mv1, isOf]
  refine YX (a := .i .i64) (fun (t : Int) w => ∃ j : Nat, t = (j : Int) /\ j <= l.length /\ Ext F U w /\ Sep (CWq { W with held := mvAt W.held k cls l m i [mv1 k cls (l.take j) m p] } L (hdW L) k0 Q) w F) (fun t _ => l.length - t.toNat)
   ⟨0, rfl, by omega, ev, by rw [List.take_zero, mvn]; unfold mvAt; rw [List.singleton_append, ← hdrop]; exact hv⟩ ?_
  rintro t w ⟨j, rfl, hj, ew, hw⟩
  refine ifD (fun hlt2 => ?_) fun hge2 => ?_
  ·have hj' : j < l.length := by omega
   have hy : l[j]? = some l[j] := gGe hj'
   generalize l[j] = y at hy
   have htl : l.take (j + 1) = l.take j ++ [y] := by rw [List.take_add_one, hy]; rfl
   obtain ⟨X, hs⟩ := rd w _ ew hw
   have hmk := Whm k cls (l.take j) m p
   have hml : (QI (W.held.take i) k cls l m).length = i := by rw [WeC, List.length_take]; omega
   have hat : (mvAt W.held k cls l m i [mv1 k cls (l.take j) m p])[i]? = some (mv1 k cls (l.take j) m p) := by
    unfold mvAt
    rw [List.getElem?_append_right (by omega), hml, Nat.sub_self]; rfl
   have hr := (hrow hw).slR
   have eNo : isOf k cls [y] p = false -> mv1 k cls (l.take (j + 1)) m p = mv1 k cls (l.take j) m p := fun hf => by
    have : isOf k cls (l.take (j + 1)) p = isOf k cls (l.take j) p := by
     rw [Bool.eq_iff_iff, Zl, Zl, htl, List.mem_append]
     constructor
     ·rintro ⟨a, b, c | c⟩
      ·exact ⟨a, b, c⟩
      ·have : isOf k cls [y] p = true := Zl.2 ⟨a, b, c⟩
       rw [hf] at this; cases this
     ·rintro ⟨a, b, c⟩; exact ⟨a, b, .inl c⟩
    unfold mv1; rw [this]
   have eYes : isOf k cls [y] p = true -> mv1 k cls (l.take (j + 1)) m p = { mv1 k cls (l.take j) m p with moved := m } := fun ht => by
    have ht' := Zl.1 ht
    have : isOf k cls (l.take (j + 1)) p = true := Zl.2 ⟨ht'.1, ht'.2.1, by rw [htl]; exact List.mem_append_right _ ht'.2.2⟩
    unfold mv1; rw [if_pos this]; split <;> rfl
   have skip : isOf k cls [y] p = false -> Ar .i64 ((j : Int) + 1) fun j1 => (∃ n : Nat, j1 = (n : Int) /\ n <= l.length /\ Ext F U w /\ Sep (CWq { W with held := mvAt W.held k cls l m i [mv1 k cls (l.take n) m p] } L (hdW L) k0 Q) w F) /\ l.length - j1.toNat < l.length - (j : Int).toNat := fun hf =>
    arN (m := j + 1) (by omega) (by omega) ⟨⟨j + 1, rfl, by omega, ew, by rw [eNo hf]; exact hw⟩, by omega⟩
   have ek : (((mv1 k cls (l.take j) m p).k : Int) == (k : Int)) = (p.k == k) := by rw [hmk.1]; exact beqN _ _
   refine nilP ((hdr hw).rS rfl (VD hr hat (d := 0) (by omega) rfl (JnB.intro ?_)))
   rw [ek]
   refine iff_ (fun h1 => nilP ((hdr hw).rS rfl (VD hr hat (d := 1) (by omega) rfl (JnB.intro ?_)))) fun h1 => JnB.intro (iff_ (fun h2 => by cases h2) fun _ => iff_ (fun h3 => by cases h3) fun _ => skip (by unfold isOf; rw [h1]; rfl))
   rw [hmk.2.1]
   refine iff_ (fun h2 => nilP ((hdr hw).rS rfl (VD hr hat (d := 2) (by omega) rfl ?_))) fun h2 => iff_ (fun h3 => by cases h3) fun _ => skip (by unfold isOf; rw [h1, h2]; rfl)
   rw [hmk.2.2.1]
   refine hs.ixI hy (iff_ (fun h3 => ?_) fun h3 => skip ?_)
   ·have hof : isOf k cls [y] p = true := by
     have : (p.addr : Int) = y := by simpa using h3
     exact Zl.2 ⟨by simpa using h1, by simpa using h2, by simp [this]⟩
    refine nilP ((hdr hw).rS rfl ?_)
    obtain ⟨G, hG, hi2, _, hput⟩ := hw.stepD (CWq.loc hQ) .held
    have hi2' : RowR L.held 5 (pcV (mvAt W.held k cls l m i [mv1 k cls (l.take j) m p])) w G := hi2.1
    have hl5 : (pcV (mvAt W.held k cls l m i [mv1 k cls (l.take j) m p])).length = W.held.length * 5 := by
     have := hi2'.1; rw [this, hlh]
    have hne : ∃ b, L.held.a = some ⟨b, 0, none⟩ := by
     rcases hi2'.2 with ⟨h0, _⟩ | ⟨b, _, _, ha, _⟩
     ·omega
     ·exact ⟨b, ha⟩
    obtain ⟨b, hba⟩ := hne
    show Ix L.held.a L.held.len (i : Int) 5 _
    rw [hba]
    refine ix (by omega) (by omega) ?_
    refine hi2'.st (j := 5 * i + 4) (by omega) (v := .bool m) (fun b' hb' => ?_) fun w' e' hr' => ?_
    ·rw [hba] at hb'; cases hb'
     rw [add_lit, add_lit]; simp
    ·have ew' := ew.trans (e'.sub hG)
     refine arN (m := j + 1) (by omega) (by omega) ⟨⟨j + 1, rfl, by omega, ew', ?_⟩, by omega⟩
     refine (Sep.loc (CWq.loc hQ)).mono (hput w' (CWq { W with held := mvAt W.held k cls l m i [mv1 k cls (l.take (j + 1)) m p] } L (hdW L) k0 Q) G (fun n hn => ?_) e' (fun b hb => .inl hb) ⟨?_, fun hn => by cases hn⟩ (CWq.loc hQ _)) fun b _ hb => Q6 hG (fun b hb => hb) b hb
     ·cases n <;> first | rfl | exact absurd rfl hn
     ·show RowR L.held 5 (pcV (mvAt W.held k cls l m i [mv1 k cls (l.take (j + 1)) m p])) w' G
      have es : (mvAt W.held k cls l m i [mv1 k cls (l.take j) m p]).set i { mv1 k cls (l.take j) m p with moved := m } = mvAt W.held k cls l m i [{ mv1 k cls (l.take j) m p with moved := m }] := by
       unfold mvAt
       rw [List.set_append_right _ _ (by omega), hml, Nat.sub_self]; rfl
      have := WhW (q := { mv1 k cls (l.take j) m p with moved := m }) hat rfl
      rw [es] at this
      rw [eYes hof, ← this]; exact hr'
   ·apply Bool.eq_false_iff.2; intro hx
    have := (Zl.1 hx).2.2
    simp only [List.mem_singleton] at this
    rw [this] at h3; simp at h3
  ·have hjj : j = l.length := by omega
   subst hjj
   rw [List.take_length] at hw
   refine arN (m := i + 1) (by omega) (by omega) ⟨⟨i + 1, rfl, by omega, ew, ?_⟩, by omega⟩
   have : QI (W.held.take (i + 1)) k cls l m ++ W.held.drop (i + 1) = mvAt W.held k cls l m i [mv1 k cls l m p] := by
    unfold mvAt
    rw [htake]
    unfold QI mv1
    rw [List.map_append, List.append_assoc]; rfl
   rw [this]; exact hw
 ·have hii : i = W.held.length := by simp only at hge; omega
  subst hii
  rw [List.take_length, List.drop_length, List.append_nil] at hv
  exact hR v ev hv
end Go.Ar
namespace Go.Ar
open Go Go.Vc Go.Proofs
open Go.Bu (XA Zg Xj cnt)


variable {U : Hp} {F : Rg} {L : LayW} {W : Wd}
theorem WbY {F : Rg} {U : Hp} {s x : Sl} {sz bytes e : Nat} {zs xs ys : List Value} {K : Sl -> Hp -> Prop} (ho : RowR s sz xs U F) (hz : zs.length = sz)
 (hy : ys.length = x.len * sz) (hr : Rd U x.a ys) (h1 : ∀ v ∈ ys, one1 v = true) (hb : (s.len + x.len) * bytes <= 2 ^ 46) (hc : s.len + x.len <= 2 ^ 62)
 (hK : ∀ s' h', Ext F U h' -> RowR s' sz (xs ++ ys) h' (Grow F U) -> K s' h') : App s sz bytes e zs x U K := by
 rcases Nat.eq_zero_or_pos x.len with h0 | h0
 ·have hys : ys = [] := by rw [h0, Nat.zero_mul] at hy; exact List.eq_nil_of_length_eq_zero hy
  subst hys
  have hle : s.len <= s.cap := by
   rcases ho.2 with ⟨h1, h2⟩ | ⟨b, cs, _, _, _, h3, _⟩
   ·omega
   ·exact h3
  have fin : ∀ s' : Sl, s'.a = s.a -> s'.len = s.len -> s'.cap = s.cap -> K s' U := fun s' e1 e2 e3 => hK s' U (Ext.refl _ _) (by
   obtain ⟨a, b, c⟩ := s'
   obtain ⟨a', b', c'⟩ := s
   simp only at e1 e2 e3
   subst e1; subst e2; subst e3
   rw [List.append_nil]
   exact (RowR.loc _ _ _).mono ho fun b _ hb => .inl hb)
  refine ⟨xs, [], ho.1, by simp [h0], ho.rd, hr, by simp, hb, hc, fun _ => ?_, fun hn => by omega⟩
  split
  ·rename_i a ha
   exact fin _ rfl (by simp [h0]) rfl
  ·rename_i ha
   exact fin _ ha.symm (by simp [h0]) rfl
 ·exact ho.app hz hy hr h1 hb hc h0 fun s' h' _ e hr' => hK s' h' e hr'
theorem _root_.Go.Vc.RowR.cap_le {s : Sl} {sz : Nat} {xs : List Value} (ho : RowR s sz xs U F) : s.len <= s.cap := by
 rcases ho.2 with ⟨h1, h2⟩ | ⟨b, cs, _, _, _, h3, _⟩
 ·omega
 ·exact h3
theorem _root_.Go.Vc.RowR.part {s : Sl} {sz : Nat} {xs : List Value} (ho : RowR s sz xs U F) {a m : Nat} {c : Nat} (h : m ≠ 0 -> c ≠ a) : Rd U (if c = a then s.a else s.a.map (·.add (a * sz))) ((xs.drop (a * sz)).take (m * sz)) := by
 by_cases h0 : m = 0
 ·subst h0
  rw [Nat.zero_mul, List.take_zero]
  unfold Rd
  split
  ·rfl
  ·intro j v hv; simp at hv
 ·rw [if_neg (h h0)]
  rcases ho.2 with ⟨h1, h2⟩ | ⟨b, cs, _, ha, hb, _, _, ht⟩
  ·have : xs = [] := by have := ho.1; rw [h1, Nat.zero_mul] at this; exact List.eq_nil_of_length_eq_zero this
   subst this
   unfold Rd
   split
   ·simp
   ·intro j v hv; simp at hv
  ·rw [ha]
   intro j v hv
   show cell U (Addr.add (Addr.add ⟨b, 0, none⟩ (a * sz)) j) = some v
   rw [add_lit, add_lit, hb.cell]
   rw [List.getElem?_take] at hv
   split at hv
   ·rw [List.getElem?_drop, ← ht, List.getElem?_take] at hv
    split at hv
    ·rw [show 0 + a * sz + j = a * sz + j by omega]; exact hv
    ·cases hv
   ·cases hv
theorem Wd5 (h : WH U F L W) (k : Nat) (cls : Int) {sl : Sl} {l : List Int} {X : Rg} (hs : SlR sl 1 (YH l) U X) (hX : ∀ b, X b -> b < U.size /\ ¬ F b) (hlen : W.held.length <= 1000000000) (hll : l.length <= 1000000)
 {R : Hp -> Prop} (hR : ∀ σ' s', Ext F U σ' -> WH σ' (Grow F U) { L with held := s' } { W with held := KN W.held k cls l } -> R σ') : WE.call (some ⟨L.w, 0, none⟩) (k : Int) cls sl U R := by
 refine WE.of_vc ?_
 unfold WE.vc
 have hsl : sl.len = l.length := by have := hs.1; simp [YH] at this; omega
 refine YX (a := .i .i64) (fun (t : Int) v => ∃ i : Nat, t = (i : Int) /\ i <= l.length /\ Ext F U v /\ (KN W.held k cls (l.take i)).length <= W.held.length /\ ∃ s', WH v (Grow F U) { L with held := s' } { W with held := KN W.held k cls (l.take i) }) (fun t _ => l.length - t.toNat)
  ⟨0, rfl, by omega, Ext.refl _ _, Nat.le_refl _, L.held, h.mono (fun b _ hb => .inl hb) h.oG h.growO2⟩ ?_
 rintro t v ⟨i, rfl, hi, ev, hle, s', hv⟩
 have hsv : SlR sl 1 (YH l) v X := (SlR.loc _ _ _).keep hs ev fun b _ hb => (hX b hb).2
 refine ifD (fun hlt => ?_) fun hge => ?_
 ·have hi' : i < l.length := by omega
  have hx : l[i]? = some l[i] := gGe hi'
  generalize l[i] = x at hx
  have htake : KN W.held k cls (l.take (i + 1)) = WaN k cls (KN W.held k cls (l.take i)) x := by
   unfold KN; rw [List.take_add_one, hx]; simp
  refine hsv.ixI hx (Wiy hv k cls x (by show (KN _ _ _ _).length <= _; omega) ?_)
  generalize hhe : KN W.held k cls (l.take i) = held at *
  show If (decide (atI held k cls x < 0)) _ _
  rw [Wem]
  cases hat : atW held k cls x with
  | none =>
   have e1 : WaN k cls held x = held := by unfold WaN; rw [hat]
   refine ifT rfl (arN (m := i + 1) (by omega) (by omega) ⟨⟨i + 1, rfl, by omega, ev, by rw [htake, e1]; exact hle, s', by rw [htake, e1]; exact hv⟩, by omega⟩)
  | some n =>
   have e1 : WaN k cls held x = held.take n ++ held.drop (n + 1) := by unfold WaN; rw [hat]
   obtain ⟨p, hp, _⟩ := Wch hat
   have hn := (gSi.1 hp).1
   have eI : atI held k cls x = (n : Int) := by unfold atI; rw [hat]
   have hrow := hv.held
   have hrow : RowR s' 5 (pcV held) v (Grow F U) := hrow
   have hsl' : s'.len = held.length := hv.heldL
   have hcap := hrow.cap_le
   have hgv := HI hv.g
   have hgd : ¬ v.size <= 2 := by have := WcX hv.gd; omega
   rw [eI]
   refine ifF rfl (nilP (hv.hd.rS rfl ?_))
   refine slc (lo := 0) (hi := n) (mx := s'.cap) (by omega) (by omega) (Nat.le_refl _) ?_
   have r1 := hrow.part (a := 0) (m := n) (c := s'.cap) (by omega)
   simp only [Nat.zero_mul, List.drop_zero] at r1
   refine WbY (F := fun b => v.size <= b) (RowR.nil _ _ _ _) rfl (ys := (pcV held).take (n * 5)) (by rw [List.length_take, QN]; simp only; omega) (by simpa using r1) (fun u hu => VT u (List.mem_of_mem_take hu)) (by simp only; omega) (by simp only; omega) fun left v2 e2 hl2 => ?_
   rw [List.nil_append] at hl2
   have e20 : Ext0 v v2 := e2.mono fun b hb hc => by omega
   have hl2 : RowR left 5 (pcV (held.take n)) v2 fun b => v.size <= b := by
    rw [WfZ]
    exact (RowR.loc _ _ _).mono hl2 fun b _ hb => by
     rcases hb with hb | hb
     ·exact hb
     ·exact hb
   have hv2 := hv.keep0 e20
   refine nilP (hv2.hd.rS rfl (arN (m := n + 1) (by omega) (by omega) ?_))
   refine slc (lo := n + 1) (hi := s'.len) (mx := s'.cap) (by omega) (by omega) (Nat.le_refl _) ?_
   have hrow2 : RowR s' 5 (pcV held) v2 (Grow F U) := hv2.held
   have r2 := hrow2.part (a := n + 1) (m := s'.len - (n + 1)) (c := s'.cap) (by omega)
   have eD : ((pcV held).drop ((n + 1) * 5)).take ((s'.len - (n + 1)) * 5) = pcV (held.drop (n + 1)) := by
    rw [Wgn, List.take_of_length_le]
    rw [List.length_drop, QN]; omega
   rw [eD] at r2
   have hl2len : left.len = n := by have := hl2.1; rw [QN, List.length_take] at this; omega
   refine WbY hl2 rfl (ys := pcV (held.drop (n + 1))) (by rw [QN, List.length_drop]; simp only; omega) r2 VT (by simp only; omega) (by simp only; omega) fun s3 v3 e3 hl3 => ?_
   rw [← Uj] at hl3
   have hsz := e20.1
   have hl3 : RowR s3 5 (pcV (held.take n ++ held.drop (n + 1))) v3 fun b => v.size <= b := (RowR.loc _ _ _).mono hl3 fun b _ hb => by
    rcases hb with hb | hb
    ·exact hb
    ·omega
   have e23 : Ext0 v v3 := Ext.fresh e20 e3 fun b hb => hb
   have hv3' : WH v3 (Cut (Grow F U) v) { L with held := s' } { W with held := held } := hv.cut.keep0 e23
   refine nilP (hv3'.putHeld hl3 (fun b hb hc => by have := hc.2; omega) hgv hgd fun v4 e4 h4 => ?_)
   have ev4 : Ext F U v4 := (ev.trans0 e23).newT e4 fun b hb => hb.1
   refine arN (m := i + 1) (by omega) (by omega) ⟨⟨i + 1, rfl, by omega, ev4, ?_, s3, ?_⟩, by omega⟩
   ·rw [htake, e1, List.length_append, List.length_take, List.length_drop]; omega
   ·rw [htake, e1]
    have hsz0 := ev.1
    exact h4.mono (fun b _ hb => by
     rcases hb with hb | hb
     ·exact hb.1
     ·exact .inr (by omega)) h.oG h.growO2
 ·have hii : i = l.length := by omega
  subst hii
  rw [List.take_length] at hv
  exact hR v s' ev hv
theorem Wip (x : Int) {n : Nat} (hn : 0 < n) : ((x.tmod n) + n).tmod n = x % (n : Int) := by
 have h1 := Int.tmod_lt_of_pos x (show (0 : Int) < n by omega)
 have h2 : -(n : Int) < x.tmod n := by
  have := Int.lt_tmod_of_pos x (show (0 : Int) < n by omega); omega
 rw [ZK (by omega), Int.add_emod_right]
 have h3 := Int.mul_tdiv_add_tmod x n
 conv => rhs; rw [← h3]
 rw [Int.mul_add_emod_self_left]
theorem WgL (x : Int) {n : Nat} (hn : 0 < n) : numW n x < n /\ (numW n x : Int) = x % (n : Int) := by
 unfold numW
 have h1 := Int.emod_nonneg x (show (n : Int) ≠ 0 by omega)
 have h2 := Int.emod_lt_of_pos x (show (0 : Int) < n by omega)
 omega
theorem We9 (h : WH U F L W) (hn : 0 < W.ars.length) (hn2 : W.ars.length <= 1000) (x0 x1 x2 x3 x4 : Int) (x5 : Sl) {R : Int -> Hp -> Prop} (hR : ∀ σ', Ext0 U σ' -> R (numW W.ars.length x1 : Int) σ') : WA.call (some ⟨L.w, 0, none⟩) x0 x1 x2 x3 x4 x5 U R := by
 refine WA.of_vc ?_
 unfold WA.vc
 refine nw (cs := [.int .i64 x0, .int .i64 x1, .int .i64 x2, .int .i64 x3, .int .i64 x4, .slice x5.a x5.len x5.cap]) fun v hz e hb => ?_
 have h := h.keep0 e
 have hl : L.arow.len = W.ars.length := h.arowL
 refine hb.rI rfl (nilP (h.hd.rS rfl (nz ?_ (nilP (h.hd.rS rfl ?_)))))
 ·show ((L.arow.len : Nat) : Int) ≠ 0; omega
 ·show Ar .i64 ((x1.tmod (L.arow.len : Nat)) + (L.arow.len : Nat)) _
  rw [hl]
  have h1 := Int.tmod_lt_of_pos x1 (show (0 : Int) < W.ars.length by omega)
  have h2 := Int.lt_tmod_of_pos x1 (show (0 : Int) < W.ars.length by omega)
  refine ar (by omega) (by omega) (nilP (h.hd.rS rfl (nz ?_ ?_)))
  ·show ((L.arow.len : Nat) : Int) ≠ 0; omega
  ·show R (((x1.tmod (W.ars.length : Nat)) + (W.ars.length : Nat)).tmod ((L.arow.len : Nat) : Int)) v
   rw [hl, Wip x1 hn, ← (WgL x1 hn).2]
   exact hR v e
end Go.Ar
namespace Go.Ar
open Go Go.Vc Go.Proofs
open Go.Bu (XA Zg Xj cnt)


variable {U : Hp} {F : Rg} {L : LayW} {W : Wd}
def HF (us : List AR) (p : Pc) : Bool := !p.moved || (match us[p.k]? with
 | some A => Ub A (p.addr : Int)
 | none => false)
theorem Whg (h : WH U F L W) (hlen : W.held.length <= 1000000) (hA : ∀ p ∈ W.held, ∃ A, W.ars[p.k]? = some A /\ RunsOk A /\ I63 (p.addr : Int)) {R : Hp -> Prop}
 (hR : ∀ σ' s', Ext F U σ' -> WH σ' (Grow F U) { L with held := s' } { W with held := Ux W.ars W.held } -> R σ') : WN.call (some ⟨L.w, 0, none⟩) U R := by
 refine WN.of_vc ?_
 unfold WN.vc
 have hl := h.heldL
 refine KA (a := .s) (bb := .i .i64) (fun (left : Sl) (t : Int) v => ∃ i : Nat, t = (i : Int) /\ i <= W.held.length /\ Ext0 U v /\ RowR left 5 (pcV ((W.held.take i).filter (HF W.ars))) v (fun b => U.size <= b)) (fun _ t _ => W.held.length - t.toNat)
  ⟨0, rfl, by omega, Ext.refl _ _, RowR.nil _ _ _ _⟩ ?_
 rintro left t v ⟨i, rfl, hi, ev, hleft⟩
 have hv := h.keep0 ev
 have hz0 := ev.1
 refine nilP (hv.hd.rS rfl (ifD (fun hlt => ?_) fun hge => ?_))
 ·simp only at hlt
  have hi' : i < W.held.length := by omega
  have hp : W.held[i]? = some W.held[i] := gGe hi'
  generalize W.held[i] = p at hp
  have htake : W.held.take (i + 1) = W.held.take i ++ [p] := by rw [List.take_add_one, hp]; rfl
  obtain ⟨A, hAk, hro, hx63⟩ := hA p (List.mem_of_getElem? hp)
  refine nilP (hv.hd.rS rfl (WiQ hv.held.slR hp ?_))
  refine nw (cs := [.int .i64 0, .int .i64 0, .int .i64 0, .int .i64 0, .bool false]) fun v1 z1 e1 b1 => ?_
  refine b1.s1 (o := 0) (i := 0) (by simp) fun v2 o2 b2 => b2.s1 (o := 0) (i := 1) (by simp) fun v3 o3 b3 => b3.s1 (o := 0) (i := 2) (by simp) fun v4 o4 b4 => b4.s1 (o := 0) (i := 3) (by simp) fun v5 o5 b5 => b5.s1 (o := 0) (i := 4) (by simp) fun v6 o6 b6 => ?_
  have b6 : Blk v6 v.size (pc1 p) := b6
  have e16 : Ext (· = v.size) v1 v6 := (((o2.ext.trans o3.ext).trans o4.ext).trans o5.ext).trans o6.ext
  have e6 : Ext0 v v6 := Ext.fresh e1 e16 fun b hb => by omega
  have hleft6 := (RowR.loc _ _ _).keep0 hleft e6
  have h6 := hv.keep0 e6
  have E6 := Ext.trans ev e6
  have z6 := e6.1
  obtain ⟨Y, hy, hYh, hAH⟩ := h6.ar hAk
  refine Jn.intro ?_
  have go : ∀ (r : Bool) (w : Hp), Ext0 v6 w -> r = HF W.ars p -> If r
   (LdI .i64 (Addr.add ⟨v.size, 0, none⟩ 0) w fun t38 => LdI .i64 (Addr.add ⟨v.size, 0, none⟩ 1) w fun t381 => LdI .i64 (Addr.add ⟨v.size, 0, none⟩ 2) w fun t382 => LdI .i64 (Addr.add ⟨v.size, 0, none⟩ 3) w fun t383 => LdB (Addr.add ⟨v.size, 0, none⟩ 4) w fun t384 =>
    Nw (.cells #[.int .i64 t38, .int .i64 t381, .int .i64 t382, .int .i64 t383, .bool t384] 39 (0, 0)) w fun n39 v8 =>
    App left 5 40 39 [.int .i64 0, .int .i64 0, .int .i64 0, .int .i64 0, .bool false] ⟨(some n39), 1, 1⟩ v8 fun left1 v9 =>
    Ar .i64 ((i : Int) + 1) fun i1 => (∃ j : Nat, i1 = (j : Int) /\ j <= W.held.length /\ Ext0 U v9 /\ RowR left1 5 (pcV ((W.held.take j).filter (HF W.ars))) v9 (fun b => U.size <= b)) /\ W.held.length - i1.toNat < W.held.length - (i : Int).toNat)
   (Ar .i64 ((i : Int) + 1) fun i2 => (∃ j : Nat, i2 = (j : Int) /\ j <= W.held.length /\ Ext0 U w /\ RowR left 5 (pcV ((W.held.take j).filter (HF W.ars))) w (fun b => U.size <= b)) /\ W.held.length - i2.toNat < W.held.length - (i : Int).toNat) := by
   intro r w ew hr
   have bw := Ext.blk ew b6 id
   have hlw := (RowR.loc _ _ _).keep0 hleft6 ew
   have Ew := Ext.trans E6 ew
   have hleftlen : left.len = ((W.held.take i).filter (HF W.ars)).length := by have := hleft.1; rw [QN] at this; omega
   have hfl : ((W.held.take i).filter (HF W.ars)).length <= W.held.length := Nat.le_trans (List.length_filter_le _ _) (by rw [List.length_take]; omega)
   refine iff_ (fun ht => ?_) fun hf => ?_
   ·refine bw.rI rfl (bw.rI rfl (bw.rI rfl (bw.rI rfl (bw.rB rfl ?_))))
    have hsw := ew.1
    refine hlw.push (vs := pc1 p) (t := 39) (fun b hb => by omega) rfl rfl (fun u hu => VT (l := [p]) u (by rw [GO]; exact hu)) (by omega) (by omega) fun s' h' _ e' hr' => ?_
    refine arN (m := i + 1) (by omega) (by omega) ⟨⟨i + 1, rfl, by omega, Ext.fresh Ew e' fun b hb => hb, ?_⟩, by omega⟩
    rw [htake, List.filter_append, Uj]
    have : [p].filter (HF W.ars) = [p] := by rw [List.filter_cons, ← hr, ht]; rfl
    rw [this, GO]; exact hr'
   ·refine arN (m := i + 1) (by omega) (by omega) ⟨⟨i + 1, rfl, by omega, Ew, ?_⟩, by omega⟩
    rw [htake, List.filter_append]
    have : [p].filter (HF W.ars) = [] := by rw [List.filter_cons, ← hr, hf]; rfl
    rw [this, List.append_nil]; exact hlw
  refine ⟨fun m => Ext0 v6 m, Ext.refl _ _, ⟨p.moved, fun m hm => by rw [add_lit, (Ext.blk hm b6 id).cell]; rfl, ?_⟩⟩
  refine iff_ (fun hm => ?_) fun hm => ?_
  ·exact go true v6 (Ext.refl _ _) (by unfold HF; rw [hm]; rfl)
  ·have hsl := h6.arow.slR
   have hk := (gSi.1 hy).1
   refine nilP ⟨L.arow, fun m hm => by rw [add_lit, (Ext.blk hm h6.hd id).cell]; rfl, ⟨(p.k : Int), fun m hm => by rw [add_lit, (Ext.blk hm b6 id).cell]; rfl, ?_⟩⟩
   refine Ht hsl (k := p.k) (q := Y.p) (by simp [hy]) ⟨(p.addr : Int), fun m hm => by rw [add_lit, (Ext.blk hm b6 id).cell]; rfl, ?_⟩
   refine K7 hAH hro _ hx63 fun w ew => ⟨ew, go _ w ew ?_⟩
   unfold HF; rw [hm, hAk]; rfl
 ·have hii : i = W.held.length := by simp only at hge; omega
  subst hii
  rw [List.take_length] at hleft
  have hg := HI h.g
  have hgd : ¬ U.size <= 2 := by have := WcX h.gd; omega
  have hv' := h.cut.keep0 ev
  refine nilP (hv'.putHeld hleft (fun b hb hc => by have := hc.2; omega) hg hgd fun v4 e4 h4 => ?_)
  refine hR v4 left ((Ext0.to ev).trans (e4.sub fun b hb => hb.1)) (h4.mono (fun b _ hb => ?_) h.oG h.growO2)
  rcases hb with hb | hb
  ·exact .inl hb.1
  ·exact .inr hb
end Go.Ar
namespace Go.Ar


variable {W : Wd} {k : Nat} {A : AR}
theorem TkA.lt (h : GA A) {j : Nat} {x : Int} (hx : TkA A j x) : ∃ y : Nat, x = y /\ y < 262144 := by
 obtain ⟨c, ss, hc, ht⟩ := hx
 have hC := h.cen j c ss hc
 obtain ⟨l, s, i, hs, hi, rfl, hb⟩ := (KX hC).1 ht
 have hp := VY hC.pos (s := s) (x := at_ c s i) hi (Nat.le_refl _) (by have := hC.pos; omega)
 have hu := (h.used hc (List.mem_of_getElem? hs) hp.1 hp.2).1
 have := h.pg.lt (p := at_ c s i / 256) (by omega)
 have := h.pg.n2
 exact ⟨_, rfl, by omega⟩
theorem GA.traI (h : GA A) : TraI A := by
 intro t ht xs hxs x hx
 obtain ⟨k, hk⟩ := List.getElem?_of_mem ht
 have hkl : k < A.tb.length := by rw [← h.lt]; exact (gSi.1 hk).1
 obtain ⟨c, ss, t', hc, _⟩ := h.cl hkl
 obtain ⟨y, rfl, hy⟩ := TkA.lt h ((QM hc).2 (h.trt k c ss t hc hk x (List.mem_flatten.2 ⟨xs, hxs, hx⟩)))
 unfold I63; omega
theorem WI.addr_lt (h : WI W) {p : Pc} (hp : p ∈ W.held) : p.addr < 262144 /\ p.addr + p.size <= 270000 := by
 obtain ⟨A, hA, hh⟩ := h.hf p hp
 have ga := h.ga _ A hA
 have hn := ga.pg.n2
 rcases hh with ⟨_, _, r, hr, h1, h2⟩ | ⟨j, c, _, hc, h2, h3, _⟩
 ·have h4 := ga.fit hr
  have h5 := ga.rpos r hr
  omega
 ·obtain ⟨y, e, hy⟩ := h3.lt ga
  obtain ⟨c', ss, hcl, _⟩ := h3
  have : c' = c := Option.some.inj (hcl.1.symm.trans hc)
  subst this
  have hok := (ga.cen j _ ss hcl).ok
  unfold Cls.ok at hok
  omega
theorem UC : ∀ (N : Nat) (l : List Nat), l.Nodup -> (∀ x ∈ l, x < N) -> l.length <= N
 | 0, l, _, h => by
  cases l with
  | nil => simp
  | cons x l => have := h x (by simp); omega
 | N + 1, l, hn, h => by
  have h1 := UC N (l.filter (· != N)) (hn.sublist List.filter_sublist) fun x hx => by
   have hx := List.mem_filter.1 hx
   have := h x hx.1
   have : x ≠ N := by simpa using hx.2
   omega
  have h2 := List.length_eq_countP_add_countP (l := l) (p := (· != N))
  have h3 : l.countP (fun a => ¬ (a != N) = true) <= 1 := by
   have e : l.countP (fun a => ¬ (a != N) = true) = l.count N := by
    unfold List.count
    apply List.countP_congr
    intro x _
    simp
   rw [e]; exact List.nodup_iff_count.1 hn N
  rw [List.countP_eq_length_filter] at h2
  omega
theorem WI.apart (h : WI W) {p q : Pc} (hp : p ∈ W.held) (hq : q ∈ W.held) {x : Nat} (p1 : p.addr <= x) (p2 : x < p.addr + p.size) (q1 : q.addr <= x) (q2 : x < q.addr + q.size) : p = q := by
 obtain ⟨A, hA, hh⟩ := h.hf p hp
 obtain ⟨B, hB, hg⟩ := h.hf q hq
 have e1 := h.page hp hA p1 p2
 have e2 := h.page hq hB q1 q2
 have hk : p.k = q.k := h.one (x / 256) p.k q.k A B hA hB (by omega) (by omega)
 rw [← hk, hA] at hB; cases hB
 have ga := h.ga _ A hA
 have htb := ga.tb
 have own : ∀ {r : Pc}, Hd A r -> r.addr <= x -> x < r.addr + r.size -> (r.cls = -1 /\ A.ow (x / 256) = 41 /\ ∃ u ∈ A.runs, r.addr = u.1 * 256 /\ u.1 <= x / 256 /\ x / 256 < u.1 + u.2) ∨
  ∃ (j : Nat) (c : Cls) (ss : List SpA) (l : Nat) (s : SpA) (i : Nat), r.cls = j /\ A.ow (x / 256) = j + 1 /\ Cl A j c ss /\ ss[l]? = some s /\ i < c.n /\ r.addr = at_ c s i /\ r.size = c.size := by
  intro r hr r1 r2
  rcases hr with ⟨c1, _, u, hu, c2, c3⟩ | ⟨j, c, c1, c2, c3, c4, _⟩
  ·exact .inl ⟨c1, (ga.usedR hu (by omega) (by omega)).2, u, hu, c2, by omega, by omega⟩
  ·obtain ⟨c', ss, hcl, ht⟩ := c4
   have : c' = c := Option.some.inj (hcl.1.symm.trans c2)
   subst this
   have hC := ga.cen j c' ss hcl
   obtain ⟨l, s, i, hs, hi, e, _⟩ := (KX hC).1 ht
   have e' : r.addr = at_ c' s i := Int.ofNat.inj e
   have hpg := VY hC.pos (s := s) (x := x) hi (by omega) (by omega)
   exact .inr ⟨j, c', ss, l, s, i, c1, (ga.used hcl (List.mem_of_getElem? hs) hpg.1 hpg.2).2, hcl, hs, hi, e', c3⟩
 refine h.unique hp hq ?_
 rcases own hh p1 p2 with ⟨a1, a2, u, hu, a3, a4, a5⟩ | ⟨j, c, ss, l, s, i, a1, a2, a3, a4, a5, a6, a7⟩
 ·rcases own hg q1 q2 with ⟨b1, b2, w, hw, b3, b4, b5⟩ | ⟨j', c', ss', l', s', i', b1, b2, b3, b4, b5, b6, b7⟩
  ·have := ga.runs_uniq hu hw a4 a5 b4 b5
   subst this
   unfold Pc.key; rw [hk, a1, b1, a3, b3]
  ·have := b3.lt; omega
 ·rcases own hg q1 q2 with ⟨b1, b2, w, hw, b3, b4, b5⟩ | ⟨j', c', ss', l', s', i', b1, b2, b3, b4, b5, b6, b7⟩
  ·have := a3.lt; omega
  ·have hj : j = j' := by omega
   subst hj
   obtain ⟨rfl, rfl⟩ := a3.eq b3
   have := KK (ga.cen j c ss a3) a4 b4 a5 b5 (x := x) (by omega) (by omega) (by omega) (by omega)
   unfold Pc.key; rw [hk, a1, b1, a6, b6, this.2.1, this.2.2]
theorem WI.size_pos (h : WI W) {p : Pc} (hp : p ∈ W.held) : 8 <= p.size /\ p.size % 8 = 0 := by
 obtain ⟨A, hA, hh⟩ := h.hf p hp
 have ga := h.ga _ A hA
 rcases hh with ⟨_, _, r, hr, h1, h2⟩ | ⟨j, c, _, hc, h2, h3, _⟩
 ·have h5 := ga.rpos r hr
  omega
 ·obtain ⟨c', ss, hcl, _⟩ := h3
  have : c' = c := Option.some.inj (hcl.1.symm.trans hc)
  subst this
  have hok := (ga.cen j _ ss hcl).ok
  unfold Cls.ok at hok
  omega
theorem WI.len (h : WI W) : W.held.length <= 262144 := by
 have hn : (W.held.map (·.addr)).Nodup := by
  have h1 := List.pairwise_iff_getElem.1 h.hk
  refine List.pairwise_iff_getElem.2 fun i j hi hj hij e => ?_
  have hi' : i < W.held.length := by simpa using hi
  have hj' : j < W.held.length := by simpa using hj
  refine h1 i j (by simpa using hi') (by simpa using hj') hij ?_
  simp only [List.getElem_map] at e ⊢
  have s1 := (h.size_pos (List.getElem_mem hi')).1
  have s2 := (h.size_pos (List.getElem_mem hj')).1
  rw [h.apart (List.getElem_mem hi') (List.getElem_mem hj') (x := W.held[i].addr) (Nat.le_refl _) (by omega) (by omega) (by omega)]
 have := UC 262144 _ hn fun x hx => by
  obtain ⟨p, hp, rfl⟩ := List.mem_map.1 hx
  exact (h.addr_lt hp).1
 simpa using this
end Go.Ar
namespace Go.Ar
open Go Go.Vc Go.Proofs
open Go.Bu (XA Zg Xj cnt)


variable {U : Hp} {F : Rg} {L : LayW} {W : Wd} {k : Nat} {A : AR}
theorem WI.taken (h : WI W) {p : Pc} (hp : p ∈ W.held) : ∃ A, W.ars[p.k]? = some A /\ RunsOk A /\ I63 (p.addr : Int) := by
 obtain ⟨A, hA, _⟩ := h.hf p hp
 have := (h.addr_lt hp).1
 exact ⟨A, hA, (h.ga _ A hA).runsOk, by unfold I63; omega⟩
structure DoOk (U : Hp) (F : Rg) (L : LayW) (W : Wd) (xs : List (Int × Int × Int)) : Prop where
 h : WH U F L W
 wi : WI W
 n : W.sp.st.length <= 208
 k1 : 1 <= W.ars.length
 k2 : W.ars.length <= 3
 ht : Acts U L.table xs
 htF : ∀ b o, L.table.a = some ⟨b, o, none⟩ -> b < U.size /\ ¬ F b
 tb : W.tb = xs.map Z4
 hv : ZC xs = true
structure ArgL (U : Hp) (F : Rg) (sl : Sl) (l : List Int) : Prop where
 s : ∃ X : Rg, SlR sl 1 (YH l) U X /\ ∀ b, X b -> b < U.size /\ ¬ F b
 cap : sl.len <= sl.cap
 len : l.length <= 40
 i : ∀ x ∈ l, I63 x
variable {xs : List (Int × Int × Int)}
theorem SlR.below {s : Sl} {vs : List Value} {X : Rg} (h : SlR s 1 vs U X) : SlR s 1 vs U fun b => X b /\ b < U.size := Lcl.cut (SlR.loc _ _ _) h
theorem ArgL.keep0 {sl : Sl} {l : List Int} (h : ArgL U F sl l) {σ' : Hp} (e : Ext0 U σ') : ArgL σ' F sl l := by
 obtain ⟨X, hs, hX⟩ := h.s
 exact ⟨⟨X, (SlR.loc _ _ _).keep0 hs e, fun b hb => ⟨Nat.lt_of_lt_of_le (hX b hb).1 e.1, (hX b hb).2⟩⟩, h.cap, h.len, h.i⟩
theorem ArgL.lenS {sl : Sl} {l : List Int} (h : ArgL U F sl l) : sl.len = l.length := by
 obtain ⟨X, hs, _⟩ := h.s
 have := hs.1; simp [YH] at this; omega
theorem ArgL.grow {sl : Sl} {l : List Int} (h : ArgL U F sl l) {σ' : Hp} (e : Ext F U σ') : ArgL σ' (Grow F U) sl l := by
 obtain ⟨X, hs, hX⟩ := h.s
 exact ⟨⟨X, (SlR.loc _ _ _).keep hs e fun b _ hb => (hX b hb).2, fun b hb => ⟨Nat.lt_of_lt_of_le (hX b hb).1 e.1, fun hc => by
  rcases hc with hc | hc
  ·exact (hX b hb).2 hc
  ·have := (hX b hb).1; omega⟩⟩, h.cap, h.len, h.i⟩
theorem ZH {U σ' : Hp} {F : Rg} (hz : U.size <= σ'.size) : ∀ b, Grow F σ' b -> Grow F U b := fun b hb => hb.imp id fun h => by omega
theorem WH.back (h : WH U F L W) {σ' : Hp} {G : Rg} {L' : LayW} {W' : Wd} (h' : WH σ' G L' W') (hG : ∀ b, G b -> Grow F U b) : WH σ' (Grow F U) L' W' := h'.mono (fun b _ hb => hG b hb) h.oG h.growO2
theorem Whh {x : Act} (hk : W.ars[numW W.ars.length x.ar]? = some A) : doW W x = actW W (numW W.ars.length x.ar) A x := by unfold doW; rw [hk]
theorem do0 (d : DoOk U F L W xs) (hk : W.ars[k]? = some A) (cl : Int) {K : Int -> Hp -> Prop}
 (hR : ∀ σ', Ext F U σ' -> WH σ' (Grow F U) L (W.put k (ZX A W.sp cl).1 (ZX A W.sp cl).2 W.held) -> K (KT A W.sp cl) σ') :
 ∃ Y : Lay, L.ys[k]? = some Y /\ XJ.call (some ⟨Y.p, 0, none⟩) cl U K := by
 obtain ⟨Y, G, H, hy, hYh, hW2, put⟩ := d.h.stepAS hk
 refine ⟨Y, hy, Wck hW2 cl fun v F' H' hf ex hW3 => ?_⟩
 obtain ⟨s, e1, e2, e3, _⟩ := Gn (d.wi.ga k A hk) (d.wi.ow k A hk) cl
 rw [← K2 s.tb s.room e2] at hW3
 obtain ⟨e', h'⟩ := put v _ _ F' H' ex hf hW3
 exact hR v e' h'
theorem do1 (d : DoOk U F L W xs) (hk : W.ars[k]? = some A) (cl m : Int) {n3 : Nat} {bx : List Value} (hb3 : Blk U n3 bx) (hn3 : ¬ F n3) (hbx : bx[0 + 2]? = some (.int .i64 cl)) {R : Int -> Hp -> Prop}
 (hR : ∀ σ' s', Ext F U σ' -> WH σ' (Grow F U) { L with held := s' } (W.put k (Ye A cl m) W.sp (W.held ++ (YY A cl m).map fun y => ⟨k, cl, y, szOf W.tb cl, false⟩)) -> R (Zm A cl m) σ') :
 ∃ Y : Lay, L.ys[k]? = some Y /\ Wy.call (some ⟨Y.p, 0, none⟩) cl m U fun t47 t471 v3 =>
 Xe [(.i .i64)] (fun I => I 0 v3) fun J (i : Int) v4 =>
 If (decide (i < ((t47.len : Nat) : Int))) (Held v4 fun S =>
  NilP (some ⟨L.w, 0, none⟩) fun a59 =>
  LdH S .s (a59.add 3) fun (t61 : Sl) =>
  LdH S (.i .i64) (Addr.add ⟨n3, 0, none⟩ 2) fun (t64 : Int) =>
  Ix t47.a t47.len i 1 fun a67 =>
  LdH S (.i .i64) a67 fun (t68 : Int) =>
  NilP (some ⟨L.w, 0, none⟩) fun a70 =>
  LdH S .s (a70.add 2) fun (t72 : Sl) =>
  LdH S (.i .i64) (Addr.add ⟨n3, 0, none⟩ 2) fun (t74 : Int) =>
  Ix t72.a t72.len t74 3 fun a75 =>
  LdH S (.i .i64) (a75.add 0) fun (t77 : Int) =>
  Nw (.cells #[.int .i64 (k : Int), .int .i64 t64, .int .i64 t68, .int .i64 t77, .bool false] 39 (0, 0)) v4 fun n79 v5 =>
  And (S v5) <|
  App t61 5 40 39 [.int .i64 0, .int .i64 0, .int .i64 0, .int .i64 0, .bool false] ⟨(some n79), 1, 1⟩ v5 fun t80 v6 =>
  And (S v6) <|
  NilP (some ⟨L.w, 0, none⟩) fun a81 =>
  St1 (a81.add 3) (.slice t80.a t80.len t80.cap) v6 fun v7 =>
  Ar .i64 (i + 1) fun i1 =>
  J i1 v7)
  (R t471 v4) := by
 obtain ⟨Y, G, hy, hYh, hG, hAH, put⟩ := d.h.stepA hk
 refine ⟨Y, hy, Vo hAH cl m fun s v ex hrow hA2 => ?_⟩
 obtain ⟨o, f1, f2, f3, f4, f5⟩ := Gm (d.wi.ga k A hk) cl m
 rw [← K2 o.kp.tb o.kp.room f1] at hA2
 obtain ⟨e', h'⟩ := put v _ (Cut G U) ex (fun b hb => .inl hb.1) hA2
 have hz := e'.1
 have h1 : WH v (Cut F U) L { W with ars := W.ars.set k (Ye A cl m) } := h'.mono (fun b _ hb => by
  rcases hb with hb | hb
  ·exact ⟨hb.1, hb.2.1⟩
  ·exact ⟨hG b hb.1, hb.2⟩) (d.h.o.sub fun b hb => hb.1) fun hb => d.h.o2 hb.1
 generalize hvals : YY A cl m = vals at *
 have hlen : s.len = vals.length := hrow.lenN
 have hs : SlR s 1 (ints vals) v fun b => U.size <= b /\ b < v.size := Zh (SlR.loc _ _ _) hrow.slR
 have hvl : vals.length <= 262144 := by
  have h1 : ∀ x ∈ vals, x < 262144 := fun x hx => by
   obtain ⟨y, e, hy⟩ := TkA.lt o.ga ((f5 cl.toNat (x : Int)).2 (.inr ⟨rfl, x, hx, rfl⟩))
   omega
  exact UC 262144 vals f2 h1
 have hlW := d.wi.len
 have hcls : vals ≠ [] -> ∃ (j : Nat) (c : Cls), cl = j /\ xs[j]? = some ((c.size : Int), (c.pages : Int), (c.batch : Int)) /\ szOf W.tb cl = c.size := fun hne => by
  obtain ⟨j, rfl, hj⟩ := f3 hne
  have hc : (xs.map Z4)[j]? = some A.tb[j] := by rw [← d.tb, ← d.wi.tb k A hk]; exact gGe hj
  refine ⟨j, _, rfl, (Vb d.ht d.hv hc).1, ?_⟩
  unfold szOf
  rw [iTn, d.tb, hc]; rfl
 let F1 : Rg := fun b => Cut F U b ∨ v.size <= b
 have oF1 : Off F1 := fun b hb => by
  rcases hb with hb | hb
  ·exact d.h.o b hb.1
  ·exact HI h1.g b hb
 have o2F1 : ¬ F1 2 := fun hb => by
  rcases hb with hb | hb
  ·exact d.h.o2 hb.1
  ·have := WcX h1.gd; omega
 have h1' : WH v F1 L { W with ars := W.ars.set k (Ye A cl m) } := h1.mono (fun b _ hb => .inl hb) oF1 o2F1
 let mk : Nat -> Pc := fun y => ⟨k, cl, y, szOf W.tb cl, false⟩
 refine YX (a := .i .i64) (fun (t : Int) w => ∃ i : Nat, t = (i : Int) /\ i <= vals.length /\ Ext F1 v w /\ ∃ s', WH w F1 { L with held := s' } { W with ars := W.ars.set k (Ye A cl m), held := W.held ++ (vals.take i).map mk }) (fun t _ => vals.length - t.toNat)
  ⟨0, rfl, by omega, Ext.refl _ _, L.held, by rw [List.take_zero, List.map_nil, List.append_nil]; exact h1'⟩ ?_
 rintro t w ⟨i, rfl, hi, ew, s', hw⟩
 refine ifD (fun hlt => ?_) fun hge => ?_
 ·have hi' : i < vals.length := by omega
  have hx : vals[i]? = some vals[i] := gGe hi'
  generalize vals[i] = y at hx
  obtain ⟨j, c, rfl, hxj, hsz⟩ := hcls (by rintro rfl; simp at hi')
  have hzw := ew.1
  have nF1 : ∀ b, b < U.size -> ¬ F b -> ¬ F1 b := fun b hb hf hc => by
   rcases hc with hc | hc
   ·exact hf hc.1
   ·omega
  have b3 : ∀ u, Ext F1 w u -> Blk u n3 bx := fun u hu => (ew.trans hu).blk ((e'.blk hb3 hn3)) (nF1 _ hb3.lt hn3)
  have hsl : ∀ u, Ext F1 w u -> SlR s 1 (ints vals) u fun b => U.size <= b /\ b < v.size := fun u hu => (SlR.loc _ _ _).keep hs (ew.trans hu) fun b _ hb hc => by
   rcases hc with hc | hc
   ·have := hc.2; omega
   ·omega
  have hact : ∀ u, Ext F1 w u -> Acts u L.table xs := fun u hu => by
   have a1 := Ko d.ht e' fun b hb o ho => (d.htF b o ho).2 hb
   exact Ko a1 (ew.trans hu) fun b hb o ho => nF1 b (d.htF b o ho).1 (d.htF b o ho).2 hb
  refine ⟨fun u => Blk u L.w (hdW { L with held := s' }) /\ Ext F1 w u, ⟨hw.hd, Ext.refl _ _⟩, nilP ⟨s', fun u hu => by rw [add_lit, hu.1.cell]; rfl, ⟨(j : Int), fun u hu => by rw [add_lit, (b3 u hu.2).cell]; exact hbx, ?_⟩⟩⟩
  obtain ⟨b, o', ha, _⟩ := (hsl w (Ext.refl _ _)).cell (j := i) (v := .int .i64 (y : Int)) (by simp [ints, hx])
  rw [ha]
  refine ix (by omega) (by omega) ⟨(y : Int), fun u hu => ?_, ?_⟩
  ·obtain ⟨b', o'', ha', hc⟩ := (hsl u hu.2).cell (j := i) (v := .int .i64 (y : Int)) (by simp [ints, hx])
   rw [ha] at ha'; cases ha'
   rw [add_lit, show o' + (i : Int).toNat * 1 = o' + i by omega]; exact hc
  refine nilP ⟨L.table, fun u hu => by rw [add_lit, hu.1.cell]; rfl, ⟨(j : Int), fun u hu => by rw [add_lit, (b3 u hu.2).cell]; exact hbx, ?_⟩⟩
  obtain ⟨tb, to, hta, _, _⟩ := (hact w (Ext.refl _ _)).2 j _ _ _ hxj
  have hjl := (gSi.1 hxj).1
  have htl := d.ht.1
  rw [hta]
  refine ix (by omega) (by omega) ⟨(c.size : Int), fun u hu => ?_, ?_⟩
  ·obtain ⟨tb', to', hta', _, hc, _⟩ := (hact u hu.2).2 j _ _ _ hxj
   rw [hta] at hta'; cases hta'
   rw [add_lit, add_lit, show to + (j : Int).toNat * 3 + 0 = to + j * 3 by omega]; exact hc
  refine nw (cs := [.int .i64 (k : Int), .int .i64 (j : Int), .int .i64 (y : Int), .int .i64 (c.size : Int), .bool false]) fun v5 z5 e5 b5 => ?_
  have b5' : Blk v5 w.size (pc1 (mk y)) := by
   show Blk v5 w.size [.int .i64 (k : Int), .int .i64 (j : Int), .int .i64 (y : Int), .int .i64 ((szOf W.tb (j : Int) : Nat) : Int), .bool false]
   rw [hsz]; exact b5
  have hwc := hw.cut
  have hw5 := hwc.keep0 e5
  refine ⟨⟨e5.blk hw.hd id, e5.to⟩, ?_⟩
  refine Wcu hw5.sep (by simp only [List.length_append, List.length_map, List.length_take]; omega) b5' (fun hc => by have := hc.2; omega) fun s3 v6 e6 h6 => ?_
  have hz5 := e5.1
  have e56 : Ext (Cut F1 w) w v6 := e5.to.trans e6
  have hd6 : Blk v6 L.w (hdW { L with held := s' }) := by obtain ⟨_, _, hb⟩ := h6.get .hd; exact hb.2
  refine ⟨⟨hd6, e56.sub fun b hb => hb.1⟩, nilP ?_⟩
  refine WgU (L := { L with held := s3 }) h6 (i := 3) (by simp [hdW]) fun v7 e7 h7 => ?_
  have e7' : Ext (Cut F1 w) w v7 := e56.newT e7 fun b hb => by
   rcases hb with hb | hb
   ·exact .inl hb
   ·exact .inr (by omega)
  have h7' : WH v7 F1 { L with held := s3 } { W with ars := W.ars.set k (Ye A (j : Int) m), held := (W.held ++ (vals.take i).map mk) ++ [mk y] } := by
   refine (hwc.re e7' hw.len hw.hs (L' := { L with held := s3 }) (W' := { W with ars := W.ars.set k (Ye A (j : Int) m), held := (W.held ++ (vals.take i).map mk) ++ [mk y] }) ((Sep.loc CW.loc).mono h7 fun b _ hb => ?_) oF1 o2F1)
   rcases hb with hb | hb
   ·exact hb.1
   ·exact .inr (by omega)
  refine arN (m := i + 1) (by omega) (by omega) ⟨⟨i + 1, rfl, by omega, ew.trans (e7'.sub fun b hb => hb.1), s3, ?_⟩, by omega⟩
  have : (vals.take (i + 1)).map mk = (vals.take i).map mk ++ [mk y] := by rw [List.take_add_one, hx]; simp
  rw [this, ← List.append_assoc]; exact h7'
 ·have hii : i = vals.length := by omega
  subst hii
  rw [List.take_length] at hw
  have e2 : Ext F U w := e'.newT ew fun b hb => by
   rcases hb with hb | hb
   ·exact .inl hb.1
   ·exact .inr (by omega)
  refine hR w s' e2 (d.h.back hw fun b hb => ?_)
  rcases hb with hb | hb
  ·exact .inl hb.1
  ·exact .inr (by omega)
end Go.Ar
namespace Go.Ar
open Go Go.Vc Go.Proofs
open Go.Bu (XA Zg Xj cnt)


variable {U : Hp} {F : Rg} {L : LayW} {W : Wd} {k : Nat} {A : AR} {xs : List (Int × Int × Int)}
theorem DoOk.keep0 (d : DoOk U F L W xs) {σ' : Hp} (e : Ext0 U σ') : DoOk σ' F L W xs := ⟨d.h.keep0 e, d.wi, d.n, d.k1, d.k2, Zc d.ht e, fun b o hb => ⟨Nat.lt_of_lt_of_le (d.htF b o hb).1 e.1, (d.htF b o hb).2⟩, d.tb, d.hv⟩
theorem WcT (h : GA A) (hn : A.n <= 208) (hlow : ∀ p, p < 16 -> A.f p = 0) : (KV (Zi A).st).length <= 12 := by
 obtain ⟨o, _, _⟩ := Hh h
 have hl : (Zi A).st.length = A.n := by rw [o.ga.pg.len, o.kp.n]
 have h0 : ∀ p, p < 16 -> (Zi A).f p = 0 := fun p hp => (o.kp.z p).2 (hlow p hp)
 have hn1 := h.pg.n1
 unfold KV
 rw [hl]
 have e : List.range (A.n / 16) = 0 :: (List.range (A.n / 16 - 1)).map Nat.succ := by
  rw [← List.range_succ_eq_map]; congr 1; omega
 rw [e, List.filter_cons]
 have hz : cntR (Zi A).st (16 * 0) (16 * 0 + 16) 2 = 0 := (VB (by omega) (by rw [hl]; omega)).2 fun p p1 p2 e2 => by
  have := h0 p (by omega); unfold AR.f at this; omega
 rw [hz]
 have : ¬ (decide (0 < 0) = true) := by simp
 rw [if_neg this]
 refine Nat.le_trans (List.length_filter_le _ _) ?_
 rw [List.length_map, List.length_range]; omega
theorem WhF (d : DoOk U F L W xs) {Y : Lay} (hk : W.ars[k]? = some A) (hy : L.ys[k]? = some Y) (x : Act) (hxa : I63 x.a) (hkd : x.kd ≠ 0 /\ x.kd ≠ 1 /\ x.kd ≠ 2 /\ x.kd ≠ 3 /\ x.kd ≠ 4 /\ x.kd ≠ 5 /\ x.kd ≠ 6) (sl : Sl) {R : Int -> Hp -> Prop}
 (hR : ∀ σ' s', Ext F U σ' -> WH σ' (Grow F U) { L with held := s' } (actW W k A x).1 -> R (actW W k A x).2 σ') :
 WO.call (some ⟨L.w, 0, none⟩) (some ⟨Y.p, 0, none⟩) x.kd x.ar x.cl x.a x.b sl U R := by
 refine WO.of_vc ?_
 unfold WO.vc
 have hkl := (gSi.1 hk).1
 have hself : W.put k A W.sp W.held = W := by
  have : W.ars.set k A = W.ars := by
   apply List.ext_getElem?
   intro j
   by_cases hj : j = k
   ·subst hj; rw [List.getElem?_set_self hkl, hk]
   ·rw [List.getElem?_set_ne (Ne.symm hj)]
  show ({ W with sp := W.sp, ars := W.ars.set k A, held := W.held } : Wd) = W
  rw [this]
 refine nw (cs := [.int .i64 x.kd, .int .i64 x.ar, .int .i64 x.cl, .int .i64 x.a, .int .i64 x.b, .slice sl.a sl.len sl.cap]) fun v hz e hb => ?_
 have dv := d.keep0 e
 have hlw := d.wi.len
 have ga := d.wi.ga k A hk
 obtain ⟨h0, h1, h2, h3, h4, h5, h6⟩ := hkd
 have act : actW W k A x = if x.kd = 7 then (W, WgD A x.a)
  else if x.kd = 10 then (W.put k (relS A W.sp x.a).1 (relS A W.sp x.a).2 W.held, relE x.a)
  else if x.kd = 11 then (W.put k (Vh A W.sp).1 (Vh A W.sp).2 W.held, 0)
  else if x.kd = 12 then (W.put k (QB A) W.sp (Ux (W.ars.set k (QB A)) W.held), 0)
  else if x.kd = 13 then (if Qc W.held x.a then ({ W with sp := QA W.sp x.a x.b }, accE W.sp x.a) else (W, 0))
  else (W, 0) := by unfold actW; rw [if_neg h0, if_neg h1, if_neg h2, if_neg h3, if_neg h4, if_neg h5, if_neg h6]
 have same : ∀ (r : Int), actW W k A x = (W, r) -> ∀ w, Ext0 v w -> R r w := fun r hr w ew => by
  rw [hr] at hR
  have E : Ext0 U w := Ext.trans e ew
  exact hR w L.held E.to (d.h.back (d.h.keep0 E) fun b hb => .inl hb)
 obtain ⟨Y', hy', hYh, hAH⟩ := dv.h.ar hk
 rw [hy] at hy'; cases hy'
 refine hb.rI rfl (iff_ (fun c7 => ?_) fun c7 => ?_)
 ·have c7 : x.kd = 7 := by simpa using c7
  rw [if_pos c7] at act
  refine hb.rI rfl (Wdf hAH ga.runsOk _ hxa (fun w a b ew hf => ?_) fun w ew hf => ?_)
  ·exact same 0 (by rw [act]; unfold WgD; rw [hf]; rfl) w ew
  ·exact same 8 (by rw [act]; unfold WgD; rw [hf]; rfl) w ew
 have c7 : x.kd ≠ 7 := by simpa using c7
 rw [if_neg c7] at act
 refine iff_ (fun c8 => ?_) fun c8 => ?_
 ·have c8 : x.kd = 8 := by simpa using c8
  rw [if_neg (by omega), if_neg (by omega), if_neg (by omega), if_neg (by omega)] at act
  exact hb.rI rfl (K7 hAH ga.runsOk _ hxa fun w ew => same 0 act w ew)
 have c8 : x.kd ≠ 8 := by simpa using c8
 refine iff_ (fun c9 => ?_) fun c9 => ?_
 ·have c9 : x.kd = 9 := by simpa using c9
  rw [if_neg (by omega), if_neg (by omega), if_neg (by omega), if_neg (by omega)] at act
  exact hb.rI rfl (UT hAH _ (same 0 act v (Ext.refl _ _)))
 refine iff_ (fun c10 => ?_) fun c10 => ?_
 ·have c10 : x.kd = 10 := by simpa using c10
  rw [if_pos c10] at act
  obtain ⟨Y', G, H, hy', _, hW2, put⟩ := dv.h.stepAS hk
  rw [hy] at hy'; cases hy'
  obtain ⟨s, e1, e2, e3⟩ := G4 ga (d.wi.ow k A hk) x.a
  have hn : A.n <= 208 := by rw [← (d.wi.ow k A hk).l]; exact d.n
  refine hb.rI rfl (Wbd hW2 _ (WcT ga hn (d.wi.low k A hk)) fun w F' H' hf ex hW3 => ?_)
  rw [← K2 s.tb s.room e2] at hW3
  obtain ⟨e', h'⟩ := put w _ _ F' H' ex hf hW3
  rw [act] at hR
  exact hR w L.held ((Ext0.to e).trans e') (d.h.back h' (ZH e.1))
 have c10 : x.kd ≠ 10 := by simpa using c10
 rw [if_neg c10] at act
 refine iff_ (fun c11 => ?_) fun c11 => ?_
 ·have c11 : x.kd = 11 := by simpa using c11
  rw [if_pos c11] at act
  obtain ⟨Y', G, H, hy', _, hW2, put⟩ := dv.h.stepAS hk
  rw [hy] at hy'; cases hy'
  have t := UM ga (d.wi.ow k A hk)
  refine GG hW2 fun w ex hW3 => ?_
  rw [← K2 t.st.tb t.st.room t.tra] at hW3
  obtain ⟨e', h'⟩ := put w _ _ (Cut G v) (Cut H v) ex ⟨fun b hb => .inl hb.1, fun b hb => hb.1⟩ hW3
  rw [act] at hR
  exact hR w L.held ((Ext0.to e).trans e') (d.h.back h' (ZH e.1))
 have c11 : x.kd ≠ 11 := by simpa using c11
 rw [if_neg c11] at act
 refine iff_ (fun c12 => ?_) fun c12 => ?_
 ·have c12 : x.kd = 12 := by simpa using c12
  rw [if_pos c12] at act
  obtain ⟨Y', G, hy', _, hG, hAH', put⟩ := dv.h.stepA hk
  rw [hy] at hy'; cases hy'
  refine Wfy hAH' ga.traI fun w ex hA => ?_
  obtain ⟨e', h'⟩ := put w _ (Grow G v) ex (fun b hb => hb) hA
  have t := GL ga
  have hgl : ∀ b, (F b /\ b < v.size /\ ¬ G b ∨ Grow G v b) -> Grow F v b := fun b hb => by
   rcases hb with hb | hb
   ·exact .inl hb.1
   ·exact hb.imp (hG b) id
  refine Whg h' (by show W.held.length <= 1000000; omega) (fun p hp => ?_) fun w2 s' e2 h2 => ?_
  ·obtain ⟨A', hA', hro, hx⟩ := d.wi.taken hp
   by_cases hpk : p.k = k
   ·rw [hpk]
    exact ⟨QB A, List.getElem?_set_self hkl, t.ob.ga.runsOk, hx⟩
   ·exact ⟨A', (List.getElem?_set_ne (Ne.symm hpk)).trans hA', hro, hx⟩
  ·rw [act] at hR
   have hzw := e'.1
   refine hR w2 s' (((Ext0.to e).trans e').newT e2 fun b hb => ?_) (d.h.back h2 fun b hb => ?_)
   ·exact (ZH e.1) b (hgl b hb)
   ·rcases hb with hb | hb
    ·exact (ZH e.1) b (hgl b hb)
    ·have := e.1; exact .inr (by omega)
 have c12 : x.kd ≠ 12 := by simpa using c12
 rw [if_neg c12] at act
 refine iff_ (fun c13 => ?_) fun c13 => ?_
 ·have c13 : x.kd = 13 := by simpa using c13
  rw [if_pos c13] at act
  refine hb.rI rfl (Wdu dv.h _ hxa (by omega) ?_)
  refine iff_ (fun hi => ?_) fun hi => ?_
  ·rw [if_pos hi] at act
   have hxs : x.a <= 1000000000000 := by
    unfold Qc at hi
    rw [List.any_eq_true] at hi
    obtain ⟨p, hp, hx⟩ := hi
    simp only [Bool.and_eq_true, decide_eq_true_eq] at hx
    have := (d.wi.addr_lt hp).2
    omega
   obtain ⟨G, hG, hS, hO, put⟩ := dv.h.stepS
   refine nilP (dv.h.hd.rP rfl (hb.rI rfl (hb.rI rfl (Wgs hS dv.h.g dv.h.gd _ hxs _ fun w ew hS' => ?_))))
   obtain ⟨e', h'⟩ := put w _ ew hS'
   rw [act] at hR
   exact hR w L.held ((Ext0.to e).trans e') (d.h.back h' (ZH e.1))
  ·rw [hi] at act
   exact same 0 (by rw [act]; rfl) v (Ext.refl _ _)
 have c13 : x.kd ≠ 13 := by simpa using c13
 rw [if_neg c13] at act
 exact same 0 act v (Ext.refl _ _)
end Go.Ar
namespace Go.Ar
open Go Go.Vc Go.Proofs
open Go.Bu (XA Zg Xj cnt)


variable {U : Hp} {F : Rg} {L : LayW} {W : Wd} {k : Nat} {A : AR} {xs : List (Int × Int × Int)}
theorem WiZ {cs : List Value} {Q : Hp -> Rg -> Prop} : ∀ j, j ≠ LbW.ar k -> CWq W L cs k Q j = CW W L cs j := by
 intro j hj
 funext U F
 unfold CWq
 apply propext
 exact ⟨fun h => h.1, fun h => ⟨h, fun e => (hj e).elim⟩⟩
theorem CWq.none {cs : List Value} (h : Sep (CW W L cs) U F) : Sep (CWq W L cs k Wc1) U F := by
 obtain ⟨ρ, h⟩ := h
 exact ⟨ρ, fun i => ⟨h i, fun _ => trivial⟩⟩
theorem do3 (d : DoOk U F L W xs) (hk : W.ars[k]? = some A) (cl : Int) {n3 : Nat} {bx : List Value} (hb3 : Blk U n3 bx) (hn3 : ¬ F n3) (hbx : bx[0 + 2]? = some (.int .i64 cl)) {R : Int -> Hp -> Prop}
 (hR : ∀ σ', Ext F U σ' -> WH σ' (Grow F U) L (W.put k (Y7 A cl) W.sp (QI W.held k cl (Y8 A cl) false)) -> R (Z1 A cl) σ') :
 ∃ Y : Lay, L.ys[k]? = some Y /\ WG.call (some ⟨Y.p, 0, none⟩) cl U fun t111 t1111 v11 =>
  LdI .i64 (Addr.add ⟨n3, 0, none⟩ 2) v11 fun t118 =>
  Wt.call (some ⟨L.w, 0, none⟩) (k : Int) t118 t111 false v11 fun v12 =>
  R t1111 v12 := by
 have hl := (gSi.1 hk).1
 have hy : L.ys[k]? = some (L.ys[k]'(by rw [d.h.len]; exact hl)) := gGe _
 generalize (L.ys[k]'(by rw [d.h.len]; exact hl)) = Y at hy
 obtain ⟨G, hG, hi, hput⟩ := d.h.sep.step CW.loc (.ar k)
 simp only [CW, hk, hy, ArR] at hi
 refine ⟨Y, hy, Hr hi cl fun s v ex hs hcap hA => ?_⟩
 have e' := ex.sub hG
 have hlw := d.wi.len
 have hq : Lcl (SlR s 1 (YH (Y8 A cl))) := SlR.loc _ _ _
 have hslen : s.len = (Y8 A cl).length := by have := hs.1; simp [YH] at this; omega
 obtain ⟨o, _, f2, f3, _, _⟩ := WaU (d.wi.ga k A hk) cl
 have hvl : (Y8 A cl).length <= 262144 := by
  have hb : ∀ x ∈ Y8 A cl, ∃ y : Nat, x = y /\ y < 262144 := fun x hx => by
   obtain ⟨t, ht, hx2⟩ := f2 x hx
   have hkl : cl.toNat < A.tb.length := by rw [← (d.wi.ga k A hk).lt]; exact (gSi.1 ht).1
   obtain ⟨c, ss, t', hc, _⟩ := (d.wi.ga k A hk).cl hkl
   exact TkA.lt (d.wi.ga k A hk) ((QM hc).2 ((d.wi.ga k A hk).trt _ c ss t hc ht x hx2))
  have h2 := UC 262144 ((Y8 A cl).map Int.toNat) (by
   rw [List.Nodup, List.pairwise_map]
   refine f3.imp_of_mem fun {a b} ha hb2 hab e => hab ?_
   obtain ⟨y, rfl, _⟩ := hb a ha
   obtain ⟨z, rfl, _⟩ := hb b hb2
   simp at e; rw [e]) fun x hx => by
   obtain ⟨y, hy, rfl⟩ := List.mem_map.1 hx
   obtain ⟨z, rfl, hz⟩ := hb y hy
   simpa using hz
  simpa using h2
 have hs1 : Sep (CWq { W with ars := W.ars.set k (Y7 A cl) } L (hdW L) k (SlR s 1 (YH (Y8 A cl)))) v F := by
  refine (Sep.loc (CWq.loc hq)).mono (hput v (CWq { W with ars := W.ars.set k (Y7 A cl) } L (hdW L) k (SlR s 1 (YH (Y8 A cl)))) G (fun j hj => (WiZ j hj).trans (Whp j hj)) ex (fun b hb => .inl hb) ⟨?_, fun _ => hs⟩ (CWq.loc hq _)) fun b _ hb => Q6 hG (fun b hb => hb) b hb
  show ArR L.ys[k]? (W.ars.set k (Y7 A cl))[k]? v G
  rw [hy, List.getElem?_set_self hl]; exact hA
 have b3 := ex.blk hb3 fun hf => hn3 (hG _ hf)
 refine b3.rI hbx (Wfc hq hs1 k cl false hslen (by omega) (by show W.held.length <= _; omega) (fun w held' _ hw => ?_) fun w ew hw => ?_)
 ·obtain ⟨X, _, hx⟩ := hw.get (.ar k)
  exact ⟨X, hx.2 rfl⟩
 ·have E := e'.trans ew
  refine hR w E (d.h.re (W' := W.put k (Y7 A cl) W.sp (QI W.held k cl (Y8 A cl) false)) (L' := L) E (by show L.ys.length = (W.ars.set k _).length; simp [d.h.len]) d.h.hs ((Sep.loc CW.loc).mono (CWq.out hw) fun b _ hb => .inl hb) d.h.oG d.h.growO2)
theorem Wiq (d : DoOk U F L W xs) (hF : ∀ b, F b -> b < U.size) (x : Act) {sl : Sl} (ha : ArgL U F sl x.l) (hxa : I63 x.a) {R : Int -> Hp -> Prop}
 (hR : ∀ σ' s', Ext F U σ' -> WH σ' (Grow F U) { L with held := s' } (doW W x).1 -> R (doW W x).2 σ') :
 Wr.call (some ⟨L.w, 0, none⟩) x.kd x.ar x.cl x.a x.b sl U R := by
 refine Wr.of_vc ?_
 unfold Wr.vc
 refine nw (cs := [.int .i64 x.kd, .int .i64 x.ar, .int .i64 x.cl, .int .i64 x.a, .int .i64 x.b, .slice sl.a sl.len sl.cap]) fun v hz e hb => ?_
 have hk1 := d.k1; have hk2 := d.k2
 refine hb.rI rfl (hb.rI rfl (hb.rI rfl (hb.rI rfl (hb.rI rfl (hb.rS rfl (We9 (d.h.keep0 e) (by omega) (by omega) _ _ _ _ _ _ fun v1 e1 => ?_))))))
 have E1 := Ext.trans e e1
 have z1 := E1.1
 have d1 := d.keep0 E1
 have a1 := ha.keep0 E1
 have b1 := e1.blk hb id
 have nF : ¬ F U.size := fun hf => by have := hF _ hf; omega
 have hkl := (WgL x.ar (n := W.ars.length) (by omega)).1
 have hk : W.ars[numW W.ars.length x.ar]? = some (W.ars[numW W.ars.length x.ar]'hkl) := gGe _
 have hact := Whh hk
 generalize (W.ars[numW W.ars.length x.ar]'hkl) = A at hk hact
 rw [hact] at hR
 generalize numW W.ars.length x.ar = k at hk hR
 have fin : ∀ w s', Ext F v1 w -> ∀ (W' : Wd) (r : Int), actW W k A x = (W', r) -> WH w (Grow F v1) { L with held := s' } W' -> R r w := fun w s' ew W' r hr hw => by
  rw [hr] at hR
  exact hR w s' ((Ext0.to E1).trans ew) (d.h.back hw (ZH z1))
 have same : ∀ w, Ext0 v1 w -> ∀ r, actW W k A x = (W, r) -> R r w := fun w ew r hr => fin w L.held ew.to W r hr (d1.h.back (d1.h.keep0 ew) fun b hb => .inl hb)
 obtain ⟨Y, hy, hYh, hAH⟩ := d1.h.ar hk
 have hlw := d.wi.len
 refine nilP (d1.h.hd.rS rfl (d1.h.rA hy (b1.rI rfl (iff_ (fun c0 => ?_) fun c0 => ?_))))
 ·have c0 : x.kd = 0 := by simpa using c0
  obtain ⟨Y', hy', hc⟩ := do0 (K := R) d1 hk x.cl fun w ew hw => fin w L.held ew _ _ (by unfold actW; rw [if_pos c0]) hw
  rw [hy] at hy'; cases hy'
  exact b1.rI rfl hc
 have c0 : x.kd ≠ 0 := by simpa using c0
 refine iff_ (fun c1 => ?_) fun c1 => ?_
 ·have c1 : x.kd = 1 := by simpa using c1
  obtain ⟨Y', hy', hc⟩ := do1 (R := R) d1 hk x.cl x.a b1 nF rfl fun w s' ew hw => fin w s' ew _ _ (by unfold actW; rw [if_neg c0, if_pos c1]) hw
  rw [hy] at hy'; cases hy'
  exact b1.rI rfl (b1.rI rfl hc)
 have c1 : x.kd ≠ 1 := by simpa using c1
 obtain ⟨X, hsX, hX⟩ := a1.s
 have hl40 := ha.len
 refine iff_ (fun c2 => ?_) fun c2 => ?_
 ·have c2 : x.kd = 2 := by simpa using c2
  have act : actW W k A x = if ownW W.held k x.cl x.l then (W.put k (Yu A x.cl x.l) W.sp (if Zr A x.cl x.l = 0 then KN W.held k x.cl x.l else W.held), Zr A x.cl x.l) else (W, 0) := by unfold actW; rw [if_neg c0, if_neg c1, if_pos c2]
  refine b1.rI rfl (b1.rI rfl (b1.rI rfl (b1.rI rfl (b1.rI rfl (b1.rS rfl (WgP d1.h k _ _ _ _ _ hsX (by omega) (by omega) fun v8 e8 => ?_))))))
  have b8 := e8.blk b1 id
  refine iff_ (fun ho => ?_) fun ho => ?_
  ·have ho : ownW W.held k x.cl x.l = false := by simpa using ho
   rw [ho] at act
   exact same v8 e8 0 act
  ·have ho : ownW W.held k x.cl x.l = true := by simpa using ho
   rw [ho, if_pos rfl] at act
   have d8 := d1.keep0 e8
   have a8 := a1.keep0 e8
   obtain ⟨X8, hsX8, hX8⟩ := a8.s
   obtain ⟨Y', G, hy', _, hG, hAH', put⟩ := d8.h.stepA hk
   rw [hy] at hy'; cases hy'
   refine b8.rI rfl (b8.rS rfl (KP hAH' x.cl a8.i (by omega) a8.cap (.inl ⟨X8, hsX8, fun b _ hb hg => (hX8 b hb).2 (hG b hg)⟩) fun v9 ex hA => ?_))
   obtain ⟨o, f1, _, _⟩ := UF (d.wi.ga k A hk) (k := x.cl) (xs := x.l) fun h0 y hy => by
    obtain ⟨j, c, ss, hj, _⟩ := VH (d.wi.ga k A hk) h0
    rw [hj, iTn]; exact d.wi.own1 hk ho hj y hy
   rw [← K2 o.kp.tb o.kp.room f1] at hA
   obtain ⟨e9, h9⟩ := put v9 _ (Grow G v8) ex (fun b hb => hb) hA
   have b9 := ex.blk b8 fun hf => nF (hG _ hf)
   have h9' := d8.h.back h9 fun b hb => by
    rcases hb with hb | hb
    ·exact .inl hb.1
    ·exact hb.imp (hG b) id
   have e19 : Ext F v1 v9 := (e8.to).trans e9
   refine iff_ (fun he => ?_) fun he => ?_
   ·have he : Zr A x.cl x.l = 0 := by simpa using he
    rw [if_pos he] at act
    have a9 := a8.grow e9
    obtain ⟨X9, hsX9, hX9⟩ := a9.s
    refine b9.rI rfl (b9.rS rfl (Wd5 h9' k x.cl hsX9 hX9 (by show W.held.length <= _; omega) (by omega) fun w s' ew hw => ?_))
    have z9 := e9.1; have z8 := e8.1
    refine fin w s' (e19.newT ew fun b hb => ZH z8 b hb) _ _ act (d1.h.back hw fun b hb => ?_)
    rcases hb with hb | hb
    ·exact ZH z8 b hb
    ·exact .inr (by omega)
   ·have he : Zr A x.cl x.l ≠ 0 := by simpa using he
    rw [if_neg he] at act
    exact fin v9 L.held e19 _ _ act (d1.h.back h9' (ZH e8.1))
 have c2 : x.kd ≠ 2 := by simpa using c2
 refine iff_ (fun c3 => ?_) fun c3 => ?_
 ·have c3 : x.kd = 3 := by simpa using c3
  obtain ⟨Y', hy', hc⟩ := do3 (R := R) d1 hk x.cl b1 nF rfl fun w ew hw => fin w L.held ew _ _ (by unfold actW; rw [if_neg c0, if_neg c1, if_neg c2, if_pos c3]) hw
  rw [hy] at hy'; cases hy'
  exact b1.rI rfl hc
 have c3 : x.kd ≠ 3 := by simpa using c3
 refine iff_ (fun c4 => ?_) fun c4 => ?_
 ·have c4 : x.kd = 4 := by simpa using c4
  have act : actW W k A x = if ownW W.held k x.cl x.l then (W.put k (Qu A x.cl x.l) W.sp (if KJ A x.cl x.l then QI W.held k x.cl x.l true else W.held), VM A x.cl x.l) else (W, 0) := by unfold actW; rw [if_neg c0, if_neg c1, if_neg c2, if_neg c3, if_pos c4]
  refine b1.rI rfl (b1.rI rfl (b1.rI rfl (b1.rI rfl (b1.rI rfl (b1.rS rfl (WgP d1.h k _ _ _ _ _ hsX (by omega) (by omega) fun v8 e8 => ?_))))))
  have b8 := e8.blk b1 id
  refine iff_ (fun ho => ?_) fun ho => ?_
  ·have ho : ownW W.held k x.cl x.l = false := by simpa using ho
   rw [ho] at act
   exact same v8 e8 0 act
  ·have ho : ownW W.held k x.cl x.l = true := by simpa using ho
   rw [ho, if_pos rfl] at act
   have d8 := d1.keep0 e8
   have a8 := a1.keep0 e8
   obtain ⟨X8, hsX8, hX8⟩ := a8.s
   obtain ⟨Y', G, hy', _, hG, hAH', put⟩ := d8.h.stepA hk
   rw [hy] at hy'; cases hy'
   refine b8.rI rfl (b8.rS rfl (GZ hAH' x.cl hsX8 a8.i fun v9 ex hA => ?_))
   obtain ⟨e9, h9⟩ := put v9 _ (Grow G v8) ex (fun b hb => hb) hA
   have b9 := ex.blk b8 fun hf => nF (hG _ hf)
   have h9' := d8.h.back h9 fun b hb => by
    rcases hb with hb | hb
    ·exact .inl hb.1
    ·exact hb.imp (hG b) id
   have e19 : Ext F v1 v9 := (e8.to).trans e9
   refine iff_ (fun ht => ?_) fun ht => ?_
   ·rw [if_pos ht] at act
    have a9 := a8.grow e9
    obtain ⟨X9, hsX9, hX9⟩ := a9.s
    refine b9.rI rfl (b9.rS rfl (Wfc (k0 := k) Wc1.loc (CWq.none h9'.sep) k x.cl true a9.lenS (by omega) (by show W.held.length <= _; omega) (fun w held' ew _ => ⟨X9, (SlR.loc _ _ _).keep hsX9 ew fun b _ hb => (hX9 b hb).2⟩) fun w ew hw => ?_))
    have z8 := e8.1
    refine fin w L.held (e19.newT ew fun b hb => ZH z8 b hb) _ _ act (d1.h.back ?_ (ZH z8))
    exact h9'.re (L' := L) (W' := W.put k (Qu A x.cl x.l) W.sp (QI W.held k x.cl x.l true)) ew h9'.len h9'.hs (CWq.out hw) h9'.o h9'.o2
   ·rw [ht] at act
    exact fin v9 L.held e19 _ _ act (d1.h.back h9' (ZH e8.1))
 have c4 : x.kd ≠ 4 := by simpa using c4
 refine iff_ (fun c5 => ?_) fun c5 => ?_
 ·have c5 : x.kd = 5 := by simpa using c5
  have act : actW W k A x = (W.put k (Yt A W.sp x.a x.b).1 (Yt A W.sp x.a x.b).2 (if ZT A W.sp x.a x.b = 0 then W.held ++ [⟨k, -1, QF A W.sp x.a x.b * 256, x.a.toNat * 256, false⟩] else W.held), ZT A W.sp x.a x.b) := by
   unfold actW; rw [if_neg c0, if_neg c1, if_neg c2, if_neg c3, if_neg c4, if_pos c5]
  obtain ⟨Y', G, H, hy', _, hW2, put⟩ := d1.h.stepAS hk
  rw [hy] at hy'; cases hy'
  refine b1.rI rfl (b1.rI rfl (VF hW2 x.a x.b fun v9 F' H' hf ex hW3 => ?_))
  have htr : traT (Yt A W.sp x.a x.b).1 Y = traT A Y := by
   rcases Q1 (d.wi.ga k A hk) (d.wi.ow k A hk) x.a x.b with ⟨e, _, _⟩ | ⟨y, A1, sp1, _, _, _, _, _, _, s, et, _⟩
   ·rw [e]
   ·exact K2 s.tb s.room et
  rw [← htr] at hW3
  obtain ⟨e9, h9⟩ := put v9 _ _ F' H' ex hf hW3
  have b9 := e9.blk b1 nF
  refine iff_ (fun he => ?_) fun he => ?_
  ·have he : ZT A W.sp x.a x.b = 0 := by simpa using he
   rw [if_pos he] at act
   obtain ⟨y, A1, sp1, hpo, _, hV, eS, _, _, s, et, _⟩ := (Q1 (d.wi.ga k A hk) (d.wi.ow k A hk) x.a x.b).resolve_left fun hh => hh.2.1 he
   obtain ⟨m', a', hm, ha', hm1, hm2, _⟩ := UY hpo
   have hyn : y + m' <= 1024 := by
    have hr : (y, m') ∈ (Yt A W.sp x.a x.b).1.runs := by rw [eS, hm]; simp
    have := s.ga.fit hr
    have := s.ga.pg.n2
    omega
   rw [hV] at act ⊢
   have h9c := h9.cut
   have nC : ∀ u, Ext (Cut (Grow F v1) v9) v9 u -> Blk u U.size [.int .i64 x.kd, .int .i64 x.ar, .int .i64 x.cl, .int .i64 x.a, .int .i64 x.b, .slice sl.a sl.len sl.cap] := fun u hu => hu.blk b9 fun hc => by
    rcases hc.1 with hc | hc
    ·exact nF hc
    ·have := b1.lt; omega
   refine ⟨fun u => Ext (Cut (Grow F v1) v9) v9 u /\ Blk u L.w (hdW L), ⟨Ext.refl _ _, h9.hd⟩, nilP ⟨L.held, fun u hu => by rw [add_lit, hu.2.cell]; rfl, ?_⟩⟩
   refine ar (by omega) (by omega) ⟨x.a, fun u hu => by rw [add_lit, (nC u hu.1).cell]; rfl, ar (by omega) (by omega) ?_⟩
   refine nw (cs := [.int .i64 (k : Int), .int .i64 (-1), .int .i64 ((y : Int) * 256), .int .i64 (x.a * 256), .bool false]) fun v5 z5 e5 b5 => ?_
   have b5' : Blk v5 v9.size (pc1 ⟨k, -1, y * 256, x.a.toNat * 256, false⟩) := by
    show Blk v5 v9.size [.int .i64 (k : Int), .int .i64 (-1), .int .i64 ((y * 256 : Nat) : Int), .int .i64 ((x.a.toNat * 256 : Nat) : Int), .bool false]
    have q1 : ((y * 256 : Nat) : Int) = (y : Int) * 256 := by rw [Int.natCast_mul]; rfl
    have q2 : ((x.a.toNat * 256 : Nat) : Int) = x.a * 256 := by rw [hm, iTn, Int.natCast_mul]; rfl
    rw [q1, q2]; exact b5
   have hw5 := h9c.keep0 e5
   refine ⟨⟨e5.to, e5.blk h9.hd id⟩, ?_⟩
   refine Wcu hw5.sep (by show W.held.length <= _; omega) b5' (fun hc => by have := hc.2; omega) fun s3 v6 e6 h6 => ?_
   have hd6 : Blk v6 L.w (hdW L) := by obtain ⟨_, _, hb⟩ := h6.get .hd; exact hb.2
   have e56 : Ext (Cut (Grow F v1) v9) v9 v6 := e5.to.trans e6
   refine ⟨⟨e56, hd6⟩, nilP ?_⟩
   refine WgU (L := { L with held := s3 }) h6 (i := 3) (by simp [hdW]) fun v7 e7 h7 => ?_
   have z9 := e9.1; have z5' := e5.1
   have e7' : Ext (Cut (Grow F v1) v9) v9 v7 := e56.newT e7 fun b hb => by
    rcases hb with hb | hb
    ·exact .inl hb
    ·exact .inr (by omega)
   have h7' : WH v7 (Grow (Cut (Grow F v1) v9) v5) { L with held := s3 } (W.put k (Yt A W.sp x.a x.b).1 (Yt A W.sp x.a x.b).2 (W.held ++ [⟨k, -1, y * 256, x.a.toNat * 256, false⟩])) :=
    h9c.re e7' h9.len h9.hs (L' := { L with held := s3 }) h7 hw5.oG hw5.growO2
   have h8 : WH v7 (Grow F v1) { L with held := s3 } (W.put k (Yt A W.sp x.a x.b).1 (Yt A W.sp x.a x.b).2 (W.held ++ [⟨k, -1, y * 256, x.a.toNat * 256, false⟩])) := d1.h.back h7' fun b hb => ?_
   have e8 : Ext F v1 v7 := e9.newT e7' fun b hb => hb.1
   have hf := fin v7 s3 e8 _ _ act
   exact hf h8
   rcases hb with hb | hb
   ·exact hb.1
   ·exact .inr (by omega)
  ·have he : ZT A W.sp x.a x.b ≠ 0 := by simpa using he
   rw [if_neg he] at act
   exact fin v9 L.held e9 _ _ act h9
 have c5 : x.kd ≠ 5 := by simpa using c5
 refine iff_ (fun c6 => ?_) fun c6 => ?_
 ·have c6 : x.kd = 6 := by simpa using c6
  have act : actW W k A x = (W.put k (ZO A x.a) W.sp (if ZS A x.a = 0 then KN W.held k (-1) [x.a * 256] else W.held), ZS A x.a) := by
   unfold actW; rw [if_neg c0, if_neg c1, if_neg c2, if_neg c3, if_neg c4, if_neg c5, if_pos c6]
  obtain ⟨Y', G, hy', _, hG, hAH', put⟩ := d1.h.stepA hk
  rw [hy] at hy'; cases hy'
  have ga := d.wi.ga k A hk
  have hn2 := ga.pg.n2
  refine b1.rI rfl (Ul hAH' x.a (fun r hr => by have := ga.fit hr; omega) fun v9 ex hA => ?_)
  obtain ⟨⟨kp, _⟩, et, _, _, f2⟩ := Wam ga x.a
  rw [← K2 kp.tb kp.room et] at hA
  obtain ⟨e9, h9⟩ := put v9 _ (Grow G v1) ex (fun b hb => hb) hA
  have b9 := ex.blk b1 fun hf => nF (hG _ hf)
  have h9' := d1.h.back h9 fun b hb => by
   rcases hb with hb | hb
   ·exact .inl hb.1
   ·exact hb.imp (hG b) id
  refine iff_ (fun he => ?_) fun he => ?_
  ·have he : ZS A x.a = 0 := by simpa using he
   rw [if_pos he] at act
   obtain ⟨r, hr, hxr, _⟩ := f2 he
   have := ga.fit hr
   refine b9.rI rfl (ar (by omega) (by omega) ?_)
   refine nw (cs := [.int .i64 (x.a * 256)]) fun v10 z10 e10 b10 => ?_
   have h10 := h9'.cut.keep0 e10
   have hs10 : SlR ⟨some ⟨v9.size, 0, none⟩, 1, 1⟩ 1 (YH [x.a * 256]) v10 (· = v9.size) := ⟨rfl, .inr ⟨_, 0, _, rfl, rfl, b10.q, fun j hj => by rw [Nat.zero_add]; rfl⟩⟩
   refine Wd5 h10 k (-1) hs10 (fun b hb => ⟨by subst hb; exact b10.lt, fun hc => by subst hb; have := hc.2; omega⟩) (by show W.held.length <= _; omega) (by simp) fun w s' ew hw => ?_
   have z9 := e9.1; have z10' := e10.1
   refine fin w s' ((e9.trans e10.to).newT ew fun b hb => hb.1) _ _ act (d1.h.back hw fun b hb => ?_)
   rcases hb with hb | hb
   ·exact hb.1
   ·exact .inr (by omega)
  ·have he : ZS A x.a ≠ 0 := by simpa using he
   rw [if_neg he] at act
   exact fin v9 L.held e9 _ _ act h9'
 have c6 : x.kd ≠ 6 := by simpa using c6
 refine b1.rI rfl (b1.rI rfl (b1.rI rfl (b1.rI rfl (b1.rI rfl (b1.rS rfl ?_)))))
 exact WhF d1 hk hy x hxa ⟨c0, c1, c2, c3, c4, c5, c6⟩ sl fun w s' ew hw => fin w s' ew _ _ rfl hw
theorem WiN (d : DoOk U F L W xs) (x : Act) {sl : Sl} (ha : ArgL U F sl x.l) (hxa : I63 x.a) {R : Int -> Hp -> Prop}
 (hR : ∀ σ' s', Ext F U σ' -> WH σ' (Grow F U) { L with held := s' } (doW W x).1 -> R (doW W x).2 σ') :
 Wr.call (some ⟨L.w, 0, none⟩) x.kd x.ar x.cl x.a x.b sl U R := by
 have d' : DoOk U (Cut F U) L W xs := ⟨d.h.cut, d.wi, d.n, d.k1, d.k2, d.ht, fun b o hb => ⟨(d.htF b o hb).1, fun hc => (d.htF b o hb).2 hc.1⟩, d.tb, d.hv⟩
 obtain ⟨X, hs, hX⟩ := ha.s
 refine Wiq d' (fun b hb => hb.2) x ⟨⟨X, hs, fun b hb => ⟨(hX b hb).1, fun hc => (hX b hb).2 hc.1⟩⟩, ha.cap, ha.len, ha.i⟩ hxa fun w s' ew hw => hR w s' (ew.sub fun b hb => hb.1) (d.h.back hw fun b hb => ?_)
 exact hb.imp (fun h => h.1) id
end Go.Ar
namespace Go.Ar
open Go Go.Vc Go.Proofs
open Go.Bu (XA Zg Xj cnt)


variable {U : Hp} {F : Rg} {L : LayW} {W : Wd} {k : Nat} {A : AR} {xs : List (Int × Int × Int)}
structure Acts6 (U : Hp) (N : Nat) (sl : Sl) (us : List Act) : Prop where
 len : sl.len = us.length
 at_ : ∀ (i : Nat) (x : Act), us[i]? = some x -> ∃ (b o : Nat) (s : Sl), sl.a = some ⟨b, o, none⟩ /\ b < N /\ cell U ⟨b, o + i * 6, none⟩ = some (.int .i64 x.kd) /\ cell U ⟨b, o + i * 6 + 1, none⟩ = some (.int .i64 x.ar) /\ cell U ⟨b, o + i * 6 + 2, none⟩ = some (.int .i64 x.cl) ∧
  cell U ⟨b, o + i * 6 + 3, none⟩ = some (.int .i64 x.a) /\ cell U ⟨b, o + i * 6 + 4, none⟩ = some (.int .i64 x.b) /\ cell U ⟨b, o + i * 6 + 5, none⟩ = some (.slice s.a s.len s.cap) /\ SlR s 1 (YH x.l) U (fun b => b < N) /\ s.len <= s.cap
 i : ∀ x ∈ us, I63 x.a /\ ∀ y ∈ x.l, I63 y
 sz : N <= U.size
theorem Acts6.keep {N : Nat} {sl : Sl} {us : List Act} (h : Acts6 U N sl us) {σ' : Hp} (e : Ext (fun b => N <= b) U σ') : Acts6 σ' N sl us := by
 refine ⟨h.len, fun i x hx => ?_, h.i, Nat.le_trans h.sz e.1⟩
 obtain ⟨b, o, s, h1, h2, c0, c1, c2, c3, c4, c5, h3, h4⟩ := h.at_ i x hx
 have hc : ∀ o', cell σ' ⟨b, o', none⟩ = cell U ⟨b, o', none⟩ := fun o' => ZV e (by have := h.sz; omega) (by omega)
 exact ⟨b, o, s, h1, h2, (hc _).trans c0, (hc _).trans c1, (hc _).trans c2, (hc _).trans c3, (hc _).trans c4, (hc _).trans c5, (SlR.loc _ _ _).keep h3 e fun b _ hb hc => by omega, h4⟩
theorem Acts6.rd {N : Nat} {sl : Sl} {us : List Act} (h : Acts6 U N sl us) {i : Nat} {x : Act} (hx : us[i]? = some x) {K : Int -> Int -> Int -> Int -> Int -> Sl -> Prop} (hK : ∀ s, SlR s 1 (YH x.l) U (fun b => b < N) -> s.len <= s.cap -> K x.kd x.ar x.cl x.a x.b s) :
 Ix sl.a sl.len (i : Int) 6 fun a => LdI .i64 (a.add 0) U fun x0 => LdI .i64 (a.add 1) U fun x1 => LdI .i64 (a.add 2) U fun x2 => LdI .i64 (a.add 3) U fun x3 => LdI .i64 (a.add 4) U fun x4 => LdS (a.add 5) U fun x5 => K x0 x1 x2 x3 x4 x5 := by
 obtain ⟨b, o, s, h1, h2, c0, c1, c2, c3, c4, c5, h3, h4⟩ := h.at_ i x hx
 have hi := (gSi.1 hx).1
 rw [h1]
 refine ix (by omega) (by rw [h.len]; omega) ?_
 simp only [add_lit]
 have e : (i : Int).toNat * 6 = i * 6 := by rw [iTn]
 rw [e]
 exact ldI c0 (ldI c1 (ldI c2 (ldI c3 (ldI c4 (ldS c5 (hK s h3 h4))))))
theorem Acts6.rdS {N : Nat} {sl : Sl} {us : List Act} (h : Acts6 U N sl us) {i : Nat} {x : Act} (hx : us[i]? = some x) {K : Sl -> Prop} (hK : ∀ s : Sl, s.len = x.l.length -> K s) :
 Ix sl.a sl.len (i : Int) 6 fun a => LdS (a.add 5) U K := by
 obtain ⟨b, o, s, h1, h2, c0, c1, c2, c3, c4, c5, h3, h4⟩ := h.at_ i x hx
 have hi := (gSi.1 hx).1
 rw [h1]
 refine ix (by omega) (by rw [h.len]; omega) ?_
 simp only [add_lit]
 have e : (i : Int).toNat * 6 = i * 6 := by rw [iTn]
 rw [e]
 exact ldS c5 (hK s (by have := h3.1; simp [YH] at this; omega))
def Up (us : List Act) : Bool := us.any (fun x => decide (x.l.length > 40)) || decide (us.length > 40)
theorem Wcm {N : Nat} {sl : Sl} {us : List Act} (h : Acts6 U N sl us) (hl : us.length <= 9223372036854775807) {R : Bool -> Hp -> Prop} (hR : R (Up us) U) : Xp.call sl U R := by
 refine Xp.of_vc ?_
 unfold Xp.vc
 have hlen := h.len
 refine YX (a := .i .i64) (fun (t : Int) v => ∃ i : Nat, t = (i : Int) /\ i <= us.length /\ v = U /\ (us.take i).any (fun x => decide (x.l.length > 40)) = false) (fun t _ => us.length - t.toNat) ⟨0, rfl, by omega, rfl, rfl⟩ ?_
 rintro t v ⟨i, rfl, hi, rfl, hno⟩
 refine ifD (fun hlt => ?_) fun hge => ?_
 ·have hi' : i < us.length := by omega
  have hx : us[i]? = some us[i] := gGe hi'
  generalize us[i] = x at hx
  refine h.rdS hx fun s hs => ?_
  rw [hs]
  refine ifD (fun hg => ?_) fun hg => ?_
  ·have : Up us = true := by
    unfold Up
    rw [Bool.or_eq_true, List.any_eq_true]
    exact .inl ⟨x, List.mem_of_getElem? hx, by simp; omega⟩
   rw [this] at hR; exact hR
  ·refine ar (by omega) (by omega) ⟨⟨i + 1, by omega, by omega, rfl, ?_⟩, by omega⟩
   rw [List.take_add_one, hx, List.any_append, hno]
   simp; omega
 ·have hii : i = us.length := by omega
  subst hii
  rw [List.take_length] at hno
  unfold Up at hR
  rw [hno, Bool.false_or] at hR
  have e : decide (((sl.len : Nat) : Int) > 40) = decide (us.length > 40) := by rw [decide_eq_decide]; omega
  rw [e]; exact hR
theorem Waj {us : List Act} (h : Up us = false) : us.length <= 40 /\ ∀ x ∈ us, x.l.length <= 40 := by
 unfold Up at h
 rw [Bool.or_eq_false_iff, List.any_eq_false] at h
 refine ⟨by simpa using h.2, fun x hx => ?_⟩
 have := h.1 x hx
 simpa using this
def Ki (many : Int) : Nat := (many % 3).toNat + 1
theorem Wg2 {many : Int} (h0 : 0 <= many) (h1 : many <= 255) {R : Int -> Hp -> Prop} (hR : R (Ki many : Nat) U) : XW.call many U R := by
 refine XW.of_vc ?_
 unfold XW.vc
 refine ar (by omega) (by omega) (nz (by decide) ?_)
 have : ((Ki many : Nat) : Int) = many.tmod 3 + 1 := by unfold Ki; rw [ZK h0]; omega
 rw [← this]
 refine ar (by unfold Ki; omega) (by unfold Ki; omega) hR
def nW (pages : Int) : Nat := 16 * ((pages % 12).toNat + 2)
def HD (room : Int) : Nat := (room % 9).toNat
def newW (tb : List Cls) (n room m : Nat) : Wd := ⟨tb, Kl n, List.replicate m (newA n room tb), []⟩
theorem WhS {n room : Nat} {tb : List Cls} (h1 : 32 <= n) (h2 : n <= 1024) (h3 : n % 16 = 0) (h6 : tb.length <= 40) (h7 : ∀ c ∈ tb, c.ok) : GA (newA n room tb) /\ ∀ p, (newA n room tb).f p = 0 := by
 have hf : ∀ p, (newA n room tb).f p = 0 := fun p => by
  show (List.replicate n 0).getD p 0 = 0
  rw [List.getD_eq_getElem?_getD, List.getElem?_replicate]; split <;> rfl
 have hcen : ∀ {k : Nat} {ss : List SpA}, (List.replicate tb.length ([] : List SpA))[k]? = some ss -> ss = [] := fun h => by
  rw [List.getElem?_replicate] at h; split at h <;> simp at h; exact h
 have htra : ∀ {k : Nat} {t : TrA}, (List.replicate tb.length (⟨0, []⟩ : TrA))[k]? = some t -> t.bs = [] := fun h => by
  rw [List.getElem?_replicate] at h; split at h <;> simp at h; rw [← h]
 refine ⟨⟨⟨by simp [newA], h1, h2, h3, fun p => by rw [hf]; omega, fun p => by rw [hf]; simp [newA], fun p => by rw [hf]; simp [newA, Go.Bu.emptyS], fun p => by rw [hf, hf]⟩, h6, by simp [newA], by simp [newA], fun k c ss hc => ?_, fun k c ss hc s hs => ?_, fun k c ss hc p => ?_, fun p => ?_, fun p => .inr (Nat.zero_le _), by simp [newA], by simp [newA], fun k t ht => ?_, fun k c ss t hc ht => ?_, fun k c t hc ht => ?_⟩, hf⟩
 ·have e := hcen hc.2; subst e
  exact ⟨h7 c (List.mem_of_getElem? hc.1), by simp, by simp⟩
 ·have e := hcen hc.2; subst e; simp at hs
 ·have e := hcen hc.2; subst e
  constructor
  ·intro h; cases h
  ·rintro ⟨s, hs, _⟩; simp at hs
 ·constructor
  ·intro h; cases h
  ·rintro ⟨r, hr, _⟩; simp [newA] at hr
 ·have := htra ht; rw [this]; exact List.nodup_nil
 ·have := htra ht; rw [this]; simp
 ·have := htra ht; rw [this]; simp
theorem Wd0 {tb : List Cls} {n room m : Nat} (h1 : 32 <= n) (h2 : n <= 1024) (h3 : n % 16 = 0) (h6 : tb.length <= 40) (h7 : ∀ c ∈ tb, c.ok) : WI (newW tb n room m) := by
 obtain ⟨ga, hf⟩ := WhS (room := room) h1 h2 h3 h6 h7
 have get : ∀ {k : Nat} {A : AR}, (newW tb n room m).ars[k]? = some A -> A = newA n room tb := fun {k A} h => by
  have h : (List.replicate m (newA n room tb))[k]? = some A := h
  rw [List.getElem?_replicate] at h; split at h <;> simp at h; exact h.symm
 have hsp : ∀ p, gf (Kl n).st p = 0 := fun p => by
  show (List.replicate n 0).getD p 0 = 0
  rw [List.getD_eq_getElem?_getD, List.getElem?_replicate]; split <;> rfl
 refine ⟨fun k A h => by rw [get h]; exact ga, fun k A h => ?_, fun k A h => by rw [get h]; rfl, fun k A h p hp => by rw [get h]; exact hf p, fun p hp => (hp (hsp p)).elim, fun p k l A B hA hB h1 h2 => ?_, List.nodup_nil, fun p hp => by simp [newW] at hp, fun k A h j y hy => ?_, fun k A h r hr => ?_⟩
 ·rw [get h]
  exact ⟨by simp [newW, Kl, newA], fun p hp => (hp (hf p)).elim, fun p hp => by rw [hf p] at hp; omega, fun p => by show gf (Kl n).st p <= 2; rw [hsp]; omega⟩
 ·rw [get hA] at h1; exact (h1 (hf p)).elim
 ·rw [get h] at hy
  obtain ⟨c, ss, hc, ht⟩ := hy
  have hss : ss = [] := by
   have h2 := hc.2
   simp only [newA] at h2
   rw [List.getElem?_replicate] at h2; split at h2 <;> simp at h2; exact h2
  subst hss
  obtain ⟨k', s, i, hs, _⟩ := (KX (ga.cen _ _ _ hc)).1 ht
  simp at hs
 ·rw [get h] at hr; simp [newA] at hr
end Go.Ar
namespace Go.Ar
open Go Go.Vc Go.Proofs
open Go.Bu (XA Zg Xj cnt)


variable {U : Hp} {F : Rg} {L : LayW} {W : Wd} {k : Nat} {A : AR} {xs : List (Int × Int × Int)}
def CWp (W : Wd) (L : LayW) (cs : List Value) (ps : List Nat) : LbW -> Hp -> Rg -> Prop
 | .arow => RowR L.arow 1 (ptrV ps)
 | i => CW W L cs i
theorem CWp.loc {cs : List Value} {ps : List Nat} : ∀ i, Lcl (CWp W L cs ps i)
 | .hd => CW.loc (W := W) (L := L) .hd
 | .sp => CW.loc (W := W) (L := L) (cs := cs) .sp
 | .arow => RowR.loc _ _ _
 | .held => CW.loc (W := W) (L := L) (cs := cs) .held
 | .ar k => CW.loc (W := W) (L := L) (cs := cs) (.ar k)
theorem WbQ {cs : List Value} : CWp W L cs (L.ys.map (·.p)) = CW W L cs := by
 funext i; cases i <;> rfl
theorem WH.putA (h : WH U F L W) {Y : Lay} {A : AR} {G : Rg} (hA : AHY U G Y A (traT A Y)) (hG : ∀ b, G b -> ¬ F b) : Sep (CWp { W with ars := W.ars ++ [A] } { L with ys := L.ys ++ [Y] } (hdW L) (L.ys.map (·.p))) U fun b => F b ∨ G b := by
 have h1 : Sep (CWp W L (hdW L) (L.ys.map (·.p))) U F := by rw [WbQ]; exact h.sep
 refine h1.put CWp.loc (.ar W.ars.length) hG (fun j hj => ?_) ?_ (CWp.loc _)
 ·cases j <;> try rfl
  rename_i m
  have hm : m ≠ W.ars.length := fun e => hj (by rw [e])
  show ArR (L.ys ++ [Y])[m]? (W.ars ++ [A])[m]? = ArR L.ys[m]? W.ars[m]?
  rcases Nat.lt_or_ge m W.ars.length with h1 | h1
  ·rw [List.getElem?_append_left h1, List.getElem?_append_left (by rw [h.len]; exact h1)]
  ·have e1 : (W.ars ++ [A])[m]? = none := List.getElem?_eq_none (by simp; omega)
   have e2 : W.ars[m]? = none := List.getElem?_eq_none h1
   have e3 : (L.ys ++ [Y])[m]? = none := List.getElem?_eq_none (by simp [h.len]; omega)
   have e4 : L.ys[m]? = none := List.getElem?_eq_none (by rw [h.len]; exact h1)
   rw [e1, e2, e3, e4]
 ·show ArR (L.ys ++ [Y])[W.ars.length]? (W.ars ++ [A])[W.ars.length]? U G
  have e1 : (W.ars ++ [A])[W.ars.length]? = some A := by simp
  have e3 : (L.ys ++ [Y])[W.ars.length]? = some Y := by rw [← h.len]; simp
  rw [e1, e3]; exact hA
theorem WfB {cs : List Value} {ps : List Nat} {ty q vb : Nat} (h : Sep (CWp W L cs ps) U F) (hl : ps.length <= 1000) (hb : Blk U vb [.pointer (some ⟨q, 0, none⟩)]) (hvb : ¬ F vb) {K : Sl -> Hp -> Prop}
 (hK : ∀ s' σ', Ext F U σ' -> Sep (CWp W { L with arow := s' } cs (ps ++ [q])) σ' (Grow F U) -> K s' σ') : App L.arow 1 8 ty [.pointer none] ⟨some ⟨vb, 0, none⟩, 1, 1⟩ U K := by
 obtain ⟨G, hG, hi, _, hput⟩ := h.stepD CWp.loc .arow
 have hi : RowR L.arow 1 (ptrV ps) U G := hi
 have hlc : L.arow.len = ps.length := by have := hi.1; simp [ptrV] at this; omega
 refine hi.app (ys := [.pointer (some ⟨q, 0, none⟩)]) rfl rfl ?_ (by simp [one1]) (by simp only; omega) (by simp only; omega) Nat.zero_lt_one fun s' σ' hl' e hr => hK s' σ' (e.sub hG) ?_
 ·intro j u hu
  rw [add_lit, Nat.zero_add, hb.cell]; exact hu
 refine (Sep.loc CWp.loc).mono (hput σ' (CWp W { L with arow := s' } cs (ps ++ [q])) (Grow G U) (fun j hj => ?_) e (fun b hb => hb) ?_ (CWp.loc _)) fun b _ hb => Q8 hG (fun b hb => hb) b hb
 ·cases j <;> first | rfl | exact absurd rfl hj
 ·show RowR s' 1 (ptrV (ps ++ [q])) σ' (Grow G U)
  have : ptrV (ps ++ [q]) = ptrV ps ++ [.pointer (some ⟨q, 0, none⟩)] := by simp [ptrV]
  rw [this]; exact hr
def QO (W : Wd) (us : List Act) : Wd := us.foldl (fun W x => (doW W x).1) W
theorem WcL (sp : Sp) (x v : Int) : (QA sp x v).st.length = sp.st.length := by
 unfold QA; split
 ·show (sp.st.set _ _).length = _; rw [List.length_set]
 ·rfl
theorem U2 (h : WI W) (x : Act) : (doW W x).1.tb = W.tb /\ (doW W x).1.ars.length = W.ars.length /\ (doW W x).1.sp.st.length = W.sp.st.length := by
 unfold doW
 split
 ·rename_i A hA
  have ga := h.ga _ A hA
  have ow := h.ow _ A hA
  have put : ∀ (B : AR) (sp : Sp) (hl : List Pc), sp.st.length = W.sp.st.length -> (W.put (numW W.ars.length x.ar) B sp hl).tb = W.tb /\ (W.put (numW W.ars.length x.ar) B sp hl).ars.length = W.ars.length /\ (W.put (numW W.ars.length x.ar) B sp hl).sp.st.length = W.sp.st.length := fun B sp hl hs => ⟨rfl, by show (W.ars.set _ B).length = _; rw [List.length_set], hs⟩
  have stl : ∀ {B : AR} {sp' : Sp}, St A B W.sp sp' -> sp'.st.length = W.sp.st.length := fun s => by rw [s.ow.l, s.n, ow.l]
  have same : W.tb = W.tb /\ W.ars.length = W.ars.length /\ W.sp.st.length = W.sp.st.length := ⟨rfl, rfl, rfl⟩
  unfold actW
  by_cases h0 : x.kd = 0
  ·rw [if_pos h0]; exact put _ _ _ (stl (Gn ga ow _).1)
  rw [if_neg h0]
  by_cases h1 : x.kd = 1
  ·rw [if_pos h1]; exact put _ _ _ rfl
  rw [if_neg h1]
  by_cases h2 : x.kd = 2
  ·rw [if_pos h2]
   by_cases ho : ownW W.held (numW W.ars.length x.ar) x.cl x.l = true
   ·rw [if_pos ho]; exact put _ _ _ rfl
   ·rw [if_neg ho]; exact same
  rw [if_neg h2]
  by_cases h3 : x.kd = 3
  ·rw [if_pos h3]; exact put _ _ _ rfl
  rw [if_neg h3]
  by_cases h4 : x.kd = 4
  ·rw [if_pos h4]
   by_cases ho : ownW W.held (numW W.ars.length x.ar) x.cl x.l = true
   ·rw [if_pos ho]; exact put _ _ _ rfl
   ·rw [if_neg ho]; exact same
  rw [if_neg h4]
  by_cases h5 : x.kd = 5
  ·rw [if_pos h5]
   refine put _ _ _ ?_
   rcases Q1 ga ow x.a x.b with ⟨e, _⟩ | ⟨y, A1, sp1, _, _, _, _, _, _, s, _⟩
   ·rw [e]
   ·exact stl s
  rw [if_neg h5]
  by_cases h6 : x.kd = 6
  ·rw [if_pos h6]; exact put _ _ _ rfl
  rw [if_neg h6]
  by_cases h7 : x.kd = 7
  ·rw [if_pos h7]; exact same
  rw [if_neg h7]
  by_cases h10 : x.kd = 10
  ·rw [if_pos h10]; exact put _ _ _ (stl (G4 ga ow _).1)
  rw [if_neg h10]
  by_cases h11 : x.kd = 11
  ·rw [if_pos h11]; exact put _ _ _ (stl (UM ga ow).st)
  rw [if_neg h11]
  by_cases h12 : x.kd = 12
  ·rw [if_pos h12]; exact put _ _ _ rfl
  rw [if_neg h12]
  by_cases h13 : x.kd = 13
  ·rw [if_pos h13]
   by_cases hi : Qc W.held x.a = true
   ·rw [if_pos hi]; exact ⟨rfl, rfl, WcL _ _ _⟩
   ·rw [if_neg hi]; exact same
  rw [if_neg h13]; exact same
 ·exact ⟨rfl, rfl, rfl⟩
structure WOk (U : Hp) (N : Nat) (L : LayW) (W : Wd) (table : Sl) (xs : List (Int × Int × Int)) : Prop where
 d : DoOk U (fun b => N <= b) L W xs
 t : L.table = table
theorem DoOk.next {N : Nat} (d : DoOk U (fun b => N <= b) L W xs) (hN : N <= U.size) {W' : Wd} {σ' : Hp} {s' : Sl} (e : Ext (fun b => N <= b) U σ') (h' : WH σ' (Grow (fun b => N <= b) U) { L with held := s' } W') (wi : WI W') (f : W'.tb = W.tb /\ W'.ars.length = W.ars.length /\ W'.sp.st.length = W.sp.st.length) : DoOk σ' (fun b => N <= b) { L with held := s' } W' xs := by
 refine ⟨h'.mono (fun b _ hb => ?_) d.h.o d.h.o2, wi, by rw [f.2.2]; exact d.n, by rw [f.2.1]; exact d.k1, by rw [f.2.1]; exact d.k2, Ko d.ht e fun b hb o ho => (d.htF b o ho).2 hb, fun b o ho => ⟨Nat.lt_of_lt_of_le (d.htF b o ho).1 e.1, (d.htF b o ho).2⟩, by rw [f.1]; exact d.tb, d.hv⟩
 rcases hb with hb | hb
 ·exact hb
 ·omega
theorem GK (g : Gl U) (gd : Gd U) {N : Nat} (hN : N <= U.size) (hgl : Off fun b => N <= b) (hgd : ¬ N <= 2) {table : Sl} (ht : Acts U table xs) (htN : xs ≠ [] -> ∀ b o, table.a = some ⟨b, o, none⟩ -> b < N) {pages many room : Int} (hp : 0 <= pages /\ pages <= 255) (hm : 0 <= many /\ many <= 255) (hr : 0 <= room /\ room <= 255)
 {l : Sl} {us : List Act} (hl : Acts6 U N l us) (h40 : us.length <= 40) (hl40 : ∀ x ∈ us, x.l.length <= 40) {R : Option Addr -> Bool -> Hp -> Prop} (h0 : ZC xs = false -> ∀ σ', Ext0 U σ' -> R none false σ')
 (h1 : ZC xs = true -> ∀ σ' L, Ext (fun b => N <= b) U σ' -> WOk σ' N L (QO (newW (xs.map Z4) (nW pages) (HD room) (Ki many)) us) table xs -> R (some ⟨L.w, 0, none⟩) true σ') : Xk.call table pages many room l U R := by
 refine Xk.of_vc ?_
 unfold Xk.vc
 have htl := ht.1
 refine ifD (fun hbig => ?_) fun hbig => ?_
 ·have : ZC xs = false := by
   apply Bool.eq_false_iff.2; intro hv
   unfold ZC at hv
   simp only [Bool.and_eq_true, decide_eq_true_eq] at hv
   omega
  exact h0 this U (Ext.refl _ _)
 refine ar (by omega) (by omega) (nz (by decide) ?_)
 have hn32 : 32 <= nW pages /\ nW pages <= 208 /\ nW pages % 16 = 0 := by unfold nW; omega
 have e1 : pages.tmod 12 + 2 = (((pages % 12).toNat + 2 : Nat) : Int) := by rw [ZK hp.1]; omega
 rw [e1]
 refine ar (by omega) (by omega) ?_
 have e2 : (16 : Int) * (((pages % 12).toNat + 2 : Nat) : Int) = ((nW pages : Nat) : Int) := by unfold nW; omega
 rw [e2]
 refine ar (by omega) (by omega) ?_
 refine Wao (n := nW pages) (by omega) (by omega) fun v hs e hph hS => ifF rfl ?_
 refine nw (cs := [.pointer (some ⟨hs, 0, none⟩), .slice none 0 0, .slice table.a table.len table.cap, .slice none 0 0]) fun v1 z1 ez1 b1 => ?_
 have hzv := e.1
 have hmN : Ki many <= 3 := by unfold Ki; omega
 have hroom : newE xs (nW pages) (room.tmod 9) = if ZC xs then 0 else 2 := by
  unfold newE
  have h1 : 0 <= room.tmod 9 := by rw [ZK hr.1]; omega
  have h2 : room.tmod 9 <= 8 := by rw [ZK hr.1]; omega
  by_cases hv : ZC xs = true
  ·rw [if_pos hv, if_pos hv, if_pos ⟨hn32.1, hn32.2.2, h1, h2⟩]
  ·rw [if_neg hv, if_neg hv]
 have eroom : (room.tmod 9).toNat = HD room := by unfold HD; rw [ZK hr.1]
 have hlenS : (Kl (nW pages)).st.length = nW pages := by simp [Kl]
 let L0 : LayW := ⟨v.size, hs, ⟨none, 0, 0⟩, ⟨none, 0, 0⟩, table, []⟩
 let Wi : Nat -> Wd := fun i => newW (xs.map Z4) (nW pages) (HD room) i
 have oS : Off fun b => U.size <= b := HI g
 have oS2 : ¬ U.size <= 2 := by have := WcX gd; omega
 have h00 : WH v1 (fun b => U.size <= b) L0 (Wi 0) := by
  have E := Ext.trans e ez1
  have hd : BlkR v.size (hdW L0) v1 (fun b => v.size <= b /\ b < v1.size) := ⟨⟨Nat.le_refl _, by omega⟩, b1⟩
  have hsp : SpH3 v1 (fun b => U.size <= b /\ b < v.size) hs (Kl (nW pages)) := Lcl.keep0 SpH3.loc (Zh SpH3.loc hS) ez1
  refine ⟨rfl, by simp [L0], ⟨fun b => if b < v.size then .sp else .hd, fun i => ?_⟩, g.keep0 E, gd.keep0 E, oS, oS2⟩
  cases i with
  | hd =>
   show BlkR v.size (hdW L0) v1 fun b => U.size <= b /\ (if b < v.size then LbW.sp else LbW.hd) = LbW.hd
   exact Lcl.mono (BlkR.loc _ _) hd fun b _ hb => ⟨by omega, if_neg (by omega)⟩
  | sp =>
   show SpH3 v1 (fun b => U.size <= b /\ (if b < v.size then LbW.sp else LbW.hd) = LbW.sp) hs (Kl (nW pages))
   exact Lcl.mono SpH3.loc hsp fun b _ hb => ⟨hb.1, if_pos hb.2⟩
  | arow => exact RowR.nil _ _ _ _
  | held => exact RowR.nil _ _ _ _
  | ar k => trivial
 refine YX (a := .i .i64) (fun (t : Int) w => ∃ i : Nat, t = (i : Int) /\ i <= Ki many /\ (1 <= i -> ZC xs = true) /\ Ext0 U w /\ ∃ Li : LayW, Li.w = v.size /\ Li.hs = hs /\ Li.table = table /\ WH w (fun b => U.size <= b) Li (Wi i)) (fun t _ => Ki many - t.toNat)
  ⟨0, rfl, by omega, fun h => by omega, Ext.trans e ez1, L0, rfl, rfl, rfl, h00⟩ ?_
 rintro t w ⟨i, rfl, hi, hval, ew, Li, hLw, hLh, hLt, hw⟩
 have hzw := ew.1
 refine Wg2 hm.1 hm.2 (ifD (fun hlt => ?_) fun hge => ?_)
 ·refine ar (by omega) (by omega) (nz (by decide) ?_)
  have htw := Zc ht ew
  have hspw : SpH3 w (fun b => U.size <= b) hs (Kl (nW pages)) := by have := hw.sp; rw [hLh] at this; exact this
  refine Wen htw hspw _ (fun hne v4 e4 => ?_) fun he v4 Y e4 hYh hA => ?_
  ·rw [hlenS, hroom] at hne ⊢
   by_cases hv : ZC xs = true
   ·rw [if_pos hv] at hne; exact (hne rfl).elim
   ·rw [if_neg hv]
    exact ifT rfl (h0 (by simpa using hv) v4 (Ext.trans ew e4))
  ·rw [hlenS] at hA he
   rw [eroom] at hA
   have hv : ZC xs = true := by
    rw [hroom] at he
    apply Classical.byContradiction; intro hn
    rw [if_neg hn] at he; cases he
   have h4 := hw.cut.keep0 e4
   have hA' : AHY v4 (fun b => w.size <= b /\ b < v4.size) Y (newA (nW pages) (HD room) (xs.map Z4)) (traT (newA (nW pages) (HD room) (xs.map Z4)) Y) := Zh AHY.loc hA
   have hz4 := e4.1
   have hp4 := h4.putA hA' fun b hb hc => by have := hc.2; omega
   have hd4 : Blk v4 v.size (hdW Li) := by have := h4.hd; rw [hLw] at this; exact this
   refine ifF rfl (nilP (hd4.rS rfl ?_))
   refine nw (cs := [.pointer (some ⟨Y.p, 0, none⟩)]) fun v5 z5 e5 b5 => ?_
   have hp5 := (Sep.loc CWp.loc).keep0 hp4 e5
   have hlys : (Li.ys.map (·.p)).length <= 1000 := by rw [List.length_map, hw.len]; simp [Wi, newW]; omega
   refine WfB (L := { Li with ys := Li.ys ++ [Y] }) hp5 hlys b5 (fun hc => by
    rcases hc with hc | hc
    ·have := hc.2; omega
    ·omega) fun s6 v6 e6 hp6 => nilP ?_
   obtain ⟨G, hG, hh, _, hput⟩ := hp6.stepD CWp.loc .hd
   have hh : BlkR Li.w (hdW Li) v6 G := hh
   rw [← hLw]
   refine hh.2.s1 (o := 0) (i := 1) (by simp [hdW]) fun v7 o7 b7 => ?_
   let Ln : LayW := { Li with arow := s6, ys := Li.ys ++ [Y] }
   have hz5 := e5.1; have hz6 := e6.1
   have e7 : Ext G v6 v7 := o7.ext.sub fun b hb => by subst hb; exact hh.1
   have hs7 := hput v7 (CWp { Wi i with ars := (Wi i).ars ++ [newA (nW pages) (HD room) (xs.map Z4)] } Ln (hdW Ln) (Li.ys.map (·.p) ++ [Y.p])) G (fun j hj => by cases j <;> first | rfl | exact absurd rfl hj) e7 (fun b hb => .inl hb) ⟨hh.1, by rw [Nat.zero_add] at b7; exact b7⟩ (CWp.loc _)
   have eps : Li.ys.map (·.p) ++ [Y.p] = Ln.ys.map (·.p) := by show _ = (Li.ys ++ [Y]).map (·.p); simp
   rw [eps, WbQ] at hs7
   have eW : ({ Wi i with ars := (Wi i).ars ++ [newA (nW pages) (HD room) (xs.map Z4)] } : Wd) = Wi (i + 1) := by
    show ({ tb := _, sp := _, ars := List.replicate i _ ++ [_], held := _ } : Wd) = _
    rw [← List.replicate_succ']; rfl
   rw [eW] at hs7
   have e47 : Ext0 U v7 := by
    have a5 : Ext0 U v5 := Ext.trans (Ext.trans ew e4) e5
    have a6 : Ext0 U v6 := Ext.fresh a5 e6 fun b hb => by
     rcases hb with hb | hb
     ·exact hb.1
     ·omega
    exact Ext.fresh a6 e7 fun b hb => by
     have := hG b hb
     rcases this with (hx | hx) | hx
     ·exact hx.1
     ·omega
     ·omega
   have h7 : WH v7 (fun b => U.size <= b) Ln (Wi (i + 1)) := by
    refine ⟨by show (Li.ys ++ [Y]).length = (List.replicate (i + 1) _).length; have := hw.len; simp [Wi, newW] at this ⊢; exact this, fun Z hZ => ?_, (Sep.loc CW.loc).mono hs7 fun b _ hb => ?_, g.keep0 e47, gd.keep0 e47, oS, oS2⟩
    ·show Z.hs = Li.hs
     rcases List.mem_append.1 hZ with hZ | hZ
     ·exact hw.hs Z hZ
     ·simp only [List.mem_singleton] at hZ; subst hZ; rw [hYh, hLh]
    ·have : ∀ b, ((Cut (fun b => U.size <= b) w b ∨ w.size <= b /\ b < v4.size) ∨ v5.size <= b) -> U.size <= b := fun b hb => by
      rcases hb with (hx | hx) | hx
      ·exact hx.1
      ·omega
      ·omega
     rcases hb with hb | hb
     ·exact this b hb.1
     ·exact this b (hG b hb)
   refine arN (m := i + 1) (by omega) (by omega) ⟨⟨i + 1, rfl, by omega, fun _ => hv, e47, Ln, rfl, hLh, hLt, h7⟩, by omega⟩
 ·have hii : i = Ki many := by omega
  subst hii
  have hv := hval (by unfold Ki; omega)
  have hcl : ∀ c ∈ xs.map Z4, c.ok := fun c hc => by
   obtain ⟨j, hj⟩ := List.getElem?_of_mem hc
   exact (Vb ht hv hj).2
  have hxl : xs.length <= 40 := by
   have h2 := hv
   unfold ZC at h2
   simp only [Bool.and_eq_true, decide_eq_true_eq] at h2
   exact h2.2.1
  have wi0 : WI (Wi (Ki many)) := Wd0 (by omega) (by omega) hn32.2.2 (by rw [List.length_map]; exact hxl) hcl
  have eN : Ext (fun b => N <= b) U w := ew.to
  have d0 : DoOk w (fun b => N <= b) Li (Wi (Ki many)) xs := by
   refine ⟨hw.mono (fun b _ hb => by have hb : U.size <= b := hb; omega) hgl hgd, wi0, by show (Kl (nW pages)).st.length <= 208; rw [hlenS]; omega, by show 1 <= (List.replicate _ _).length; rw [List.length_replicate]; unfold Ki; omega, by show (List.replicate _ _).length <= 3; rw [List.length_replicate]; exact hmN, ?_, fun b o ho => ?_, rfl, hv⟩
   ·rw [hLt]; exact Zc ht ew
   ·rw [hLt] at ho
    have hne : xs ≠ [] := by
     rintro rfl
     unfold ZC at hv
     simp at hv
    have := htN hne b o ho
    exact ⟨by omega, by omega⟩
  have hlx := hl.keep eN
  have hlen := hl.len
  rw [← hLw]
  refine YX (a := .i .i64) (fun (t : Int) u => ∃ j : Nat, t = (j : Int) /\ j <= us.length /\ Ext (fun b => N <= b) U u /\ ∃ Lj : LayW, Lj.w = Li.w /\ Lj.table = table /\ DoOk u (fun b => N <= b) Lj (QO (Wi (Ki many)) (us.take j)) xs) (fun t _ => us.length - t.toNat)
   ⟨0, rfl, by omega, eN, Li, rfl, hLt, d0⟩ ?_
  rintro t u ⟨j, rfl, hj, eu, Lj, hLj, hLjt, dj⟩
  have hlu := hl.keep eu
  refine ifD (fun hlt => ?_) fun hge2 => ?_
  ·have hj' : j < us.length := by omega
   have hx : us[j]? = some us[j] := gGe hj'
   generalize us[j] = x at hx
   have hxm := List.mem_of_getElem? hx
   refine hlu.rd hx fun s hs hcap => ?_
   rw [← hLj]
   have hzu := eu.1
   refine WiN dj x ⟨⟨_, hs, fun b hb => ⟨by omega, by omega⟩⟩, hcap, hl40 x hxm, (hl.i x hxm).2⟩ (hl.i x hxm).1 fun u2 s' e2 h2 => ?_
   have htake : us.take (j + 1) = us.take j ++ [x] := by rw [List.take_add_one, hx]; rfl
   have epl : QO (Wi (Ki many)) (us.take (j + 1)) = (doW (QO (Wi (Ki many)) (us.take j)) x).1 := by unfold QO; rw [htake, List.foldl_append]; rfl
   refine arN (m := j + 1) (by omega) (by omega) ⟨⟨j + 1, rfl, by omega, eu.trans e2, { Lj with held := s' }, rfl, hLjt, ?_⟩, by omega⟩
   rw [epl]
   exact dj.next (by omega) e2 h2 (Wb4 dj.wi x) (U2 dj.wi x)
  ·have hjj : j = us.length := by omega
   subst hjj
   rw [List.take_length] at dj
   rw [← hLj]
   exact h1 hv u Lj eu ⟨dj, hLjt⟩
end Go.Ar
namespace Go.Proofs
open Go.Vc

set_option maxRecDepth 100000
end Go.Proofs
namespace Go.Ar
open Go Go.Vc Go.Proofs


variable {U : Hp} {a : Option Addr}
end Go.Ar
namespace Go.Proofs
open Go.Vc

set_option maxRecDepth 100000
end Go.Proofs
namespace Go.Ar
open Go Go.Vc Go.Proofs


variable {U : Hp} {a : Option Addr} {F H : Rg} {A : AR} {sp : Sp} {Y : Lay}
theorem WfH (x y z : Int) {R : Bool -> Hp -> Prop} (hR : ∀ σ', Ext0 U σ' -> R (QE x y z) σ') : XF.call x y z U R := by
 refine XF.of_vc ?_
 unfold XF.vc
 refine nw (cs := [.int .i64 x, .int .i64 y, .int .i64 z]) fun v hz e hb => ?_
 have no : ¬ (8 <= x /\ x <= 512 /\ x % 8 = 0 /\ 1 <= y /\ y <= 4 /\ x <= y * 256 /\ 1 <= z /\ z <= 32) -> R false v := fun hn => by
  have := hR v e
  have hf : QE x y z = false := by rw [← Bool.not_eq_true, Kc]; exact hn
  rw [hf] at this; exact this
 refine hb.rI rfl (JnB.intro (ifD (fun c1 => hb.rI rfl ?_) fun c1 => JnB.intro (ifF rfl (JnB.intro (ifF rfl (JnB.intro (ifF rfl (JnB.intro (ifF rfl (JnB.intro (ifF rfl (JnB.intro (ifF rfl (no (by omega)))))))))))))))
 refine JnB.intro (ifD (fun c2 => hb.rI rfl (nz (by decide) ?_)) fun c2 => JnB.intro (ifF rfl (JnB.intro (ifF rfl (JnB.intro (ifF rfl (JnB.intro (ifF rfl (JnB.intro (ifF rfl (no (by omega))))))))))))
 have tm : x.tmod 8 = x % 8 := ZK (by omega)
 rw [tm]
 refine JnB.intro (iff_ (fun c3 => hb.rI rfl ?_) fun c3 => JnB.intro (ifF rfl (JnB.intro (ifF rfl (JnB.intro (ifF rfl (JnB.intro (ifF rfl (no (fun hh => by simp [hh.2.2.1] at c3))))))))))
 have c3' : x % 8 = 0 := by simpa using c3
 refine JnB.intro (ifD (fun c4 => hb.rI rfl ?_) fun c4 => JnB.intro (ifF rfl (JnB.intro (ifF rfl (JnB.intro (ifF rfl (no (by omega))))))))
 refine JnB.intro (ifD (fun c5 => hb.rI rfl (ar (by omega) (by omega) (hb.rI rfl ?_))) fun c5 => JnB.intro (ifF rfl (JnB.intro (ifF rfl (no (by omega))))))
 refine JnB.intro (ifD (fun c6 => hb.rI rfl ?_) fun c6 => JnB.intro (ifF rfl (no (by omega))))
 refine JnB.intro (ifD (fun c7 => hb.rI rfl ?_) fun c7 => no (by omega))
 by_cases c8 : z <= 32
 ·rw [decide_eq_true c8]
  have := hR v e
  rw [(Kc x y z).2 ⟨by omega, by omega, c3', by omega, by omega, by omega, by omega, c8⟩] at this
  exact this
 ·rw [decide_eq_false c8]
  exact no (by omega)
theorem WdC {s : Sl} {xs : List (Int × Int × Int)} (ha : Acts U s xs) {R : Bool -> Hp -> Prop} (hR : ∀ σ', Ext0 U σ' -> R (ZC xs) σ') : XD.call s U R := by
 refine XD.of_vc ?_
 unfold XD.vc
 have no : ∀ σ', Ext0 U σ' -> ¬ (1 <= xs.length /\ xs.length <= 40 /\ (∀ (i : Nat) t, xs[i]? = some t -> QE t.1 t.2.1 t.2.2 = true) /\ ∀ (i : Nat) a b, xs[i]? = some a -> xs[i + 1]? = some b -> a.1 < b.1) -> R false σ' := fun σ' e hn => by
  have := hR σ' e
  have hf : ZC xs = false := by rw [← Bool.not_eq_true, Qm]; exact hn
  rw [hf] at this; exact this
 have hlen := ha.1
 refine JnB.intro (ifD (fun c1 => ifT rfl (no U (Ext.refl _ _) fun h => by omega)) fun c1 => ?_)
 refine ifD (fun c2 => no U (Ext.refl _ _) fun h => by omega) fun c2 => ?_
 refine YX (a := .i .i64) (fun (t : Int) v => ∃ i : Nat, t = (i : Int) /\ i <= xs.length /\ Ext0 U v /\ (∀ (j : Nat) t, j < i -> xs[j]? = some t -> QE t.1 t.2.1 t.2.2 = true) /\ ∀ (j : Nat) a b, j + 1 < i -> xs[j]? = some a -> xs[j + 1]? = some b -> a.1 < b.1) (fun t _ => xs.length - t.toNat)
  ⟨0, rfl, by omega, Ext.refl _ _, fun j t h => by omega, fun j a b h => by omega⟩ ?_
 rintro t v ⟨i, rfl, hi, e, h1, h2⟩
 have hav := Zc ha e
 refine ifD (fun hlt => ?_) fun hge => ?_
 ·have hi' : i < xs.length := by omega
  have hx : xs[i]? = some xs[i] := gGe hi'
  generalize xs[i] = r at hx
  obtain ⟨x, y, z⟩ := r
  obtain ⟨b, o, g1, g2, g3, g4, g5⟩ := hav.2 i x y z hx
  have k3 : cell v ⟨b, o + (i : Int).toNat * 3 + 0, none⟩ = some (.int .i64 x) := by simpa using g3
  have k4 : cell v ⟨b, o + (i : Int).toNat * 3 + 1, none⟩ = some (.int .i64 y) := by simpa using g4
  have k5 : cell v ⟨b, o + (i : Int).toNat * 3 + 2, none⟩ = some (.int .i64 z) := by simpa using g5
  refine Jn.intro ⟨(· = v), rfl, ?_⟩
  rw [g1]
  refine ix (by omega) (by omega) ?_
  rw [add_lit b o]
  refine ⟨x, fun m hm => by rw [hm, add_lit]; exact k3, ⟨y, fun m hm => by rw [hm, add_lit]; exact k4, ⟨z, fun m hm => by rw [hm, add_lit]; exact k5, ?_⟩⟩⟩
  refine WfH x y z fun v7 e7 => ?_
  have e07 := Ext.trans e e7
  have bad : (QE x y z = false ∨ ∃ a, 0 < i /\ xs[i - 1]? = some a /\ x <= a.1) -> R false v7 := fun hb => no v7 e07 fun hv => by
   rcases hb with hb | ⟨a, hp, hb1, hb2⟩
   ·have := hv.2.2.1 i _ hx; simp only at this; rw [hb] at this; cases this
   ·have := hv.2.2.2 (i - 1) a (x, y, z) hb1 (by rw [show i - 1 + 1 = i by omega]; exact hx)
    simp only at this; omega
  cases hc : QE x y z
  ·exact ifT rfl (ifT rfl (bad (.inl hc)))
  ·have next : (∀ a, 0 < i -> xs[i - 1]? = some a -> a.1 < x) -> Ar .i64 ((i : Int) + 1) fun t38 => (∃ i : Nat, t38 = (i : Int) /\ i <= xs.length /\ Ext0 U v7 /\ (∀ (j : Nat) t, j < i -> xs[j]? = some t -> QE t.1 t.2.1 t.2.2 = true) /\ ∀ (j : Nat) a b, j + 1 < i -> xs[j]? = some a -> xs[j + 1]? = some b -> a.1 < b.1) /\ xs.length - t38.toNat < xs.length - (i : Int).toNat := by
    intro hp
    refine arN (m := i + 1) (by omega) (by omega) ⟨⟨i + 1, rfl, by omega, e07, fun j t hj ht => ?_, fun j a b hj hja hjb => ?_⟩, by omega⟩
    ·by_cases hji : j = i
     ·subst hji; rw [hx] at ht; cases ht; exact hc
     ·exact h1 j t (by omega) ht
    ·by_cases hji : j + 1 = i
     ·subst hji
      rw [hx] at hjb; cases hjb
      exact hp a (by omega) hja
     ·exact h2 j a b (by omega) hja hjb
   refine ifF rfl (ifD (fun hp => ?_) fun hp => ifF rfl (next fun a hp2 => by omega))
   have hxp : xs[i - 1]? = some (xs[i - 1]'(by omega)) := gGe _
   generalize xs[i - 1]'(by omega) = r at hxp
   obtain ⟨x', y', z'⟩ := r
   have hav7 := Zc ha e07
   obtain ⟨b', o', q1, q2, q3, q4, q5⟩ := hav7.2 (i - 1) x' y' z' hxp
   rw [g1] at q1; cases q1
   have p3 : cell v7 ⟨b, o + (((i - 1 : Nat) : Int)).toNat * 3 + 0, none⟩ = some (.int .i64 x') := by simpa using q3
   have p4 : cell v7 ⟨b, o + (i : Int).toNat * 3 + 0, none⟩ = some (.int .i64 x) := (ZV e7 (ZM k3) id).trans k3
   refine arN (m := i - 1) (by omega) (by omega) (ix (by omega) (by omega) (ix (by omega) (by omega) ?_))
   have fin : If (decide (x' ≥ x)) (R false v7) (Ar .i64 ((i : Int) + 1) fun t38 => (∃ i : Nat, t38 = (i : Int) /\ i <= xs.length /\ Ext0 U v7 /\ (∀ (j : Nat) t, j < i -> xs[j]? = some t -> QE t.1 t.2.1 t.2.2 = true) /\ ∀ (j : Nat) a b, j + 1 < i -> xs[j]? = some a -> xs[j + 1]? = some b -> a.1 < b.1) /\ xs.length - t38.toNat < xs.length - (i : Int).toNat) := by
    refine ifD (fun hle => bad (.inr ⟨_, by omega, hxp, hle⟩)) fun hgt => next fun a _ ha2 => ?_
    rw [hxp] at ha2; cases ha2
    simp only; omega
   rw [add_lit b o, add_lit b o]
   exact ⟨ldI0 p3 (ldI0 p4 fin), ldI0 p4 (ldI0 p3 fin)⟩
 ·have : i = xs.length := by omega
  subst this
  have hv : ZC xs = true := (Qm xs).2 ⟨by omega, by omega, fun i t ht => h1 i t (gSi.1 ht).1 ht, fun i a b hja hjb => h2 i a b (gSi.1 hjb).1 hja hjb⟩
  have := hR v e
  rw [hv] at this; exact this
end Go.Ar
namespace Go.Ar
open Go.Bu (cnt)


variable {W : Wd} {k : Nat} {A : AR}
def at2 {α : Type} (f : Cls -> α -> Nat) (tb : List Cls) (l : List α) (j : Nat) : Nat := match tb[j]?, l[j]? with
 | some c, some a => f c a
 | _, _ => 0
theorem WiU {α : Type} {f : Cls -> α -> Nat} {tb : List Cls} {l : List α} {j : Nat} {c : Cls} {a : α} (h1 : tb[j]? = some c) (h2 : l[j]? = some a) : at2 f tb l j = f c a := by unfold at2; rw [h1, h2]
theorem Wdt {α : Type} (f : Cls -> α -> Nat) : ∀ (tb : List Cls) (l : List α), l.length = tb.length -> ((tb.zip l).map fun x => f x.1 x.2).sum = ((List.range tb.length).map (at2 f tb l)).sum
 | [], l, h => by simp
 | c :: tb, [], h => by simp at h
 | c :: tb, a :: l, h => by
  have ih := Wdt f tb l (by simpa using h)
  rw [List.zip_cons_cons, List.map_cons, List.sum_cons, ih, List.length_cons, List.range_succ_eq_map, List.map_cons, List.sum_cons, List.map_map]
  rfl
def pgL (c : Cls) (ss : List SpA) : List Nat := ss.flatMap fun s => (List.range c.pages).map (s.st + ·)
theorem WhV (c : Cls) (ss : List SpA) : (pgL c ss).length = ss.length * c.pages := by
 induction ss with
 | nil => simp [pgL]
 | cons s ss ih =>
  have e : pgL c (s :: ss) = (List.range c.pages).map (s.st + ·) ++ pgL c ss := rfl
  rw [e, List.length_append, ih]; simp [Nat.add_mul]; omega
theorem Wbr {c : Cls} {ss : List SpA} {p : Nat} : p ∈ pgL c ss ↔ Cov c ss p := by
 simp only [pgL, List.mem_flatMap, List.mem_map, List.mem_range, Cov]
 constructor
 ·rintro ⟨s, hs, i, hi, rfl⟩; exact ⟨s, hs, by omega, by omega⟩
 ·rintro ⟨s, hs, h1, h2⟩; exact ⟨s, hs, p - s.st, by omega, by omega⟩
theorem Weh {c : Cls} {ss : List SpA} (h : ss.Pairwise fun a b => a.st + c.pages <= b.st) : (pgL c ss).Nodup := by
 induction ss with
 | nil => exact List.nodup_nil
 | cons s ss ih =>
  have hp := List.pairwise_cons.1 h
  have e : pgL c (s :: ss) = (List.range c.pages).map (s.st + ·) ++ pgL c ss := rfl
  rw [e, List.nodup_append]
  refine ⟨?_, ih hp.2, fun a ha b hb e => ?_⟩
  ·exact List.Pairwise.map (R := (· ≠ ·)) _ (fun a b hab e => hab (by omega)) List.nodup_range
  ·subst e
   obtain ⟨i, hi, rfl⟩ := List.mem_map.1 ha
   obtain ⟨t, ht, h1, h2⟩ := Wbr.1 hb
   have := hp.1 t ht
   have := List.mem_range.1 hi
   omega
def rnL (l : List (Nat × Nat)) : List Nat := l.flatMap fun r => (List.range r.2).map (r.1 + ·)
theorem WhK (l : List (Nat × Nat)) : (rnL l).length = (l.map (·.2)).sum := by
 induction l with
 | nil => rfl
 | cons r l ih =>
  have e : rnL (r :: l) = (List.range r.2).map (r.1 + ·) ++ rnL l := rfl
  rw [e, List.length_append, ih]; simp
theorem Wa9 {l : List (Nat × Nat)} {p : Nat} : p ∈ rnL l ↔ inR l p := by
 simp only [rnL, List.mem_flatMap, List.mem_map, List.mem_range, inR]
 constructor
 ·rintro ⟨s, hs, i, hi, rfl⟩; exact ⟨s, hs, by omega, by omega⟩
 ·rintro ⟨s, hs, h1, h2⟩; exact ⟨s, hs, p - s.1, by omega, by omega⟩
theorem We5 {l : List (Nat × Nat)} (h : l.Pairwise fun a b => a.1 + a.2 <= b.1 ∨ b.1 + b.2 <= a.1) : (rnL l).Nodup := by
 induction l with
 | nil => exact List.nodup_nil
 | cons s ss ih =>
  have hp := List.pairwise_cons.1 h
  have e : rnL (s :: ss) = (List.range s.2).map (s.1 + ·) ++ rnL ss := rfl
  rw [e, List.nodup_append]
  refine ⟨?_, ih hp.2, fun a ha b hb e => ?_⟩
  ·exact List.Pairwise.map (R := (· ≠ ·)) _ (fun a b hab e => hab (by omega)) List.nodup_range
  ·subst e
   obtain ⟨i, hi, rfl⟩ := List.mem_map.1 ha
   obtain ⟨t, ht, h1, h2⟩ := Wa9.1 hb
   have := hp.1 t ht
   have := List.mem_range.1 hi
   omega
theorem HX {n : Nat} {l : List Nat} (hn : l.Nodup) (hl : ∀ x ∈ l, x < n) {f : Nat -> Bool} (hf : ∀ p, p < n -> (f p = true ↔ p ∈ l)) : (List.range n).countP f = l.length := by
 rw [List.countP_eq_length_filter]
 refine List.Perm.length_eq ?_
 rw [List.perm_ext_iff_of_nodup (List.nodup_range.filter _) hn]
 intro x
 rw [List.mem_filter, List.mem_range]
 exact ⟨fun ⟨a, b⟩ => (hf x a).1 b, fun hx => ⟨hl x hx, (hf x (hl x hx)).2 hx⟩⟩
theorem Wes (ga : GA A) : U6 A + Vr A + cnt A.n A.S = (List.range A.n).countP fun (p : Nat) => Uz A (p : Int) := by
 have key : ∀ m, m <= A.tb.length -> (List.range A.n).countP (fun p => A.ow p != 0 && decide (A.ow p <= m)) = ((List.range m).map (at2 (fun c ss => ss.length * c.pages) A.tb A.cen)).sum := by
  intro m
  induction m with
  | zero =>
   intro _
   simp
  | succ m ih =>
   intro hm
   rw [List.range_succ, List.map_append, List.sum_append, ← ih (by omega), List.map_singleton, List.sum_singleton]
   obtain ⟨c, ss, t, hc, _⟩ := ga.cl (k := m) (by omega)
   have hC := ga.cen m c ss hc
   rw [WiU hc.1 hc.2, ← WhV c ss, ← HX (n := A.n) (Weh hC.far) (fun x hx => by
    obtain ⟨s, hs, h1, h2⟩ := Wbr.1 hx
    exact ga.pg.lt (by rw [(ga.used hc hs h1 h2).1]; omega)) (f := fun p => A.ow p == m + 1) (fun p _ => by rw [Wbr, ← ga.ow m c ss hc p]; simp)]
   symm
   apply Go.Bu.countP_add
   intro p _
   by_cases h1 : A.ow p = m + 1
   ·simp [h1]
   ·by_cases h2 : A.ow p <= m
    ·have : (A.ow p == m + 1) = false := by simpa using h1
     have h3 : decide (A.ow p <= m + 1) = true := by simp; omega
     simp [this, h2, h3]
    ·have : (A.ow p == m + 1) = false := by simpa using h1
     have h3 : ¬ A.ow p <= m + 1 := by omega
     simp [this, h2, h3]
 have k1 := key A.tb.length (Nat.le_refl _)
 have e1 : U6 A = (List.range A.n).countP (fun p => A.ow p != 0 && decide (A.ow p <= A.tb.length)) := by
  rw [k1]; unfold U6
  rw [Wdt (fun c ss => ss.length * c.pages) A.tb A.cen ga.lc]
 have e2 : Vr A = (List.range A.n).countP (fun p => A.ow p == 41) := by
  unfold Vr
  rw [← WhK, HX (We5 ga.rdis) (fun x hx => by
   obtain ⟨r, hr, h1, h2⟩ := Wa9.1 hx
   exact ga.pg.lt (by rw [(ga.usedR hr h1 h2).1]; omega)) (f := fun p => A.ow p == 41) (fun p _ => by rw [Wa9, ← ga.ow41]; simp)]
 have htb := ga.tb
 have e3 : (List.range A.n).countP (fun p => A.ow p != 0 && decide (A.ow p <= A.tb.length)) + (List.range A.n).countP (fun p => A.ow p == 41) = (List.range A.n).countP (fun p => A.ow p != 0) := by
  apply Go.Bu.countP_add
  intro p _
  rcases ga.owb p with h1 | h1
  ·have : ¬ A.ow p <= A.tb.length := by omega
   simp [h1]; omega
  ·have : (A.ow p == 41) = false := by simp; omega
   simp [this, h1]
 have e4 : (List.range A.n).countP (fun p => A.ow p != 0) + (List.range A.n).countP A.S = (List.range A.n).countP fun (p : Nat) => Uz A (p : Int) := by
  apply Go.Bu.countP_add
  intro p _
  have hu := ga.pg.us p
  have hs := ga.pg.fr p
  have ho : Uz A (p : Int) = decide (A.f p ≠ 0) := by
   unfold Uz AR.f gf
   rw [decide_eq_true (show (0 : Int) <= p by omega), Bool.true_and, iTn]
  rw [ho]
  have hle := ga.pg.le p
  by_cases h0 : A.f p = 0
  ·have : A.ow p = 0 := Classical.byContradiction fun hn => by have := hu.2 hn; omega
   have hS : A.S p = false := by apply Bool.eq_false_iff.2; intro hx; have := hs.1 hx; omega
   simp [h0, this, hS]
  ·by_cases h1 : A.f p = 1
   ·have hw := hu.1 h1
    have hS : A.S p = false := by apply Bool.eq_false_iff.2; intro hx; have := hs.1 hx; omega
    simp [h1, hw, hS]
   ·have : A.ow p = 0 := Classical.byContradiction fun hn => h1 (hu.2 hn)
    have hS : A.S p = true := hs.2 (by omega)
    simp [h0, this, hS]
 unfold cnt
 rw [e1, e2, e3, e4]
theorem Wb9 (ga : GA A) : Vr A <= 1024 := by
 have h1 := Wes ga
 have h2 : (List.range A.n).countP (fun (p : Nat) => Uz A (p : Int)) <= A.n := by
  refine Nat.le_trans List.countP_le_length ?_
  rw [List.length_range]; exact Nat.le_refl _
 have := ga.pg.n2
 omega
end Go.Ar
namespace Go.Ar
open Go Go.Vc Go.Proofs
open Go.Bu (XA Zg Xj cnt)


variable {U : Hp} {F : Rg} {L : LayW} {W : Wd} {k : Nat} {A : AR} {xs : List (Int × Int × Int)}
theorem Vg {table : Sl} (ht : Acts U table xs) : xs ≠ [] -> ∀ b o, table.a = some ⟨b, o, none⟩ -> b < U.size := by
 intro hne b o ho
 cases xs with
 | nil => exact (hne rfl).elim
 | cons x l =>
  obtain ⟨b', o', h1, h2, _⟩ := ht.2 0 x.1 x.2.1 x.2.2 rfl
  rw [ho] at h1; cases h1; exact h2
end Go.Ar
namespace Go.Proofs
open Go.Vc

set_option maxRecDepth 100000
end Go.Proofs
namespace Go.Ar
open Go Go.Vc Go.Proofs
open Go.Bu (XA Zg Xj cnt)


variable {U : Hp} {xs : List (Int × Int × Int)}
end Go.Ar
namespace Go.Proofs
open Go.Vc

set_option maxRecDepth 100000
end Go.Proofs
namespace Go.Ar
open Go Go.Vc Go.Proofs
open Go.Bu (XA Zg Xj cnt)


variable {U : Hp} {xs : List (Int × Int × Int)} {W : Wd} {F : Rg} {L : LayW}
end Go.Ar
namespace Go.Proofs
open Go.Vc

set_option maxRecDepth 100000
end Go.Proofs
namespace Go.Ar
open Go Go.Vc Go.Proofs
open Go.Bu (XA Zg Xj cnt)


variable {U : Hp} {xs : List (Int × Int × Int)} {W : Wd} {F : Rg} {L : LayW} {k : Nat} {A : AR}
def rdW (sp : Sp) (w : Nat) : Int := if accE sp ((8 * w : Nat) : Int) = 0 then sp.wd w else 0
def Waq (sp : Sp) : List Int := (List.range (sp.st.length * 32)).map (rdW sp)
theorem UW (sp : Sp) : (Waq sp).length = sp.st.length * 32 := by simp [Waq]
theorem Wej {sp : Sp} {w : Nat} (h : w < sp.st.length * 32) : (Waq sp)[w]? = some (rdW sp w) := by
 unfold Waq; rw [List.getElem?_map, List.getElem?_range h]; rfl
theorem Q0 {p : Nat} {sp : Sp} (h : SpH3 U F p sp) (g : Gl U) (hn : sp.st.length <= 1000) {R : Sl -> Hp -> Prop} (hR : ∀ s' σ', Ext0 U σ' -> RowR s' 1 (YH (Waq sp)) σ' (fun b => U.size <= b) -> R s' σ') : Wq.call (some ⟨p, 0, none⟩) U R := by
 refine Wq.of_vc ?_
 unfold Wq.vc
 refine KA (a := .s) (bb := .i .i64) (fun (s : Sl) (t : Int) v => ∃ i : Nat, t = ((8 * i : Nat) : Int) /\ i <= sp.st.length * 32 /\ Ext0 U v /\ RowR s 1 (YH ((Waq sp).take i)) v (fun b => U.size <= b)) (fun _ t _ => sp.st.length * 256 - t.toNat)
  ⟨0, rfl, by omega, Ext.refl _ _, by rw [List.take_zero]; exact RowR.nil _ _ _ _⟩ ?_
 rintro (s : Sl) (t : Int) v ⟨i, rfl, hi, e, hr⟩
 have hv := Lcl.keep0 SpH3.loc h e
 have hl := hr.1
 have hwl := UW sp
 have hlen : s.len = i := by simp only [YH, List.length_map, List.length_take] at hl; omega
 refine QG hv (arN (m := sp.st.length * 256) (by simp) (by omega) (ifD (fun hlt => ?_) fun hge => ?_))
 ·have hi' : i < sp.st.length * 32 := by omega
  refine Wh6 hv (g.keep0 e) _ (by omega) fun v2 e2 => ?_
  have hval : (if accE sp ((8 * i : Nat) : Int) = 0 then sp.wd (((8 * i : Nat) : Int).toNat / 8) else 0) = rdW sp i := by
   unfold rdW; rw [show ((8 * i : Nat) : Int).toNat / 8 = i by omega]
  rw [hval]
  refine ((RowR.loc _ _ _).keep0 hr e2).push (vs := [.int .i64 (rdW sp i)]) (fun b hb => Nat.le_trans (Ext.trans e e2).1 hb) rfl rfl (by simp [one1]) (by omega) (by omega) fun s' v' hl' e' hr' => ?_
  have E := Ext.fresh (Ext.trans e e2) e' fun b hb => hb
  refine arN (m := 8 * (i + 1)) (by omega) (by omega) ⟨⟨i + 1, rfl, by omega, ?_, ?_⟩, by omega⟩
  ·exact E
  ·rw [List.take_add_one, Wej hi', Option.toList_some, show YH ((Waq sp).take i ++ [rdW sp i]) = YH ((Waq sp).take i) ++ [.int .i64 (rdW sp i)] by simp [YH]]
   exact hr'
 ·have hii : i = sp.st.length * 32 := by omega
  subst hii
  rw [← hwl, List.take_length] at hr
  exact hR s v e hr
end Go.Ar
namespace Go.Proofs
open Go.Vc

set_option maxRecDepth 100000
end Go.Proofs
namespace Go.Ar
open Go Go.Vc Go.Proofs
open Go.Bu (XA Zg Xj cnt)


variable {U : Hp} {F : Rg} {L : LayW} {W : Wd} {xs : List (Int × Int × Int)}
theorem Acts6.weak {N M : Nat} {sl : Sl} {us : List Act} (h : Acts6 U N sl us) (h1 : N <= M) (h2 : M <= U.size) : Acts6 U M sl us := by
 refine ⟨h.len, fun i x hx => ?_, h.i, h2⟩
 obtain ⟨b, o, s, q1, q2, c0, c1, c2, c3, c4, c5, q3, q4⟩ := h.at_ i x hx
 exact ⟨b, o, s, q1, by omega, c0, c1, c2, c3, c4, c5, (SlR.loc _ _ _).mono q3 fun b _ hb => by omega, q4⟩
theorem Acts6.keep0 {N : Nat} {sl : Sl} {us : List Act} (h : Acts6 U N sl us) {σ' : Hp} (e : Ext0 U σ') : Acts6 σ' N sl us := h.keep e.to
end Go.Ar
namespace Go.Proofs
open Go.Vc

set_option maxRecDepth 100000
end Go.Proofs
namespace Go.Ar
open Go Go.Vc Go.Proofs
open Go.Bu (XA Zg Xj cnt)


variable {U : Hp} {xs : List (Int × Int × Int)} {W : Wd} {F : Rg} {L : LayW} {k : Nat} {A : AR}
def AR.rn (A : AR) (rs : List (Nat × Nat)) : AR := { A with runs := rs }
theorem Wgp {l m : List (Nat × Nat)} (h : l.Perm m) {p : Nat} : inR l p ↔ inR m p := by
 unfold inR
 constructor
 ·rintro ⟨r, hr, e⟩; exact ⟨r, h.mem_iff.1 hr, e⟩
 ·rintro ⟨r, hr, e⟩; exact ⟨r, h.mem_iff.2 hr, e⟩
theorem GA.rn (h : GA A) {rs : List (Nat × Nat)} (hp : rs.Perm A.runs) : GA (A.rn rs) :=
 ⟨h.pg.same rfl rfl rfl rfl, h.tb, h.lc, h.lt, h.cen, h.one, h.ow, fun p => (h.ow41 p).trans (Wgp hp).symm, h.owb, fun r hr => h.rpos r (hp.mem_iff.1 hr),
  (hp.pairwise_iff (fun {a b} hab => hab.symm)).2 h.rdis, h.trn, h.trt, h.trb⟩
structure Alk (A B : AR) : Prop where
 n : B.n = A.n
 c1 : Wcv B = Wcv A
 c2 : Wgv B = Wgv A
 c3 : WbN B = WbN A
 c4 : U6 B = U6 A
 c5 : Vr B = Vr A
 c6 : cnt B.n B.S = cnt A.n A.S
 o : ∀ x : Int, Uz B x = Uz A x
 t : ∀ x : Int, Ub B x = Ub A x
theorem Alk.rn (h : GA A) {rs : List (Nat × Nat)} (hp : rs.Perm A.runs) : Alk A (A.rn rs) := by
 have h' := h.rn hp
 refine ⟨rfl, rfl, rfl, rfl, rfl, ?_, rfl, fun _ => rfl, fun x => ?_⟩
 ·exact (hp.map (·.2)).sum_nat
 ·rw [Bool.eq_iff_iff, K1 h', K1 h]
  have : (∃ r ∈ (A.rn rs).runs, x = ((r.1 * 256 : Nat) : Int)) ↔ ∃ r ∈ A.runs, x = ((r.1 * 256 : Nat) : Int) := by
   constructor
   ·rintro ⟨r, hr, e⟩; exact ⟨r, hp.mem_iff.1 hr, e⟩
   ·rintro ⟨r, hr, e⟩; exact ⟨r, hp.mem_iff.2 hr, e⟩
  exact or_congr Iff.rfl this
set_option maxRecDepth 8000 in
theorem Wcl {B : AR} {Y Z : Lay} {G : Rg} (hA : AHY U F Y A (traT A Y)) (hB : AHY U G Z B (traT B Z)) (ga : GA A) (gb : GA B) (h : Alk A B) {n : Nat} (hn : n <= 1000) {R : Bool -> Hp -> Prop} (hR : ∀ σ', Ext0 U σ' -> R true σ') :
 Xl.call (some ⟨Y.p, 0, none⟩) (some ⟨Z.p, 0, none⟩) (n : Int) U R := by
 refine Xl.of_vc ?_
 unfold Xl.vc
 have h1 := Wb9 ga
 have h2 := Wb9 gb
 refine V7 hA (show Vr A <= 1000000 by omega) fun v e => V7 (hB.keep0 e) (show Vr B <= 1000000 by omega) fun v1 e1 => JnB.intro ?_
 rw [h.c1, h.c2, h.c3, h.c4, h.c5, h.c6]
 refine ifF (by simp) (JnB.intro (ifF (by simp) (JnB.intro (ifF (by simp) (JnB.intro (ifF (by simp) (JnB.intro (ifF (by simp) (ifF (by simp) ?_)))))))))
 refine YX (a := .i .i64) (fun (t : Int) w => ∃ p : Nat, t = (p : Int) /\ p <= n /\ Ext0 v1 w) (fun t _ => n - t.toNat) ⟨0, rfl, by omega, Ext.refl _ _⟩ ?_
 rintro (t : Int) v7 ⟨p, rfl, hp, e7⟩
 have E7 := Ext.trans (Ext.trans e e1) e7
 have hA7 := hA.keep0 E7
 have hB7 := hB.keep0 E7
 refine ifD (fun hlt => ?_) fun hge => hR v7 E7
 refine UT hA7 _ (UT hB7 _ ?_)
 rw [h.o]
 refine ifF (by simp) (arN (m := p * 256) (by omega) (by omega) ?_)
 refine YX (a := .i .i64) (fun (t : Int) w => ∃ i : Nat, t = ((p * 256 + 8 * i : Nat) : Int) /\ i <= 32 /\ Ext0 v7 w) (fun t _ => p * 256 + 256 - t.toNat) ⟨0, by simp, by omega, Ext.refl _ _⟩ ?_
 rintro (t : Int) v10 ⟨i, rfl, hi, e10⟩
 have hA10 := hA7.keep0 e10
 have hB10 := hB7.keep0 e10
 have out : ∀ w, Ext0 v10 w -> Ar .i64 ((p : Int) + 1) fun p1 => (∃ p : Nat, p1 = (p : Int) /\ p <= n /\ Ext0 v1 w) /\ n - p1.toNat < n - (p : Int).toNat := fun w ew =>
  arN (m := p + 1) (by omega) (by omega) ⟨⟨p + 1, rfl, by omega, Ext.trans e7 (Ext.trans e10 ew)⟩, by omega⟩
 refine UT hA10 _ (JnB.intro (iff_ (fun ho => ?_) fun ho => ifF rfl (out _ (Ext.refl _ _))))
 refine arN (m := p + 1) (by omega) (by omega) (arN (m := p * 256 + 256) (by omega) (by omega) (ifD (fun hlt2 => ?_) fun hge2 => out _ (Ext.refl _ _)))
 refine K7 hA10 ga.runsOk _ (by unfold I63; omega) fun v13 e13 => K7 (hB10.keep0 e13) gb.runsOk _ (by unfold I63; omega) fun v14 e14 => ?_
 rw [h.t]
 exact ifF (by simp) (arN (m := p * 256 + 8 * (i + 1)) (by omega) (by omega) ⟨⟨i + 1, rfl, by omega, Ext.trans e10 (Ext.trans e13 e14)⟩, by omega⟩)
theorem jnP {K : Bool -> Hp -> Prop} {body : (Bool -> Hp -> Prop) -> Prop} (P : Bool -> Hp -> Prop) (h1 : ∀ r w, P r w -> K r w) (h2 : ∀ J : Bool -> Hp -> Prop, (∀ r w, P r w -> J r w) -> body J) : JnB K body := JnB.intro (h2 K h1)
theorem DoOk.cut (d : DoOk U F L W xs) : DoOk U (Cut F U) L W xs := ⟨d.h.cut, d.wi, d.n, d.k1, d.k2, d.ht, fun b o hb => ⟨(d.htF b o hb).1, fun hc => (d.htF b o hb).2 hc.1⟩, d.tb, d.hv⟩
end Go.Ar
namespace Go.Ar
open Go.Bu (XA Zg Xj cnt)


variable {W W' : Wd} {k : Nat} {A : AR} {sp : Sp} {rs : List (Nat × Nat)}
theorem WbM (l : List (Nat × Nat)) (A : AR) (rs : List (Nat × Nat)) : QD (A.rn rs) l = (QD A l).rn rs := by
 unfold QD
 induction l generalizing A with
 | nil => rfl
 | cons r l ih => exact ih (Q3 A r)
theorem WaB (A : AR) (rs : List (Nat × Nat)) (k : Int) (xs : List Int) : Yu (A.rn rs) k xs = (Yu A k xs).rn rs := by
 unfold Yu
 have e : Zr (A.rn rs) k xs = Zr A k xs := rfl
 have e1 : (A.rn rs).tb = A.tb := rfl
 have e2 : (A.rn rs).cen = A.cen := rfl
 rw [e, e1, e2]
 split
 ·split
  ·rename_i c ss _ _
   exact WbM _ { A with cen := A.cen.set k.toNat (sweep (xs.foldl (put1 c) ss)) } rs
  ·rfl
 ·rfl
theorem Wcz (l : List (Nat × Nat)) (A : AR) : (QD A l).runs = A.runs := by
 unfold QD
 induction l generalizing A with
 | nil => rfl
 | cons r l ih => exact ih (Q3 A r)
theorem Wbs (A : AR) (k : Int) (xs : List Int) : (Yu A k xs).runs = A.runs := by
 unfold Yu
 split
 ·split
  ·rename_i c ss _ _
   exact Wcz _ { A with cen := A.cen.set k.toNat (sweep (xs.foldl (put1 c) ss)) }
  ·rfl
 ·rfl
theorem Wbb (A : AR) (rs : List (Nat × Nat)) (k m : Int) : Ye (A.rn rs) k m = (Ye A k m).rn rs := by
 unfold Ye
 have e : Zm (A.rn rs) k m = Zm A k m := rfl
 rw [e]; split <;> rfl
theorem WcW (A : AR) (rs : List (Nat × Nat)) (k : Int) : Y7 (A.rn rs) k = (Y7 A k).rn rs := by
 unfold Y7
 have e : Z1 (A.rn rs) k = Z1 A k := rfl
 rw [e]; split <;> rfl
theorem Wgh (A : AR) (rs : List (Nat × Nat)) (k : Int) (xs : List Int) : Qu (A.rn rs) k xs = (Qu A k xs).rn rs := by
 unfold Qu
 have e : KJ (A.rn rs) k xs = KJ A k xs := rfl
 rw [e]; split <;> rfl
theorem Wgq (A : AR) (rs : List (Nat × Nat)) (sp : Sp) (s : Nat) : Kg (A.rn rs) sp s = (Kg A sp s).map fun q => (q.1.rn rs, q.2) := by
 unfold Kg; cases ZA sp s <;> rfl
theorem Wd2 (A : AR) (rs : List (Nat × Nat)) (sp : Sp) (p a no : Nat) : getA (A.rn rs) sp p a no = ((getA A sp p a no).1, (getA A sp p a no).2.1.rn rs, (getA A sp p a no).2.2) /\ (getA A sp p a no).2.1.runs = A.runs := by
 unfold getA
 have e1 : (A.rn rs).n = A.n := rfl
 have e2 : (A.rn rs).S = A.S := rfl
 rw [e1, e2, Wgq]
 cases Xj A.n A.S p a with
 | some x => exact ⟨rfl, rfl⟩
 | none =>
  have hr : ∀ q, Kg A sp (ZZ (max p a)) = some q -> q.1.runs = A.runs := fun q hq => by
   unfold Kg at hq
   split at hq
   ·cases hq
   ·cases hq; rfl
  cases hg : Kg A sp (ZZ (max p a)) with
  | none => exact ⟨rfl, rfl⟩
  | some q =>
   obtain ⟨B, sp'⟩ := q
   have hB := hr _ hg
   simp only [Option.map_some]
   have e3 : (B.rn rs).n = B.n := rfl
   have e4 : (B.rn rs).S = B.S := rfl
   rw [e3, e4]
   cases Xj B.n B.S p a with
   | some x => exact ⟨rfl, hB⟩
   | none => exact ⟨rfl, hB⟩
theorem Wf6 (A : AR) (rs : List (Nat × Nat)) (sp : Sp) (k : Int) : ZX (A.rn rs) sp k = ((ZX A sp k).1.rn rs, (ZX A sp k).2) /\ (ZX A sp k).1.runs = A.runs := by
 unfold ZX
 have e : (A.rn rs).ck k = A.ck k := rfl
 have e1 : (A.rn rs).tb = A.tb := rfl
 have e2 : (A.rn rs).cen = A.cen := rfl
 rw [e, e1, e2]
 split
 ·split
  ·rename_i c ss _ _
   obtain ⟨g1, g2⟩ := Wd2 A rs sp c.pages 1 (k.toNat + 1)
   rw [g1]
   generalize getA A sp c.pages 1 (k.toNat + 1) = t at g2 ⊢
   obtain ⟨o, B, sp'⟩ := t
   cases o with
   | none => exact ⟨rfl, g2⟩
   | some x =>
    simp only
    split
    ·exact ⟨rfl, g2⟩
    ·exact ⟨rfl, g2⟩
  ·exact ⟨rfl, rfl⟩
 ·exact ⟨rfl, rfl⟩
theorem Wc3 {l m : List (Nat × Nat)} (h : l.Perm m) (x n : Nat) : (Yt.mset2 l x n).Perm (Yt.mset2 m x n) := by
 unfold Yt.mset2
 have e : l.any (fun r => r.1 == x) = m.any (fun r => r.1 == x) := by
  rw [Bool.eq_iff_iff, List.any_eq_true, List.any_eq_true]
  constructor
  ·rintro ⟨r, hr, e⟩; exact ⟨r, h.mem_iff.1 hr, e⟩
  ·rintro ⟨r, hr, e⟩; exact ⟨r, h.mem_iff.2 hr, e⟩
 rw [e]
 split
 ·exact h.map _
 ·exact h.append_right _
theorem WdE (sp : Sp) (m a : Int) (hp : rs.Perm A.runs) : ∃ rs', Yt (A.rn rs) sp m a = ((Yt A sp m a).1.rn rs', (Yt A sp m a).2) /\ rs'.Perm (Yt A sp m a).1.runs /\ ZT (A.rn rs) sp m a = ZT A sp m a /\ QF (A.rn rs) sp m a = QF A sp m a := by
 obtain ⟨g1, g2⟩ := Wd2 A rs sp m.toNat a.toNat 41
 unfold Yt ZT QF
 rw [g1]
 generalize getA A sp m.toNat a.toNat 41 = t at g2 ⊢
 obtain ⟨o, B, sp'⟩ := t
 split
 ·cases o with
  | none => exact ⟨rs, rfl, by show rs.Perm B.runs; rw [g2]; exact hp, rfl, rfl⟩
  | some x => exact ⟨Yt.mset2 rs x m.toNat, rfl, Wc3 (by rw [g2]; exact hp) _ _, rfl, rfl⟩
 ·exact ⟨rs, rfl, hp, rfl, rfl⟩
theorem Wf3 (h : GA A) (hp : rs.Perm A.runs) (x : Int) : KB (A.rn rs) x = KB A x := by
 have h' := h.rn hp
 have mem : ∀ {B : AR} {r : Nat × Nat}, KB B x = some r -> r ∈ B.runs /\ (r.1 : Int) = x := fun {B} {r} hr => by
  unfold KB at hr
  exact ⟨List.mem_of_find?_eq_some hr, by have := List.find?_some hr; simpa using this⟩
 have non : ∀ {B : AR}, KB B x = none -> ∀ r ∈ B.runs, ¬ (r.1 : Int) = x := fun {B} hr r hm e => by
  unfold KB at hr
  have := List.find?_eq_none.1 hr r hm
  simp [e] at this
 cases e1 : KB (A.rn rs) x with
 | none =>
  cases e2 : KB A x with
  | none => rfl
  | some r =>
   obtain ⟨m1, m2⟩ := mem e2
   exact (non e1 r (hp.mem_iff.2 m1) m2).elim
 | some q =>
  obtain ⟨q1, q2⟩ := mem e1
  have q1 : q ∈ A.runs := hp.mem_iff.1 q1
  cases e2 : KB A x with
  | none => exact (non e2 q q1 q2).elim
  | some r =>
   obtain ⟨m1, m2⟩ := mem e2
   have := h.runs_uniq q1 m1 (x := q.1) (Nat.le_refl _) (by have := h.rpos q q1; omega) (by omega) (by have := h.rpos r m1; omega)
   rw [this]
theorem Wd8 (h : GA A) (hp : rs.Perm A.runs) (x : Int) : ∃ rs', ZO (A.rn rs) x = (ZO A x).rn rs' /\ rs'.Perm (ZO A x).runs /\ ZS (A.rn rs) x = ZS A x := by
 have e := Wf3 h hp x
 unfold ZO ZS
 rw [e]
 cases KB A x with
 | none => exact ⟨rs, rfl, hp, rfl⟩
 | some r => exact ⟨rs.filter fun q => !((q.1 : Int) == x), rfl, hp.filter _, rfl⟩
theorem Waa (A : AR) (rs : List (Nat × Nat)) : Zi (A.rn rs) = (Zi A).rn rs := by
 unfold Zi
 have e : (A.rn rs).tb = A.tb := rfl
 rw [e]
 generalize List.range A.tb.length = l
 induction l generalizing A with
 | nil => rfl
 | cons k l ih =>
  have e1 : ZD (A.rn rs) k = (ZD A k).rn rs := by
   unfold ZD
   have e1 : (A.rn rs).tb = A.tb := rfl
   have e2 : (A.rn rs).cen = A.cen := rfl
   rw [e1, e2]
   split
   ·rename_i c ss _ _
    exact WbM _ { A with cen := A.cen.set k (sweep ss) } rs
   ·rfl
  rw [List.foldl_cons, List.foldl_cons, e1]
  exact ih _ rfl
theorem Wg7 (A : AR) (rs : List (Nat × Nat)) (sp : Sp) (want : Int) : relS (A.rn rs) sp want = ((relS A sp want).1.rn rs, (relS A sp want).2) := by
 unfold relS
 split
 ·rfl
 ·have e : QL (A.rn rs) want = QL A want := by unfold QL; rw [Waa]; rfl
  rw [e, Waa]
  generalize QL A want = l
  generalize Zi A = B
  induction l generalizing B sp with
  | nil => rfl
  | cons r l ih => exact ih (rel1 (B, sp) r).2 (rel1 (B, sp) r).1
theorem Wfm (A : AR) (rs : List (Nat × Nat)) (sp : Sp) : Vh (A.rn rs) sp = ((Vh A sp).1.rn rs, (Vh A sp).2) := by
 unfold Vh
 have e : Z9 (A.rn rs).st 0 = Z9 A.st 0 := rfl
 rw [e]
 clear e
 generalize Z9 A.st 0 = l
 induction l generalizing A sp with
 | nil => rfl
 | cons r l ih => exact ih (KH (A, sp) r).1 (KH (A, sp) r).2
theorem Wgc (A : AR) (rs : List (Nat × Nat)) : QB (A.rn rs) = (QB A).rn rs := by
 unfold QB
 have e : (A.rn rs).tra = A.tra := rfl
 rw [e]
 generalize List.range A.tra.length = l
 induction l generalizing A with
 | nil => rfl
 | cons k l ih =>
  have e1 : Z8 (A.rn rs) k = (Z8 A k).rn rs := by
   unfold Z8
   have e2 : (A.rn rs).tra = A.tra := rfl
   rw [e2]
   cases A.tra[k]? with
   | none => rfl
   | some t =>
    simp only
    have e3 : ({ A.rn rs with tra := A.tra.set k t.tick } : AR) = AR.rn { A with tra := A.tra.set k t.tick } rs := rfl
    rw [e3]
    generalize ({ A with tra := A.tra.set k t.tick } : AR) = B
    generalize t.out = ls
    induction ls generalizing B with
    | nil => rfl
    | cons xs ls ih2 =>
     rw [List.foldl_cons, List.foldl_cons, WaB]
     exact ih2 _
  rw [List.foldl_cons, List.foldl_cons, e1]
  exact ih _ rfl
structure Sim (W W' : Wd) : Prop where
 tb : W'.tb = W.tb
 sp : W'.sp = W.sp
 held : W'.held = W.held
 len : W'.ars.length = W.ars.length
 ar : ∀ (k : Nat) (A : AR), W.ars[k]? = some A -> ∃ rs, rs.Perm A.runs /\ W'.ars[k]? = some (A.rn rs)
theorem Sim.inv (s : Sim W W') {k : Nat} {B : AR} (hB : W'.ars[k]? = some B) : ∃ A rs, W.ars[k]? = some A /\ rs.Perm A.runs /\ B = A.rn rs := by
 have hl := (gSi.1 hB).1
 have hA : W.ars[k]? = some (W.ars[k]'(by rw [← s.len]; exact hl)) := gGe _
 obtain ⟨rs, h1, h2⟩ := s.ar k _ hA
 rw [hB] at h2
 exact ⟨_, rs, hA, h1, Option.some.inj h2⟩
theorem Hd.rn {p : Pc} (h : Hd A p) (hp : rs.Perm A.runs) : Hd (A.rn rs) p := by
 rcases h with ⟨h1, h2, r, hr, h3, h4⟩ | h
 ·exact .inl ⟨h1, h2, r, hp.mem_iff.2 hr, h3, h4⟩
 ·exact .inr h
theorem Sim.wi (s : Sim W W') (h : WI W) : WI W' := by
 refine ⟨fun k B hB => ?_, fun k B hB => ?_, fun k B hB => ?_, fun k B hB p hp => ?_, fun p hp => ?_, fun p j l B C hB hC h1 h2 => ?_, ?_, fun p hp => ?_, fun k B hB j y hy => ?_, fun k B hB r hr => ?_⟩
 ·obtain ⟨A, rs, hA, hr, rfl⟩ := s.inv hB
  exact (h.ga k A hA).rn hr
 ·obtain ⟨A, rs, hA, hr, rfl⟩ := s.inv hB
  have o := h.ow k A hA
  rw [s.sp]
  exact ⟨o.l, o.own, o.cl, o.le⟩
 ·obtain ⟨A, rs, hA, hr, rfl⟩ := s.inv hB
  rw [s.tb]; exact h.tb k A hA
 ·obtain ⟨A, rs, hA, hr, rfl⟩ := s.inv hB
  exact h.low k A hA p hp
 ·rw [s.sp] at hp
  obtain ⟨k, A, hA, hf⟩ := h.own p hp
  obtain ⟨rs, _, hB⟩ := s.ar k A hA
  exact ⟨k, _, hB, hf⟩
 ·obtain ⟨A, rs, hA, _, rfl⟩ := s.inv hB
  obtain ⟨D, rs', hD, _, rfl⟩ := s.inv hC
  exact h.one p j l A D hA hD h1 h2
 ·rw [s.held]; exact h.hk
 ·rw [s.held] at hp
  obtain ⟨A, hA, hh⟩ := h.hf p hp
  obtain ⟨rs, hr, hB⟩ := s.ar p.k A hA
  exact ⟨_, hB, hh.rn hr⟩
 ·obtain ⟨A, rs, hA, hr, rfl⟩ := s.inv hB
  rw [s.held]; exact h.ht k A hA j y hy
 ·obtain ⟨A, rs, hA, hp, rfl⟩ := s.inv hB
  rw [s.held]; exact h.hr k A hA r (hp.mem_iff.1 hr)
theorem Sim.put {ars' : List AR} (s : Sim W ⟨W.tb, W.sp, ars', W.held⟩) {k : Nat} {B : AR} {sp : Sp} {hl : List Pc} (hp : rs.Perm B.runs) : Sim (W.put k B sp hl) (Wd.put ⟨W.tb, W.sp, ars', W.held⟩ k (B.rn rs) sp hl) := by
 have hlen : ars'.length = W.ars.length := s.len
 refine ⟨rfl, rfl, rfl, by show (ars'.set _ _).length = (W.ars.set _ _).length; simp [hlen], fun j C hC => ?_⟩
 show ∃ rs, _ /\ (ars'.set k _)[j]? = _
 rcases Q5 hC with ⟨rfl, rfl, hkl⟩ | ⟨hne, hC⟩
 ·exact ⟨rs, hp, List.getElem?_set_self (by omega)⟩
 ·obtain ⟨rs', h1, h2⟩ := s.ar j C hC
  exact ⟨rs', h1, (List.getElem?_set_ne (Ne.symm hne)).trans h2⟩
theorem WfJ {us us' : List AR} (hlen : us'.length = us.length) (hg : ∀ (k : Nat) (A : AR), us[k]? = some A -> GA A) (h : ∀ (k : Nat) (A : AR), us[k]? = some A -> ∃ rs, rs.Perm A.runs /\ us'[k]? = some (A.rn rs)) (held : List Pc) : Ux us' held = Ux us held := by
 unfold Ux
 apply List.filter_congr
 intro p _
 cases hA : us[p.k]? with
 | none =>
  have : us'[p.k]? = none := by
   have := List.getElem?_eq_none_iff.1 hA
   exact List.getElem?_eq_none (by omega)
  rw [this]
 | some A =>
  obtain ⟨rs, h1, h2⟩ := h _ _ hA
  rw [h2]
  simp only
  rw [(Alk.rn (hg _ _ hA) h1).t]
theorem Wb3 {x : Act} (h : W.ars[numW W.ars.length x.ar]? = none) : doW W x = (W, 0) := by unfold doW; rw [h]
theorem Wb2 {x : Act} (h : W.ars[numW W.ars.length x.ar]? = some A) : doW W x = actW W (numW W.ars.length x.ar) A x := by unfold doW; rw [h]
theorem WfD (h : WI W) {ars' : List AR} (s : Sim W ⟨W.tb, W.sp, ars', W.held⟩) (hk : W.ars[k]? = some A) (hp : rs.Perm A.runs) (x : Act) : Sim (actW W k A x).1 (actW ⟨W.tb, W.sp, ars', W.held⟩ k (A.rn rs) x).1 := by
 have ga := h.ga k A hk
 have ow := h.ow k A hk
 unfold actW
 by_cases c0 : x.kd = 0
 ·rw [if_pos c0, if_pos c0]
  obtain ⟨e, er⟩ := Wf6 A rs W.sp x.cl
  simp only
  rw [e]
  exact s.put (by rw [er]; exact hp)
 rw [if_neg c0, if_neg c0]
 by_cases c1 : x.kd = 1
 ·rw [if_pos c1, if_pos c1]
  simp only
  rw [Wbb]
  have er : (Ye A x.cl x.a).runs = A.runs := by unfold Ye; split <;> rfl
  exact s.put (by rw [er]; exact hp)
 rw [if_neg c1, if_neg c1]
 by_cases c2 : x.kd = 2
 ·rw [if_pos c2, if_pos c2]
  simp only
  by_cases ho : ownW W.held k x.cl x.l = true
  ·rw [if_pos ho, if_pos ho]
   simp only
   rw [WaB]
   have er : (Yu A x.cl x.l).runs = A.runs := Wbs A x.cl x.l
   exact s.put (by rw [er]; exact hp)
  ·rw [if_neg ho, if_neg ho]; exact s
 rw [if_neg c2, if_neg c2]
 by_cases c3 : x.kd = 3
 ·rw [if_pos c3, if_pos c3]
  simp only
  rw [WcW]
  have er : (Y7 A x.cl).runs = A.runs := by unfold Y7; split <;> rfl
  exact s.put (by rw [er]; exact hp)
 rw [if_neg c3, if_neg c3]
 by_cases c4 : x.kd = 4
 ·rw [if_pos c4, if_pos c4]
  simp only
  by_cases ho : ownW W.held k x.cl x.l = true
  ·rw [if_pos ho, if_pos ho]
   simp only
   rw [Wgh]
   have er : (Qu A x.cl x.l).runs = A.runs := by unfold Qu; split <;> rfl
   exact s.put (by rw [er]; exact hp)
  ·rw [if_neg ho, if_neg ho]; exact s
 rw [if_neg c4, if_neg c4]
 by_cases c5 : x.kd = 5
 ·rw [if_pos c5, if_pos c5]
  simp only
  obtain ⟨rs', e, h1, e2, e3⟩ := WdE W.sp x.a x.b hp
  rw [e, e2, e3]
  exact s.put h1
 rw [if_neg c5, if_neg c5]
 by_cases c6 : x.kd = 6
 ·rw [if_pos c6, if_pos c6]
  simp only
  obtain ⟨rs', e, h1, e2⟩ := Wd8 ga hp x.a
  rw [e, e2]
  exact s.put h1
 rw [if_neg c6, if_neg c6]
 by_cases c7 : x.kd = 7
 ·rw [if_pos c7, if_pos c7]; exact s
 rw [if_neg c7, if_neg c7]
 by_cases c10 : x.kd = 10
 ·rw [if_pos c10, if_pos c10]
  simp only
  rw [Wg7]
  exact s.put (by rw [(G4 ga ow x.a).2.1]; exact hp)
 rw [if_neg c10, if_neg c10]
 by_cases c11 : x.kd = 11
 ·rw [if_pos c11, if_pos c11]
  simp only
  rw [Wfm]
  exact s.put (by rw [(UM ga ow).runs]; exact hp)
 rw [if_neg c11, if_neg c11]
 by_cases c12 : x.kd = 12
 ·rw [if_pos c12, if_pos c12]
  simp only
  rw [Wgc]
  have wt := WI.tick h hk
  have er : (QB A).runs = A.runs := (GL ga).ob.runs
  have s2 : Sim (W.put k (QB A) W.sp (Ux (W.ars.set k (QB A)) W.held)) (Wd.put ⟨W.tb, W.sp, ars', W.held⟩ k ((QB A).rn rs) W.sp (Ux (W.ars.set k (QB A)) W.held)) := s.put (by rw [er]; exact hp)
  have e := WfJ (us := W.ars.set k (QB A)) (us' := ars'.set k ((QB A).rn rs)) s2.len (fun j C hC => wt.ga j C hC) s2.ar W.held
  rw [e]; exact s2
 rw [if_neg c12, if_neg c12]
 by_cases c13 : x.kd = 13
 ·rw [if_pos c13, if_pos c13]
  simp only
  by_cases hi : Qc W.held x.a = true
  ·rw [if_pos hi, if_pos hi]
   exact ⟨rfl, rfl, rfl, s.len, s.ar⟩
  ·rw [if_neg hi, if_neg hi]; exact s
 rw [if_neg c13, if_neg c13]; exact s
theorem WgZ (h : WI W) (s : Sim W W') (x : Act) : Sim (doW W x).1 (doW W' x).1 := by
 obtain ⟨tb', sp', ars', held'⟩ := W'
 obtain ⟨e1, e2, e3, e4, e5⟩ := s
 have e1 : tb' = W.tb := e1
 have e2 : sp' = W.sp := e2
 have e3 : held' = W.held := e3
 subst e1; subst e2; subst e3
 have s : Sim W ⟨W.tb, W.sp, ars', W.held⟩ := ⟨rfl, rfl, rfl, e4, e5⟩
 have e4 : ars'.length = W.ars.length := e4
 cases hA : W.ars[numW W.ars.length x.ar]? with
 | none =>
  have hn : ars'[numW ars'.length x.ar]? = none := by
   rw [e4]
   have := List.getElem?_eq_none_iff.1 hA
   exact List.getElem?_eq_none (by omega)
  rw [Wb3 hA, Wb3 (W := ⟨W.tb, W.sp, ars', W.held⟩) hn]; exact s
 | some A =>
  obtain ⟨rs, h1, h2⟩ := e5 _ _ hA
  have h2' : (⟨W.tb, W.sp, ars', W.held⟩ : Wd).ars[numW (⟨W.tb, W.sp, ars', W.held⟩ : Wd).ars.length x.ar]? = some (A.rn rs) := by
   show ars'[numW ars'.length x.ar]? = _
   rw [e4]; exact h2
  rw [Wb2 hA, Wb2 h2']
  show Sim _ (actW ⟨W.tb, W.sp, ars', W.held⟩ (numW ars'.length x.ar) (A.rn rs) x).1
  rw [e4]
  exact WfD h s hA h1 x
theorem Wd6 (h : WI W) (s : Sim W W') (us : List Act) : Sim (QO W us) (QO W' us) := by
 unfold QO
 induction us generalizing W W' with
 | nil => exact s
 | cons x us ih => exact ih (Wb4 h x) (WgZ h s x)
end Go.Ar
namespace Go.Proofs
open Go.Vc

set_option maxRecDepth 100000
def WY.hint : Hn := .q (.o 1) (.q (.q (.reg (.seq [.op, .op, .op, .grd false 2 [.op, .op]])) (.c (.q (.o 2) (.l)) (.l))) (.q (.o 10) (.q (.o 10) (.q (.q (.reg (.seq [.op, .op, .op, .grd false 2 [.op, .op]])) (.c (.q (.reg (.seq [.op, .op, .op, .op, .grd true 1 [.op], .op])) (.l)) (.l))) (.q (.o 6) (.q (.o 9) (.q (.q (.o 2) (.c (.q (.o 1) (.l)) (.l))) (.q (.q (.o 1) (.k (.loop [(17, .one (.i .i64))] (.q (.q (.o 4) (.c (.l) (.l))) (.q (.k (.o 6)) (.o 3)))))) (.q (.q (.reg (.heldJ true [] [(103, .one .b)] (.take 0 (.take 1 (.take 2 (.take 3 (.take 4 (.take 5 (.take 6 (.take 7 (.all [(8, .all [(9, .take 10 (.take 11 (.split 93 (.take 12 (.take 13 (.take 14 (.take 15 (.take 16 (.take 17 (.take 18 (.take 19 (.take 20 (.take 21 (.done))))))))))) (.take 12 (.take 14 (.take 15 (.take 16 (.all [(13, .all [(17, .all [(18, .all [(19, .take 20 (.take 21 (.done)))])])]), (17, .all [(13, .all [(18, .all [(19, .take 20 (.take 21 (.done)))])])])]))))))))])]))))))))))) (.c (.q (.o 1) (.l)) (.l))) (.q (.o 13) (.q (.q (.o 1) (.k (.loop [(19, .one (.i .i64))] (.q (.q (.o 4) (.c (.l) (.l))) (.q (.k (.o 6)) (.o 3)))))) (.q (.reg (.heldJ true [] [(10, .one .b)] (.take 0 (.take 1 (.take 2 (.take 3 (.take 4 (.take 5 (.take 6 (.take 7 (.all [(8, .all [(9, .take 10 (.split 138 (.take 11 (.take 13 (.take 14 (.take 15 (.all [(12, .all [(16, .all [(17, .all [(18, .take 19 (.take 20 (.split 148 (.all [(21, .take 22 (.take 23 (.done)))]) (.take 21 (.take 22 (.take 23 (.done)))))))])])]), (16, .all [(12, .all [(17, .all [(18, .take 19 (.take 20 (.split 148 (.all [(21, .take 22 (.take 23 (.done)))]) (.take 21 (.take 22 (.take 23 (.done)))))))])])])]))))) (.take 11 (.take 12 (.take 13 (.take 14 (.take 15 (.take 16 (.take 17 (.take 18 (.take 19 (.take 20 (.take 21 (.take 22 (.take 23 (.done))))))))))))))))])]))))))))))) (.l)))))))))))))
def WY.vc (table : Sl) (pages : Int) (room : Int) (l : Sl) (more : Sl) (U : Hp) (R : Bool -> Hp -> Prop) : Prop :=
 Xp.call l U fun t21 v =>
 JnB (fun r v1 =>
 If r (WT.call v1 fun t26 v2 =>
 R t26 v2)
 (Xk.call table pages 0 room l v1 fun t32 t321 v3 =>
 Xk.call table pages 0 room l v3 fun t40 t401 v4 =>
 JnB (fun r1 v5 =>
 If r1 (XD.call table v5 fun t50 v6 =>
 JnB (fun r2 v7 =>
 R r2 v7) fun J2 =>
 If (!t50) (WT.call v6 fun t53 v8 =>
 J2 t53 v8)
 (J2 false v6))
 (NilP t32 fun a56 =>
 LdP (a56.add 0) v5 fun t58 =>
 Yo.call t58 v5 fun s v9 =>
 NilP t32 fun a61 =>
 LdS (a61.add 1) v9 fun t63 =>
 Ix t63.a t63.len 0 1 fun a64 =>
 LdP a64 v9 fun t65 =>
 Yk.call t65 s v9 fun b v10 =>
 If b.isNone (R false v10)
 (Xe [(.i .i64)] (fun I => I 0 v10) fun J3 (i : Int) v11 =>
 If (decide (i < ((more.len : Nat) : Int))) (Ix more.a more.len i 6 fun a79 =>
 LdI .i64 (a79.add 0) v11 fun t80 =>
 LdI .i64 (a79.add 1) v11 fun t801 =>
 LdI .i64 (a79.add 2) v11 fun t802 =>
 LdI .i64 (a79.add 3) v11 fun t803 =>
 LdI .i64 (a79.add 4) v11 fun t804 =>
 LdS (a79.add 5) v11 fun t805 =>
 Wr.call t32 t80 t801 t802 t803 t804 t805 v11 fun t81 v12 =>
 Ar .i64 (i + 1) fun i1 =>
 J3 i1 v12)
 (Jn [.b] (fun (t103 : Bool) v13 =>
 If t103 (R false v13)
 (Nw (.cells #[.pointer b] 36 (0, 0)) v13 fun n106 v14 =>
 Nw (.cells #[] 39 (0, 0)) v14 fun n108 v15 =>
 NilP t40 fun a110 =>
 LdS (a110.add 3) v15 fun t112 =>
 App ⟨(some n108), 0, 0⟩ 5 40 39 [.int .i64 0, .int .i64 0, .int .i64 0, .int .i64 0, .bool false] t112 v15 fun t113 v16 =>
 Nw (.cells #[.pointer s, .slice (some n106) 1 1, .slice table.a table.len table.cap, .slice t113.a t113.len t113.cap] 34 (0, 0)) v16 fun n115 v17 =>
 Xe [(.i .i64)] (fun I1 => I1 0 v17) fun J5 (i2 : Int) v18 =>
 If (decide (i2 < ((more.len : Nat) : Int))) (Ix more.a more.len i2 6 fun a125 =>
 LdI .i64 (a125.add 0) v18 fun t126 =>
 LdI .i64 (a125.add 1) v18 fun t1261 =>
 LdI .i64 (a125.add 2) v18 fun t1262 =>
 LdI .i64 (a125.add 3) v18 fun t1263 =>
 LdI .i64 (a125.add 4) v18 fun t1264 =>
 LdS (a125.add 5) v18 fun t1265 =>
 Wr.call (some n115) t126 t1261 t1262 t1263 t1264 t1265 v18 fun t127 v19 =>
 Ar .i64 (i2 + 1) fun i3 =>
 J5 i3 v19)
 (Jn [.b] (fun (t10 : Bool) v20 =>
 R t10 v20) fun J6 =>
 Held v18 fun S1 =>
 NilP t32 fun a130 =>
 LdH S1 .s (a130.add 1) fun (t132 : Sl) =>
 Ix t132.a t132.len 0 1 fun a133 =>
 LdH S1 .p a133 fun (t134 : Option Addr) =>
 Wv.call s v18 fun t136 v21 =>
 And (S1 v21) <|
 Xl.call b t134 t136 v21 fun t137 v22 =>
 And (S1 v22) <|
 If t137 (NilP t32 fun a142 =>
 (Wq.call s v22 fun t140 v23 =>
 And (S1 v23) <|
 LdP (a142.add 0) v23 fun t144 =>
 And (S1 v23) <|
 Wq.call t144 v23 fun t145 v24 =>
 And (S1 v24) <|
 WQ.call t140 t145 v24 fun t146 v25 =>
 And (S1 v25) <|
 If t146 (WT.call v25 fun t149 v26 =>
 And (S1 v26) <|
 J6 t149 v26)
 (J6 false v25)) ∧
 (LdP (a142.add 0) v22 fun t1441 =>
 And (S1 v22) <|
 Wq.call s v22 fun t1401 v27 =>
 And (S1 v27) <|
 Wq.call t1441 v27 fun t1451 v28 =>
 And (S1 v28) <|
 WQ.call t1401 t1451 v28 fun t1461 v29 =>
 And (S1 v29) <|
 If t1461 (WT.call v29 fun t1491 v30 =>
 And (S1 v30) <|
 J6 t1491 v30)
 (J6 false v29)))
 (J6 false v22)))) fun J4 =>
 Held v11 fun S =>
 NilP t40 fun a84 =>
 LdH S .s (a84.add 1) fun (t86 : Sl) =>
 Ix t86.a t86.len 0 1 fun a87 =>
 LdH S .p a87 fun (t88 : Option Addr) =>
 Wv.call s v11 fun t90 v31 =>
 And (S v31) <|
 Xl.call b t88 t90 v31 fun t91 v32 =>
 And (S v32) <|
 If (!t91) (J4 true v32)
 (NilP t40 fun a97 =>
 (Wq.call s v32 fun t95 v33 =>
 And (S v33) <|
 LdP (a97.add 0) v33 fun t99 =>
 And (S v33) <|
 Wq.call t99 v33 fun t100 v34 =>
 And (S v34) <|
 WQ.call t95 t100 v34 fun t101 v35 =>
 And (S v35) <|
 J4 (!t101) v35) ∧
 (LdP (a97.add 0) v32 fun t991 =>
 And (S v32) <|
 Wq.call s v32 fun t951 v36 =>
 And (S v36) <|
 Wq.call t991 v36 fun t1001 v37 =>
 And (S v37) <|
 WQ.call t951 t1001 v37 fun t1011 v38 =>
 And (S v38) <|
 J4 (!t1011) v38)))))) fun J1 =>
 If (!t321) (J1 true v4)
 (J1 (!t401) v4))) fun J =>
 If t21 (J true v)
 (Xp.call more v fun t24 v39 =>
 J t24 v39)
theorem WY.of_vc {table pages room l more U R} (hv : WY.vc table pages room l more U R) : WY.call table pages room l more U R :=
 Wa Tryz.func12 (x := WY.hint) (Eq.mpr (by kernel_rfl) hv)
end Go.Proofs
namespace Go.Ar
open Go Go.Vc Go.Proofs
open Go.Bu (XA Zg Xj cnt)


variable {U : Hp} {xs : List (Int × Int × Int)} {W W' : Wd} {F : Rg} {L : LayW} {k : Nat} {A : AR}
theorem jnP2 {K : Fam [.b]} {body : Fam [.b] -> Prop} (P : Bool -> Hp -> Prop) (h1 : ∀ r w, P r w -> K r w) (h2 : ∀ J : Fam [.b], (∀ r w, P r w -> J r w) -> body J) : Jn [.b] K body := Jn.intro (h2 K h1)
theorem Alk.symm {A B : AR} (h : Alk A B) : Alk B A := ⟨h.n.symm, h.c1.symm, h.c2.symm, h.c3.symm, h.c4.symm, h.c5.symm, h.c6.symm, fun x => (h.o x).symm, fun x => (h.t x).symm⟩
theorem Wal (h : WI W) (us : List Act) : (QO W us).ars.length = W.ars.length /\ (QO W us).sp.st.length = W.sp.st.length := by
 unfold QO
 induction us generalizing W with
 | nil => exact ⟨rfl, rfl⟩
 | cons x us ih =>
  obtain ⟨h1, h2⟩ := ih (Wb4 h x)
  have f := U2 h x
  exact ⟨h1.trans f.2.1, h2.trans f.2.2⟩
theorem DoOk.re (d : DoOk U F L W xs) {G : Rg} (hs : ∀ b, b < U.size -> (F b ↔ G b)) (o : Off G) (o2 : ¬ G 2) : DoOk U G L W xs :=
 ⟨d.h.mono (fun b hb hf => (hs b hb).1 hf) o o2, d.wi, d.n, d.k1, d.k2, d.ht, fun b o hb => ⟨(d.htF b o hb).1, fun hc => (d.htF b o hb).2 ((hs b (d.htF b o hb).1).2 hc)⟩, d.tb, d.hv⟩
theorem DoOk.next2 (d : DoOk U F L W xs) (hF : ∀ b, U.size <= b -> F b) {W' : Wd} {σ' : Hp} {s' : Sl} (e : Ext F U σ') (h' : WH σ' (Grow F U) { L with held := s' } W') (wi : WI W') (f : W'.tb = W.tb /\ W'.ars.length = W.ars.length /\ W'.sp.st.length = W.sp.st.length) : DoOk σ' F { L with held := s' } W' xs := by
 refine ⟨h'.mono (fun b _ hb => ?_) d.h.o d.h.o2, wi, by rw [f.2.2]; exact d.n, by rw [f.2.1]; exact d.k1, by rw [f.2.1]; exact d.k2, Ko d.ht e fun b hb o ho => (d.htF b o ho).2 hb, fun b o ho => ⟨Nat.lt_of_lt_of_le (d.htF b o ho).1 e.1, (d.htF b o ho).2⟩, by rw [f.1]; exact d.tb, d.hv⟩
 rcases hb with hb | hb
 ·exact hb
 ·exact hF b hb
theorem DoOk.keep (d : DoOk U F L W xs) {σ' : Hp} {T : Rg} (e : Ext T U σ') (hT : ∀ b, F b -> ¬ T b) (hg : Off T) (hg2 : ¬ T 2) (ht : ∀ b o, L.table.a = some ⟨b, o, none⟩ -> ¬ T b) : DoOk σ' F L W xs :=
 ⟨d.h.keep e hT hg hg2, d.wi, d.n, d.k1, d.k2, Ko d.ht e fun b hb o ho => ht b o ho hb, fun b o ho => ⟨Nat.lt_of_lt_of_le (d.htF b o ho).1 e.1, (d.htF b o ho).2⟩, d.tb, d.hv⟩
theorem WaV {N : Nat} {more : Sl} {us : List Act} (ha : Acts6 U N more us) (h40 : ∀ x ∈ us, x.l.length <= 40) (hul : us.length <= 1000) (d : DoOk U F L W xs) (hF : ∀ b, U.size <= b -> F b) (hNF : ∀ b, b < N -> ¬ F b) {K : Hp -> Prop}
 (hK : ∀ σ' s', Ext F U σ' -> DoOk σ' F { L with held := s' } (QO W us) xs -> K σ') :
 Xe [(.i .i64)] (fun I => I 0 U) fun J (i : Int) v =>
  If (decide (i < ((more.len : Nat) : Int))) (Ix more.a more.len i 6 fun a =>
   LdI .i64 (a.add 0) v fun t0 =>
   LdI .i64 (a.add 1) v fun t1 =>
   LdI .i64 (a.add 2) v fun t2 =>
   LdI .i64 (a.add 3) v fun t3 =>
   LdI .i64 (a.add 4) v fun t4 =>
   LdS (a.add 5) v fun t5 =>
   Wr.call (some ⟨L.w, 0, none⟩) t0 t1 t2 t3 t4 t5 v fun t6 v1 =>
   Ar .i64 (i + 1) fun i1 =>
   J i1 v1)
  (K v) := by
 have hlen := ha.len
 refine YX (a := .i .i64) (fun (t : Int) u => ∃ j : Nat, t = (j : Int) /\ j <= us.length /\ Ext F U u /\ ∃ s' : Sl, DoOk u F { L with held := s' } (QO W (us.take j)) xs) (fun t _ => us.length - t.toNat)
  ⟨0, rfl, by omega, Ext.refl _ _, L.held, d⟩ ?_
 rintro (t : Int) u ⟨j, rfl, hj, eu, s', dj⟩
 have hu : Acts6 u N more us := ha.keep (eu.mono fun b hb hc => by
  by_cases h : b < N
  ·exact (hNF b h hc).elim
  ·omega)
 have hzu := eu.1
 refine ifD (fun hlt => ?_) fun hge => ?_
 ·have hj' : j < us.length := by omega
  have hx : us[j]? = some us[j] := gGe hj'
  generalize us[j] = x at hx
  have hxm := List.mem_of_getElem? hx
  refine hu.rd hx fun s hs hcap => ?_
  refine WiN dj x ⟨⟨_, hs, fun b hb => ⟨by have := hu.sz; omega, hNF b hb⟩⟩, hcap, h40 x hxm, (ha.i x hxm).2⟩ (ha.i x hxm).1 fun u2 s2 e2 h2 => ?_
  have htake : us.take (j + 1) = us.take j ++ [x] := by rw [List.take_add_one, hx]; rfl
  have epl : QO W (us.take (j + 1)) = (doW (QO W (us.take j)) x).1 := by unfold QO; rw [htake, List.foldl_append]; rfl
  refine arN (m := j + 1) (by omega) (by omega) ⟨⟨j + 1, rfl, by omega, eu.trans e2, s2, ?_⟩, by omega⟩
  rw [epl]
  exact dj.next2 (fun b hb => hF b (by omega)) e2 h2 (Wb4 dj.wi x) (U2 dj.wi x)
 ·have hjj : j = us.length := by omega
  subst hjj
  rw [List.take_length] at dj
  exact hK u s' eu dj
theorem WhP {s : Sl} {sz bytes e n : Nat} {zs vs : List Value} {K : Sl -> Hp -> Prop} (h : SlR s sz vs U F) (hpos : 0 < sz) (hz : zs.length = sz) (h1 : ∀ v ∈ vs, one1 v = true) (hb : bytes <= 1000) (hl : s.len <= 1000000)
 (hR : ∀ s' σ', s'.len = s.len -> Ext0 U σ' -> RowR s' sz vs σ' (fun b => U.size <= b) -> K s' σ') : App ⟨some ⟨n, 0, none⟩, 0, 0⟩ sz bytes e zs s U K := by
 have hlen := h.1
 rcases Nat.eq_zero_or_pos s.len with h0 | h0
 ·obtain ⟨a, m, c⟩ := s
  simp only at h0; subst h0
  have : vs = [] := by simpa using hlen
  subst this
  exact WeU (hR _ _ rfl (Ext.refl _ _) (RowR.nil _ _ _ _))
 ·refine (RowR.nil U (fun b => U.size <= b) sz (some ⟨n, 0, none⟩)).app (ys := vs) hz hlen h.rd h1 ?_ ?_ h0 fun s' h' hl' e' ho' => hR s' h' (by simpa using hl') ?_ ?_
  ·simp only [Nat.zero_add]
   have : s.len * bytes <= 1000000 * 1000 := Nat.mul_le_mul hl hb
   omega
  ·simp only; omega
  ·exact Ext.fresh (Ext.refl _ _) e' fun i hi => hi
  ·rw [List.nil_append] at ho'
   exact (RowR.loc _ _ _).mono ho' fun b _ hg => by
    rcases hg with h | h
    ·exact h
    ·exact h
set_option maxRecDepth 8000 in
theorem WcS (g : Gl U) (gd : Gd U) {table : Sl} (ht : Acts U table xs) {pages room : Int} (hp : 0 <= pages /\ pages <= 255) (hr9 : 0 <= room /\ room <= 255)
 {l : Sl} {us : List Act} (hl : Acts6 U U.size l us) (hll : us.length <= 9223372036854775807) {more : Sl} {us2 : List Act} (hm : Acts6 U U.size more us2) (hml : us2.length <= 9223372036854775807)
 {R : Bool -> Hp -> Prop} (hR : ∀ σ', Ext0 U σ' -> R true σ') : WY.call table pages room l more U R := by
 refine WY.of_vc ?_
 unfold WY.vc
 refine Wcm hl hll (jnP (fun r w => Ext0 U w /\ (r = false -> Up us = false /\ Up us2 = false)) (fun r w ⟨ew, hr0⟩ => ?_) fun J hJ => ?_)
 rotate_left
 ·refine iff_ (fun hg => hJ true U ⟨Ext.refl _ _, fun h => by cases h⟩) fun hg => Wcm hm hml (hJ _ U ⟨Ext.refl _ _, fun h => ⟨hg, h⟩⟩)
 refine iff_ (fun hr => UP (g.keep0 ew) fun w' e' => hR w' (Ext.trans ew e')) fun hr => ?_
 obtain ⟨hg1, hg2⟩ := hr0 hr
 obtain ⟨h40, hl40⟩ := Waj hg1
 obtain ⟨m40, hm40⟩ := Waj hg2
 have gw := g.keep0 ew
 have gdw := gd.keep0 ew
 have hz1 := ew.1
 have hgd := WcX gd
 refine GK gw gdw (Nat.le_refl _) (HI gw) (by omega) (Zc ht ew) (fun hne b o hbo => by have := Vg ht hne b o hbo; omega) hp ⟨by omega, by omega⟩ hr9 ((hl.keep0 ew).weak hz1 (Nat.le_refl _)) h40 hl40 (fun hv v3 e3 => ?_) fun hv v3 L1 e3 hw1 => ?_
 ·have E3 := Ext.trans ew e3
  have hz3 := E3.1
  refine GK (g.keep0 E3) (gd.keep0 E3) (Nat.le_refl _) (HI (g.keep0 E3)) (by omega) (Zc ht E3) (fun hne b o hbo => by have := Vg ht hne b o hbo; omega) hp ⟨by omega, by omega⟩ hr9 ((hl.keep0 E3).weak hz3 (Nat.le_refl _)) h40 hl40 (fun _ v4 e4 => ?_) fun hv' v4 L2 e4 hw2 => by rw [hv] at hv'; cases hv'
  have E4 := Ext.trans E3 e4
  refine JnB.intro (ifT rfl (ifT rfl (WdC (Zc ht E4) fun v6 e6 => JnB.intro ?_)))
  rw [hv]
  exact ifT rfl (UP (g.keep0 (Ext.trans E4 e6)) fun w' e' => hR w' (Ext.trans (Ext.trans E4 e6) e'))
 have e3' : Ext0 w v3 := e3.mono (G := fun _ => False) fun b hb hc => by omega
 have E3 := Ext.trans ew e3'
 have hz3 := E3.1
 refine GK (g.keep0 E3) (gd.keep0 E3) (Nat.le_refl _) (HI (g.keep0 E3)) (by omega) (Zc ht E3) (fun hne b o hbo => by have := Vg ht hne b o hbo; omega) hp ⟨by omega, by omega⟩ hr9 ((hl.keep0 E3).weak hz3 (Nat.le_refl _)) h40 hl40 (fun hv' => by rw [hv] at hv'; cases hv') fun _ v4 L2 e4 hw2 => ?_
 have hcl : ∀ c ∈ xs.map Z4, c.ok := fun c hc => by
  obtain ⟨j, hj⟩ := List.getElem?_of_mem hc
  exact (Vb ht hv hj).2
 have hxl : xs.length <= 40 := by
  have h2 := hv
  unfold ZC at h2
  simp only [Bool.and_eq_true, decide_eq_true_eq] at h2
  exact h2.2.1
 have hn32 : 32 <= nW pages /\ nW pages <= 208 /\ nW pages % 16 = 0 := by unfold nW; omega
 have hal : (QO (newW (xs.map Z4) (nW pages) (HD room) (Ki 0)) us).ars.length = 1 := (Wal (Wd0 (by omega) (by omega) hn32.2.2 (by rw [List.length_map]; exact hxl) hcl) us).1
 generalize QO (newW (xs.map Z4) (nW pages) (HD room) (Ki 0)) us = W at hw1 hw2 hal
 have e4' : Ext0 v3 v4 := e4.mono (G := fun _ => False) fun b hb hc => by omega
 have E4 := Ext.trans E3 e4'
 refine JnB.intro (ifF rfl (ifF rfl ?_))
 have wi := hw1.d.wi
 have hn := hw1.d.n
 have hlen := wi.len
 have hA : W.ars[0]? = some (W.ars[0]'(by omega)) := gGe _
 generalize (W.ars[0]'(by omega)) = A at hA
 have ga := wi.ga 0 A hA
 have hne : xs ≠ [] := by
  rintro rfl
  unfold ZC at hv
  simp at hv
 have htb : ∀ b o, table.a = some ⟨b, o, none⟩ -> b < U.size := Vg ht hne
 have d1 : DoOk v4 (Cut (fun b => w.size <= b) v3) L1 W xs := (hw1.d.cut).keep0 e4'
 have d2 : DoOk v4 (Cut (fun b => v3.size <= b) v4) L2 W xs := hw2.d.cut
 have hz4 := e4'.1
 refine nilP (d1.h.hd.rP rfl (WbE d1.h.sp fun v9 po e9 hpo ho9 => ?_))
 have d1_9 := d1.keep0 e9
 obtain ⟨Y, hy, hYh, hAH⟩ := d1_9.h.ar hA
 refine nilP (d1_9.h.hd.rS rfl (d1_9.h.rA hy ?_))
 have hsp9 := d1_9.h.sp
 rw [← hYh] at hsp9
 refine Weo hAH hsp9 ho9 (fun hne => (hne rfl).elim) fun _ v10 Yn rs e10 hYn hrs hB => ?_
 refine ifF rfl ?_
 have hB : AHY v10 (fun b => v9.size <= b) Yn (A.rn rs) (traT (A.rn rs) Yn) := hB
 have E10 := Ext.trans (Ext.trans E4 e9) e10
 have hz9 := e9.1; have hz10 := e10.1
 have oS : Off fun b => U.size <= b := HI g
 let F1 : Rg := fun b => Cut (fun b => w.size <= b) v3 b ∨ v10.size <= b
 have hF1 : ∀ b, F1 b -> U.size <= b := fun b hb => by
  rcases hb with hb | hb
  ·have := hb.1; omega
  ·have := E10.1; omega
 have d1_10 : DoOk v10 F1 L1 W xs := (d1.keep0 (Ext.trans e9 e10)).re (fun b hb => ⟨.inl, fun hx => hx.resolve_right (by omega)⟩) (oS.sub hF1) fun hx => by have := hF1 _ hx; omega
 refine WaV (hm.keep0 E10) hm40 (by omega) d1_10 (fun b hb => .inr hb) (fun b hb hx => by have := hF1 _ hx; omega) fun v11 s1 e11 d11 => ?_
 have E11 : Ext0 U v11 := Ext.fresh E10 e11 hF1
 have d2_11 : DoOk v11 (Cut (fun b => v3.size <= b) v4) L2 W xs := (d2.keep0 (Ext.trans e9 e10)).keep e11 (fun b hb hc => by
  have h1 := hb.1; have h2 := hb.2
  rcases hc with hc | hc
  ·have := hc.2; omega
  ·omega) (oS.sub hF1) (fun hx => by have := hF1 _ hx; omega) fun b o ho hx => by
   rw [hw2.t] at ho
   have := htb b o ho; have := hF1 _ hx; omega
 have ho11 : SpH3 v11 (fun b => v4.size <= b /\ b < v9.size) po W.sp := Lcl.keep SpH3.loc (Lcl.keep0 SpH3.loc (Zh SpH3.loc ho9) e10) e11 fun b _ hb hc => by
  rcases hc with hc | hc
  ·have := hc.2; omega
  ·omega
 have hB11 : AHY v11 (fun b => v9.size <= b /\ b < v10.size) Yn (A.rn rs) (traT (A.rn rs) Yn) := Lcl.keep AHY.loc (Zh AHY.loc hB) e11 fun b _ hb hc => by
  rcases hc with hc | hc
  ·have := hc.2; omega
  ·omega
 refine jnP2 (fun r u => r = false /\ Ext0 v11 u) (fun r v13 ⟨hrf, e13⟩ => ?_) fun J hJ => ?_
 rotate_left
 ·obtain ⟨Y2, hy2, _, hA2⟩ := d2_11.h.ar hA
  refine ⟨fun m => Ext0 v11 m, Ext.refl _ _, nilP ⟨L2.arow, fun m hm => by rw [add_lit, (Ext.blk hm d2_11.h.hd id).cell]; rfl, ?_⟩⟩
  refine Ht d2_11.h.arow.slR (k := 0) (q := Y2.p) (by simp [hy2]) ?_
  refine QG ho11 ⟨Ext.refl _ _, ?_⟩
  refine Wcl hB11 hA2 (ga.rn hrs) ga (Alk.rn ga hrs).symm (by omega) fun v16 e16 => ⟨e16, ifF rfl ?_⟩
  have d2_16 := d2_11.keep0 e16
  have ho16 := Lcl.keep0 SpH3.loc ho11 e16
  have hwl := UW W.sp
  refine nilP ⟨?_, ?_⟩
  ·refine Q0 ho16 (g.keep0 (Ext.trans E11 e16)) (by omega) fun a v17 e17 ha => ⟨Ext.trans e16 e17, ?_⟩
   have e117 := Ext.trans e16 e17
   refine (d2_16.keep0 e17).h.hd.rP rfl ⟨e117, ?_⟩
   refine Q0 (d2_16.keep0 e17).h.sp (g.keep0 (Ext.trans E11 e117)) (by omega) fun c v18 e18 hc => ⟨Ext.trans e117 e18, ?_⟩
   have e118 := Ext.trans e117 e18
   refine VS ((RowR.loc _ _ _).keep0 ha e18).slR hc.slR (by omega) ⟨e118, hJ _ _ ⟨by simp, e118⟩⟩
  ·refine d2_16.h.hd.rP rfl ⟨e16, ?_⟩
   refine Q0 ho16 (g.keep0 (Ext.trans E11 e16)) (by omega) fun a v17 e17 ha => ⟨Ext.trans e16 e17, ?_⟩
   have e117 := Ext.trans e16 e17
   refine Q0 (d2_16.keep0 e17).h.sp (g.keep0 (Ext.trans E11 e117)) (by omega) fun c v18 e18 hc => ⟨Ext.trans e117 e18, ?_⟩
   have e118 := Ext.trans e117 e18
   refine VS ((RowR.loc _ _ _).keep0 ha e18).slR hc.slR (by omega) ⟨e118, hJ _ _ ⟨by simp, e118⟩⟩
 subst hrf
 refine ifF rfl ?_
 refine nw (cs := [.pointer (some ⟨Yn.p, 0, none⟩)]) fun v14 z14 e14 b14 => nw (cs := []) fun v15 z15 e15 b15 => ?_
 have e1115 := Ext.trans (Ext.trans e13 e14) e15
 have d2_15 := d2_11.keep0 e1115
 have hhl := d2_15.h.heldL
 refine nilP (d2_15.h.hd.rS rfl ?_)
 refine WhP d2_15.h.held.slR (by omega) rfl VT (by omega) (by show L2.held.len <= 1000000; omega) fun s3 v16 hl3 e16 hr3 => ?_
 let L3 : LayW := ⟨v16.size, po, ⟨some ⟨v13.size, 0, none⟩, 1, 1⟩, s3, table, [Yn]⟩
 let W3 : Wd := ⟨W.tb, W.sp, [A.rn rs], W.held⟩
 refine nw (cs := hdW L3) fun v17 z17 e17 b17 => ?_
 have e1317 : Ext0 v13 v17 := Ext.trans (Ext.trans (Ext.trans e14 e15) e16) e17
 have e1117 := Ext.trans e13 e1317
 have E17 := Ext.trans E11 e1117
 have hz11 := e11.1; have hz13 := e13.1; have hz16 := e16.1
 let F3 : Rg := fun b => (v4.size <= b /\ b < v10.size) ∨ v13.size <= b
 have hE4 := E4.1
 have hF3 : ∀ b, F3 b -> U.size <= b := fun b hb => by
  rcases hb with hb | hb <;> omega
 have ho17 : SpH3 v17 (fun b => v4.size <= b /\ b < v9.size) po W.sp := Lcl.keep0 SpH3.loc ho11 e1117
 have hB17 : AHY v17 (fun b => v9.size <= b /\ b < v10.size) Yn (A.rn rs) (traT (A.rn rs) Yn) := Lcl.keep0 AHY.loc hB11 e1117
 have hr17 : RowR s3 5 (pcV W.held) v17 (fun b => v15.size <= b /\ b < v16.size) := (RowR.loc _ _ _).keep0 (Zh (RowR.loc _ _ _) hr3) e17
 have b17a : Blk v17 v13.size [.pointer (some ⟨Yn.p, 0, none⟩)] := Ext.blk (Ext.trans (Ext.trans e15 e16) e17) b14 id
 have h17 : WH v17 F3 L3 W3 := by
  refine ⟨rfl, fun Z hZ => by simp only [L3, List.mem_singleton] at hZ; subst hZ; exact hYn, ⟨fun b => if b < v9.size then .sp else if b < v10.size then .ar 0 else if b = v13.size then .arow else if b < v16.size then .held else .hd, fun i => ?_⟩, g.keep0 E17, gd.keep0 E17, oS.sub hF3, fun hx => by have := hF3 _ hx; omega⟩
  cases i with
  | hd => exact ⟨⟨.inr (by show v13.size <= v16.size; omega), by show (if v16.size < v9.size then LbW.sp else if v16.size < v10.size then LbW.ar 0 else if v16.size = v13.size then LbW.arow else if v16.size < v16.size then LbW.held else LbW.hd) = LbW.hd; rw [if_neg (by omega), if_neg (by omega), if_neg (by omega), if_neg (by omega)]⟩, b17⟩
  | sp => exact Lcl.mono SpH3.loc ho17 fun b _ hb => ⟨.inl ⟨hb.1, by omega⟩, if_pos hb.2⟩
  | arow =>
   refine ⟨rfl, .inr ⟨v13.size, _, ⟨.inr (Nat.le_refl _), ?_⟩, rfl, b17a, Nat.le_refl _, rfl, ?_⟩⟩
   ·show (if v13.size < v9.size then LbW.sp else if v13.size < v10.size then LbW.ar 0 else if v13.size = v13.size then LbW.arow else if v13.size < v16.size then LbW.held else LbW.hd) = LbW.arow
    rw [if_neg (by omega), if_neg (by omega), if_pos rfl]
   ·rfl
  | held => exact Lcl.mono (RowR.loc _ _ _) hr17 fun b _ hb => ⟨.inr (by omega), by show (if b < v9.size then LbW.sp else if b < v10.size then LbW.ar 0 else if b = v13.size then LbW.arow else if b < v16.size then LbW.held else LbW.hd) = LbW.held; rw [if_neg (by omega), if_neg (by omega), if_neg (by omega), if_pos hb.2]⟩
  | ar k =>
   cases k with
   | zero => exact Lcl.mono AHY.loc hB17 fun b _ hb => ⟨.inl ⟨by omega, hb.2⟩, by show (if b < v9.size then LbW.sp else if b < v10.size then LbW.ar 0 else if b = v13.size then LbW.arow else if b < v16.size then LbW.held else LbW.hd) = LbW.ar 0; rw [if_neg (by omega), if_pos hb.2]⟩
   | succ k => exact trivial
 have sim : Sim W W3 := ⟨rfl, rfl, rfl, hal.symm, fun k C hC => by
  have hk := (gSi.1 hC).1
  have : k = 0 := by omega
  subst this
  rw [hA] at hC; cases hC
  exact ⟨rs, hrs, rfl⟩⟩
 have d17 : DoOk v17 F3 L3 W3 xs := ⟨h17, sim.wi wi, hn, Nat.le_refl _, by show 1 <= 3; omega, Zc ht E17, fun b o hb => ⟨by have := htb b o hb; have := E17.1; omega, fun hx => by have := htb b o hb; have := hF3 _ hx; omega⟩, hw1.d.tb, hv⟩
 refine WaV (L := L3) (hm.keep0 E17) hm40 (by omega) d17 (fun b hb => .inr (by omega)) (fun b hb hx => by have := hF3 _ hx; omega) fun v18 s5 e18 d18 => ?_
 have E18 : Ext0 U v18 := Ext.fresh E17 e18 hF3
 have dd := (((d11.keep0 e13).cut).keep0 e1317).keep e18 (fun b hb hc => by
  have h1 := hb.1; have h2 := hb.2
  rcases hc with hc | hc
  ·rcases h1 with h1 | h1
   ·have := h1.2; omega
   ·omega
  ·omega) (oS.sub hF3) (fun hx => by have := hF3 _ hx; omega) fun b o ho hx => by
   have ho : L1.table.a = some ⟨b, o, none⟩ := ho
   rw [hw1.t] at ho
   have := htb b o ho; have := hF3 _ hx; omega
 have sim2 := Wd6 wi sim us2
 obtain ⟨pl1, pl2⟩ := Wal wi us2
 have hA2 : (QO W us2).ars[0]? = some ((QO W us2).ars[0]'(by omega)) := gGe _
 generalize ((QO W us2).ars[0]'(by omega)) = A2 at hA2
 obtain ⟨rs2, hp2, hB2⟩ := sim2.ar 0 A2 hA2
 have ga2 := dd.wi.ga 0 A2 hA2
 obtain ⟨Y5, hy5, _, hA5⟩ := dd.h.ar hA2
 obtain ⟨Y6, hy6, _, hB6⟩ := d18.h.ar hB2
 have hY6 : Y6 = Yn := by
  have : some Yn = some Y6 := hy6
  exact (Option.some.inj this).symm
 subst hY6
 have sp6 : SpH3 v18 F3 po (QO W us2).sp := by
  have := d18.h.sp
  rw [sim2.sp] at this; exact this
 refine jnP2 (fun r u => r = true /\ Ext0 v18 u) (fun r u ⟨h1, h2⟩ => by subst h1; exact hR u (Ext.trans E18 h2)) fun J hJ => ?_
 refine ⟨fun m => Ext0 v18 m, Ext.refl _ _, nilP ⟨L1.arow, fun m hm => by rw [add_lit, (Ext.blk hm dd.h.hd id).cell]; rfl, ?_⟩⟩
 refine Ht dd.h.arow.slR (k := 0) (q := Y5.p) (by simp [hy5]) ?_
 refine QG sp6 ⟨Ext.refl _ _, ?_⟩
 refine Wcl hB6 hA5 (ga2.rn hp2) ga2 (Alk.rn ga2 hp2).symm (by omega) fun v22 e22 => ⟨e22, ifT rfl ?_⟩
 have dd22 := dd.keep0 e22
 have sp22 := Lcl.keep0 SpH3.loc sp6 e22
 have hwl := UW (QO W us2).sp
 refine nilP ⟨?_, ?_⟩
 ·refine Q0 sp22 (g.keep0 (Ext.trans E18 e22)) (by omega) fun a v23 e23 ha => ⟨Ext.trans e22 e23, ?_⟩
  have e2 := Ext.trans e22 e23
  refine (dd22.keep0 e23).h.hd.rP rfl ⟨e2, ?_⟩
  refine Q0 (dd22.keep0 e23).h.sp (g.keep0 (Ext.trans E18 e2)) (by omega) fun c v24 e24 hc => ⟨Ext.trans e2 e24, ?_⟩
  have e3 := Ext.trans e2 e24
  refine VS ((RowR.loc _ _ _).keep0 ha e24).slR hc.slR (by omega) ⟨e3, ifT (by simp) ?_⟩
  exact UP (g.keep0 (Ext.trans E18 e3)) fun w' e' => ⟨Ext.trans e3 e', hJ _ _ ⟨rfl, Ext.trans e3 e'⟩⟩
 ·refine dd22.h.hd.rP rfl ⟨e22, ?_⟩
  refine Q0 sp22 (g.keep0 (Ext.trans E18 e22)) (by omega) fun a v23 e23 ha => ⟨Ext.trans e22 e23, ?_⟩
  have e2 := Ext.trans e22 e23
  refine Q0 (dd22.keep0 e23).h.sp (g.keep0 (Ext.trans E18 e2)) (by omega) fun c v24 e24 hc => ⟨Ext.trans e2 e24, ?_⟩
  have e3 := Ext.trans e2 e24
  refine VS ((RowR.loc _ _ _).keep0 ha e24).slR hc.slR (by omega) ⟨e3, ifT (by simp) ?_⟩
  exact UP (g.keep0 (Ext.trans E18 e3)) fun w' e' => ⟨Ext.trans e3 e', hJ _ _ ⟨rfl, Ext.trans e3 e'⟩⟩
end Go.Ar
namespace Go.Ar
open Go Go.Vc Go.Proofs Go.ChangeShapes Go.WideShapes Go.RowKit Go.Deep


theorem Um {H : Type} {enc : TypeId × Value -> H} {P : Program} {w : World} {base : Nat} {sp : Nat -> Bool} {held : Bool} {fuel : Nat} {t : TypeId} {c : Value} {y : DataW H × List MemPlace}
 (ht : P.underlying t = some .bool) (h : DataW.trod enc P w base sp held fuel t [c] = some y) : ∃ n, c = .bool n /\ y = (.lit (.bool n), []) := by
 cases fuel with
 | zero => simp [DataW.trod] at h
 | succ fuel =>
  cases c <;> simp [DataW.trod, ht] at h
  rename_i n
  exact ⟨n, rfl, by simpa using h.symm⟩
theorem U3 {P : Program} {w : World} {t : TypeId} {f0 f1 : Field} {cs : Array Value} {fuel : Nat} {p : List MemPlace} {x y : Bool} (ht : P.underlying t = some (.struct #[f0, f1])) (hone : oneCellFields P #[f0, f1] = true) (hC : P.cellsOf t = 2)
 (h0 : P.underlying f0.type = some .bool) (h1 : P.underlying f1.type = some .bool) (h : DataW.trod (fun _ => ()) P w 0 (fun _ => true) false fuel t cs.toList = some (.agg [.lit (.bool x), .lit (.bool y)], p)) : cs = #[.bool x, .bool y] := by
 obtain ⟨ys, n, hn, hy, hlen, hyl, hff⟩ := DataW.trod_struct ht h
 obtain ⟨l⟩ := cs
 have hl2 : l.length = 2 := by rw [← hC]; simpa using hlen
 match l, hl2 with
 | [c0, c1], _ =>
  have k0 := hff 0 f0 rfl
  have k1 := hff 1 f1 rfl
  obtain ⟨o0, q0⟩ := hone_of hone 0 f0 rfl
  obtain ⟨o1, q1⟩ := hone_of hone 1 f1 rfl
  rw [o0, q0] at k0
  rw [o1, q1] at k1
  match ys, hyl with
  | [y0, y1], _ =>
   obtain ⟨n0, rfl, e0⟩ := Um h0 (c := c0) (y := y0) (by simpa using k0)
   obtain ⟨n1, rfl, e1⟩ := Um h1 (c := c1) (y := y1) (by simpa using k1)
   subst e0; subst e1
   simp at hy
   obtain ⟨⟨rfl, rfl⟩, _⟩ := hy
   rfl
theorem V0 {w : World} {a : Addr} {v : Value} (h : w.cell? a = some v) : cell w.heap a = some v := h
end Go.Ar
namespace Go.Ar
open Go Go.Vc Go.Proofs Go.ChangeShapes Go.WideShapes Go.RowKit Go.Deep


section
variable {H : Type} {enc : TypeId × Value -> H} {P : Program} {w : World}
theorem WgY {x : Int} (h : (Lit.int .i64 x).wf = true) : I63 x := by
 unfold I63
 simp [Lit.wf, IntKind.min, IntKind.max, IntKind.bits, IntKind.signed] at h
 omega
theorem WiB {x : Int} (h : (Lit.int .u8 x).wf = true) : 0 <= x /\ x <= 255 := by
 simp [Lit.wf, IntKind.min, IntKind.max, IntKind.bits, IntKind.signed] at h
 omega
theorem WeN {t e : TypeId} {fuel : Nat} {c : Value} {y : DataW H × List MemPlace} (ht : P.underlying t = some (.slice e)) (hC : P.cellsOf e = 1) (he : P.underlying e = some (.int .i64)) (h : DataW.trod enc P w 0 (fun _ => true) true fuel t [c] = some y) :
 ∃ (s : Sl) (l : List Int), c = .slice s.a s.len s.cap /\ SlR s 1 (YH l) w.heap (fun b => b < w.heap.size) /\ s.len <= s.cap /\ (∀ x ∈ l, I63 x) /\ l.length <= 9223372036854775807 := by
 rcases open_slice1 ht hC h with ⟨hcs, _⟩ | ⟨a, len, cap, m, n, V, D, Pl, hcs, _, hl, hm, hmm, _, hV⟩
 ·simp only [List.cons.injEq, and_true] at hcs
  exact ⟨⟨none, 0, 0⟩, [], hcs, SlR.nil _ _ _ _, Nat.le_refl _, by simp, by simp⟩
 ·simp only [List.cons.injEq, and_true] at hcs
  have hmc : m = cap := by simpa using hmm
  have hx : ∀ i, i < len -> ∃ x : Int, cell w.heap (a.add i) = some (.int .i64 x) /\ I63 x := fun i hi => by
   obtain ⟨h1, h2⟩ := hV i (by omega)
   obtain ⟨x, hx1, _, hw⟩ := DataW.trod_int he h2
   simp only [List.cons.injEq, and_true] at hx1
   rw [hx1] at h1
   exact ⟨x, h1, WgY hw⟩
  let g : Nat -> Int := fun i => if hi : i < len then (hx i hi).choose else 0
  have hg : ∀ i, (hi : i < len) -> cell w.heap (a.add i) = some (.int .i64 (g i)) /\ I63 (g i) := fun i hi => by
   have := (hx i hi).choose_spec
   simp only [g, hi, dif_pos]; exact this
  refine ⟨⟨some a, len, cap⟩, (List.range len).map g, hcs, ⟨by simp [YH], ?_⟩, hl, fun x hx => ?_, ?_⟩
  ·rcases Nat.eq_zero_or_pos len with h0 | h0
   ·left; subst h0; rfl
   ·right
    have hc0 := (hg 0 h0).1
    have hsp := UQ hc0
    rw [Addr.add_zero'] at hsp
    obtain ⟨b, o, s⟩ := a
    have hs : s = none := hsp.2
    subst hs
    have hob : ∃ arr ty z, w.heap[b]? = some (.cells arr ty z) := by
     rw [add_lit] at hc0
     unfold cell at hc0
     split at hc0
     ·rename_i arr ty z heq; exact ⟨arr, ty, z, heq⟩
     ·cases hc0
    obtain ⟨arr, ty, z, hobj⟩ := hob
    refine ⟨b, o, arr.toList, hsp.1, rfl, ⟨ty, z, by simpa using hobj⟩, fun j hj => ?_⟩
    have hj' : j < len := by simpa [YH] using hj
    have hc := (hg j hj').1
    rw [add_lit] at hc
    unfold cell at hc
    simp only [hobj] at hc
    rw [Array.getElem?_toList]
    simp [YH, List.getElem?_range hj']
    simpa using hc
  ·obtain ⟨i, hi, rfl⟩ := List.mem_map.1 hx
   exact (hg i (List.mem_range.1 hi)).2
  ·have : maxLen = 9223372036854775807 := rfl
   simp; omega
theorem WeF {t ei : TypeId} {f0 f1 f2 f3 f4 f5 : Field} {fuel : Nat} {cs : List Value} {y : DataW H × List MemPlace}
 (ht : P.underlying t = some (.struct #[f0, f1, f2, f3, f4, f5])) (hone : oneCellFields P #[f0, f1, f2, f3, f4, f5] = true) (hC : P.cellsOf t = 6)
 (h0 : P.underlying f0.type = some (.int .i64)) (h1 : P.underlying f1.type = some (.int .i64)) (h2 : P.underlying f2.type = some (.int .i64)) (h3 : P.underlying f3.type = some (.int .i64)) (h4 : P.underlying f4.type = some (.int .i64)) (h5 : P.underlying f5.type = some (.slice ei)) (hCi : P.cellsOf ei = 1) (hei : P.underlying ei = some (.int .i64))
 (h : DataW.trod enc P w 0 (fun _ => true) true fuel t cs = some y) :
 ∃ (x : Act) (s : Sl), cs = [.int .i64 x.kd, .int .i64 x.ar, .int .i64 x.cl, .int .i64 x.a, .int .i64 x.b, .slice s.a s.len s.cap] /\ SlR s 1 (YH x.l) w.heap (fun b => b < w.heap.size) /\ s.len <= s.cap /\ I63 x.a /\ (∀ z ∈ x.l, I63 z) /\ x.l.length <= 9223372036854775807 := by
 obtain ⟨ys, n, hn, hy, hlen, hyl, hff⟩ := DataW.trod_struct ht h
 have hl6 : cs.length = 6 := by rw [← hC]; exact hlen
 match cs, hl6 with
 | [c0, c1, c2, c3, c4, c5], _ =>
  have one : ∀ (j : Nat) (f : Field) (c : Value), (#[f0, f1, f2, f3, f4, f5] : Array Field)[j]? = some f -> [c0, c1, c2, c3, c4, c5][j]? = some c -> ∃ z, DataW.trod enc P w 0 (fun _ => true) true n f.type [c] = some z := by
   intro j f c hj hc
   obtain ⟨ho, hk⟩ := hone_of hone j f hj
   have h3 := hff j f hj
   rw [ho, hk] at h3
   have hjl := (gSi.1 hc).1
   have e1 : ([c0, c1, c2, c3, c4, c5].drop j).take 1 = [c] := by
    rw [List.drop_eq_getElem_cons hjl, List.take_succ_cons, List.take_zero, (gSi.1 hc).2]
   rw [e1] at h3
   have hys : ys[j]? = some (ys[j]'(by rw [hyl]; simp at hjl ⊢; omega)) := gGe _
   rw [hys] at h3
   exact ⟨_, h3⟩
  have int : ∀ (j : Nat) (f : Field) (c : Value), (#[f0, f1, f2, f3, f4, f5] : Array Field)[j]? = some f -> [c0, c1, c2, c3, c4, c5][j]? = some c -> P.underlying f.type = some (.int .i64) -> ∃ x : Int, c = .int .i64 x /\ I63 x := by
   intro j f c hj hc hu
   obtain ⟨z, hz⟩ := one j f c hj hc
   obtain ⟨x, hx1, _, hw⟩ := DataW.trod_int hu hz
   simp only [List.cons.injEq, and_true] at hx1
   exact ⟨x, hx1, WgY hw⟩
  obtain ⟨x0, rfl, _⟩ := int 0 f0 c0 rfl rfl h0
  obtain ⟨x1, rfl, _⟩ := int 1 f1 c1 rfl rfl h1
  obtain ⟨x2, rfl, _⟩ := int 2 f2 c2 rfl rfl h2
  obtain ⟨x3, rfl, hx3⟩ := int 3 f3 c3 rfl rfl h3
  obtain ⟨x4, rfl, _⟩ := int 4 f4 c4 rfl rfl h4
  obtain ⟨z, hz⟩ := one 5 f5 c5 rfl rfl
  obtain ⟨s, l, rfl, q1, q2, q3, q4⟩ := WeN h5 hCi hei hz
  exact ⟨⟨x0, x1, x2, x3, x4, l⟩, s, rfl, q1, q2, hx3, q3, q4⟩
theorem H6 {t e ei : TypeId} {f0 f1 f2 f3 f4 f5 : Field} {a : Option Addr} {len cap : Nat} {d : DataW H} {ps : List MemPlace}
 (htl : P.underlying t = some (.slice e)) (ht : P.underlying e = some (.struct #[f0, f1, f2, f3, f4, f5])) (hone : oneCellFields P #[f0, f1, f2, f3, f4, f5] = true) (hC : P.cellsOf e = 6)
 (h0 : P.underlying f0.type = some (.int .i64)) (h1 : P.underlying f1.type = some (.int .i64)) (h2 : P.underlying f2.type = some (.int .i64)) (h3 : P.underlying f3.type = some (.int .i64)) (h4 : P.underlying f4.type = some (.int .i64)) (h5 : P.underlying f5.type = some (.slice ei)) (hCi : P.cellsOf ei = 1) (hei : P.underlying ei = some (.int .i64))
 (h : DataW.Trod enc P w 0 (fun _ => true) true t (.slice a len cap) d ps) : ∃ us, Acts6 w.heap w.heap.size ⟨a, len, cap⟩ us /\ us.length <= 9223372036854775807 := by
 obtain ⟨fuel, hf⟩ := h
 rcases open_slice htl hf with ⟨hcs, _⟩ | ⟨ad, len', cap', m, n, D, Pl, hcs, _, hl, hm, hmm, hx, hi⟩
 ·simp [Value.cells] at hcs
  obtain ⟨rfl, rfl, rfl⟩ := hcs
  exact ⟨[], ⟨rfl, fun i x hx => by simp at hx, by simp, Nat.le_refl _⟩, by simp⟩
 ·simp [Value.cells] at hcs
  obtain ⟨rfl, rfl, rfl⟩ := hcs
  have hmc : m = cap := by simpa using hmm
  have key : ∀ i, i < len -> ∃ u : Act × Sl, (∀ j v, [Value.int .i64 u.1.kd, .int .i64 u.1.ar, .int .i64 u.1.cl, .int .i64 u.1.a, .int .i64 u.1.b, .slice u.2.a u.2.len u.2.cap][j]? = some v -> cell w.heap ((ad.add (i * 6)).add j) = some v) ∧
   SlR u.2 1 (YH u.1.l) w.heap (fun b => b < w.heap.size) /\ u.2.len <= u.2.cap /\ I63 u.1.a /\ (∀ z ∈ u.1.l, I63 z) := by
   intro i hil
   obtain ⟨cs', hc, ht'⟩ := hi i (by omega)
   rw [hC] at hc
   obtain ⟨x, s, hcs, q1, q2, q3, q4, _⟩ := WeF ht hone hC h0 h1 h2 h3 h4 h5 hCi hei ht'
   obtain ⟨_, hcl, hat⟩ := World.cells?_some hc
   refine ⟨(x, s), fun j v hv => ?_, q1, q2, q3, q4⟩
   have hj := (gSi.1 hv).1
   have := hat j (by simpa using hj)
   rw [hcs] at this
   rw [hv] at this
   exact this
  let g : Nat -> Act := fun i => if hi : i < len then (key i hi).choose.1 else ⟨0, 0, 0, 0, 0, []⟩
  have hg : ∀ i, (hi : i < len) -> g i = (key i hi).choose.1 := fun i hi => by simp only [g, hi, dif_pos]
  refine ⟨(List.range len).map g, ⟨by simp, fun i x hx => ?_, fun x hx => ?_, Nat.le_refl _⟩, ?_⟩
  ·have hil : i < len := by
    have := (gSi.1 hx).1
    simpa using this
   have hgx : g i = x := by simpa [hil] using hx
   rw [hg i hil] at hgx
   obtain ⟨⟨x', s2⟩, hu, hc, q1, q2, _⟩ : ∃ u : Act × Sl, u.1 = x /\ (∀ j v, [Value.int .i64 u.1.kd, .int .i64 u.1.ar, .int .i64 u.1.cl, .int .i64 u.1.a, .int .i64 u.1.b, .slice u.2.a u.2.len u.2.cap][j]? = some v -> cell w.heap ((ad.add (i * 6)).add j) = some v) ∧
    SlR u.2 1 (YH u.1.l) w.heap (fun b => b < w.heap.size) /\ u.2.len <= u.2.cap /\ I63 u.1.a /\ (∀ z ∈ u.1.l, I63 z) := ⟨_, hgx, (key i hil).choose_spec⟩
   have hu : x' = x := hu
   subst hu
   simp only at hc q1 q2
   have hz0 := (key 0 (by omega)).choose_spec.1
   have hz1 := hz0 0 _ rfl
   have hsp := UQ hz1
   simp only [Nat.zero_mul, Addr.add_zero'] at hsp
   obtain ⟨b, o, s⟩ := ad
   have hs : s = none := hsp.2
   subst hs
   rw [add_lit] at hc
   refine ⟨b, o, _, rfl, hsp.1, ?_, ?_, ?_, ?_, ?_, ?_, q1, q2⟩
   ·have := hc 0 _ rfl; rw [add_lit] at this; exact this
   ·have := hc 1 _ rfl; rw [add_lit] at this; exact this
   ·have := hc 2 _ rfl; rw [add_lit] at this; exact this
   ·have := hc 3 _ rfl; rw [add_lit] at this; exact this
   ·have := hc 4 _ rfl; rw [add_lit] at this; exact this
   ·have := hc 5 _ rfl; rw [add_lit] at this; exact this
  ·obtain ⟨i, hi, rfl⟩ := List.mem_map.1 hx
   have hil := List.mem_range.1 hi
   rw [hg i hil]
   obtain ⟨_, _, _, q3, q4⟩ := (key i hil).choose_spec
   exact ⟨q3, q4⟩
  ·have : maxLen = 9223372036854775807 := rfl
   simp; omega
end
end Go.Ar