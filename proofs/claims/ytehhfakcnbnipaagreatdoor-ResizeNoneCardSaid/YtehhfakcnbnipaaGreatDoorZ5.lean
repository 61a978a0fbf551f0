/- Texts joined. -/
import Derived.Test.YtehhfakcnbnipaaGreatDoorZ4
set_option linter.unusedVariables false
set_option linter.unusedSimpArgs false
namespace Go.Ar
open Go Go.Vc Go.Proofs


def phV : Option Ph -> Value
 | none => .nilIface
 | some (.take k) => .iface 176 (.agg #[.int .i64 (k : Int)])
 | some (.transfer k w) => .iface 186 (.agg #[.int .i64 (k : Int), .int .i64 (w : Int)])
 | some (.central k w) => .iface 190 (.agg #[.int .i64 (k : Int), .int .i64 (w : Int)])
 | some (.grow k w) => .iface 192 (.agg #[.int .i64 (k : Int), .int .i64 (w : Int)])
 | some .fill => .iface 189 (.agg #[])
 | some (.large m) => .iface 178 (.agg #[.int .i64 (m : Int)])
 | some (.find x) => .iface 180 (.agg #[.int .i64 x])
 | some (.put k x) => .iface 197 (.agg #[.int .i64 (k : Int), .int .i64 x])
 | some .back => .iface 200 (.agg #[])
 | some (.give s a) => .iface 204 (.agg #[.int .i64 s, .int .i64 a])
 | some .drain => .iface 182 (.agg #[])
theorem phV_if (p : Option Ph) : IsIf (phV p) := by
 cases p with
 | none => exact .inl rfl
 | some p => cases p <;> exact .inr ⟨_, _, rfl⟩
theorem phV_nil (p : Option Ph) : nilI (phV p) = p.isNone := by
 cases p with
 | none => rfl
 | some p => cases p <;> rfl
inductive LbH where
 | hd | tab | sp | arow | trow | live
 | ar (k : Nat)
 | ca (k : Nat)
 | hn (k : Nat)
 deriving DecidableEq
structure LayT where
 c : LayC
 h : Sl
structure LayH where
 p : Nat
 hs : Nat
 lm : Nat
 tab : Sl
 arow : Sl
 trow : Sl
 ys : List Lay
 ts : List LayT
def hdH (L : LayH) (c : Cf) : List Value := [.slice L.tab.a L.tab.len L.tab.cap, .int .i64 (c.pages : Int), .int .i64 (c.arenas : Int), .int .i64 (c.threads : Int), .int .i64 (c.budget : Int), .int .i64 (c.room : Int),
 .pointer (some ⟨L.hs, 0, none⟩), .slice L.arow.a L.arow.len L.arow.cap, .slice L.trow.a L.trow.len L.trow.cap, .map (some L.lm)]
def thV (x : LayT × Th) : List Value := [.pointer (some ⟨x.1.c.p, 0, none⟩), .slice x.1.h.a x.1.h.len x.1.h.cap, phV x.2.ph]
def trV (ts : List LayT) (ths : List Th) : List Value := (ts.zip ths).flatMap thV
theorem trV_len : ∀ {ts : List LayT} {ths : List Th}, ts.length = ths.length -> (trV ts ths).length = ths.length * 3
 | [], [], _ => rfl
 | x :: ts, h :: ths, e => by
  have e1 : trV (x :: ts) (h :: ths) = thV (x, h) ++ trV ts ths := rfl
  have e3 : (thV (x, h)).length = 3 := rfl
  rw [e1, List.length_append, trV_len (by simpa using e), e3, List.length_cons]; omega
 | [], _ :: _, e => by simp at e
 | _ :: _, [], e => by simp at e
theorem trV_get : ∀ {ts : List LayT} {ths : List Th} {i : Nat} {x : LayT} {h : Th}, ts[i]? = some x -> ths[i]? = some h -> ∀ {d : Nat}, d < 3 -> (trV ts ths)[3 * i + d]? = (thV (x, h))[d]?
 | [], _, _, _, _, h1, _, _, _ => by simp at h1
 | _ :: _, [], _, _, _, _, h2, _, _ => by simp at h2
 | y :: ts, g :: ths, 0, x, h, h1, h2, d, hd => by
  have e1 : trV (y :: ts) (g :: ths) = thV (y, g) ++ trV ts ths := rfl
  have e3 : (thV (y, g)).length = 3 := rfl
  simp at h1 h2; subst h1; subst h2
  rw [e1, List.getElem?_append_left (by omega)]; congr 1; omega
 | y :: ts, g :: ths, i + 1, x, h, h1, h2, d, hd => by
  have e1 : trV (y :: ts) (g :: ths) = thV (y, g) ++ trV ts ths := rfl
  have e3 : (thV (y, g)).length = 3 := rfl
  rw [e1, List.getElem?_append_right (by omega), e3, show 3 * (i + 1) + d - 3 = 3 * i + d by omega]
  exact trV_get (by simpa using h1) (by simpa using h2) hd
theorem trV_set : ∀ {ts : List LayT} {ths : List Th} {i : Nat} {x : LayT} {h : Th}, ts[i]? = some x -> ths[i]? = some h -> ∀ {d : Nat} {v : Value} {x' : LayT} {h' : Th}, d < 3 -> thV (x', h') = (thV (x, h)).set d v →
 (trV ts ths).set (3 * i + d) v = trV (ts.set i x') (ths.set i h')
 | [], _, _, _, _, h1, _, _, _, _, _, _, _ => by simp at h1
 | _ :: _, [], _, _, _, _, h2, _, _, _, _, _, _ => by simp at h2
 | y :: ts, g :: ths, 0, x, h, h1, h2, d, v, x', h', hd, e => by
  have e1 : trV (y :: ts) (g :: ths) = thV (y, g) ++ trV ts ths := rfl
  have e2 : trV ((y :: ts).set 0 x') ((g :: ths).set 0 h') = thV (x', h') ++ trV ts ths := rfl
  have e3 : (thV (y, g)).length = 3 := rfl
  simp at h1 h2; subst h1; subst h2
  rw [e1, e2, List.set_append_left _ _ (by omega), e, show 3 * 0 + d = d by omega]
 | y :: ts, g :: ths, i + 1, x, h, h1, h2, d, v, x', h', hd, e => by
  have e1 : trV (y :: ts) (g :: ths) = thV (y, g) ++ trV ts ths := rfl
  have e2 : trV ((y :: ts).set (i + 1) x') ((g :: ths).set (i + 1) h') = thV (y, g) ++ trV (ts.set i x') (ths.set i h') := rfl
  have e3 : (thV (y, g)).length = 3 := rfl
  rw [e1, e2, List.set_append_right _ _ (by omega), e3, show 3 * (i + 1) + d - 3 = 3 * i + d by omega]
  rw [trV_set (by simpa using h1) (by simpa using h2) hd e]
def ArH (y : Option Lay) (a : Option AR) : Hp -> Rg -> Prop := fun σ F => match y, a with
 | some Y, some A => AHY σ F Y A (traT A Y)
 | _, _ => True
def CaH (x : Option LayT) (h : Option Th) (tb : List Cls) (bud : Nat) : Hp -> Rg -> Prop := fun σ F => match x, h with
 | some x, some h => CaY σ F x.c tb bud h.ls
 | _, _ => True
def HnH (x : Option LayT) (h : Option Th) : Hp -> Rg -> Prop := fun σ F => match x, h with
 | some x, some h => BtR x.h h.hands σ F
 | _, _ => True
def CH (H : Hw) (L : LayH) : LbH -> Hp -> Rg -> Prop
 | .hd => BlkR L.p (hdH L H.cf)
 | .tab => SlR L.tab 3 (tabV H.tb)
 | .sp => fun σ F => SpH3 σ F L.hs H.sp
 | .arow => SlR L.arow 1 (ptrV (L.ys.map (·.p)))
 | .trow => RowR L.trow 3 (trV L.ts H.ths)
 | .live => MapR L.lm .i64 (.ag 4) H.live
 | .ar k => ArH L.ys[k]? H.ars[k]?
 | .ca t => CaH L.ts[t]? H.ths[t]? H.tb H.cf.budget
 | .hn t => HnH L.ts[t]? H.ths[t]?
theorem ArH.loc (y : Option Lay) (a : Option AR) : Lcl (ArH y a) := by
 intro σ σ' F G h hz hs
 unfold ArH at *
 split at h
 ·exact AHY.loc _ _ _ _ h hz hs
 ·trivial
theorem CaH.loc (x : Option LayT) (h : Option Th) (tb : List Cls) (bud : Nat) : Lcl (CaH x h tb bud) := by
 intro σ σ' F G h hz hs
 unfold CaH at *
 split at h
 ·exact CaY.loc _ _ _ _ h hz hs
 ·trivial
theorem HnH.loc (x : Option LayT) (h : Option Th) : Lcl (HnH x h) := by
 intro σ σ' F G h hz hs
 unfold HnH at *
 split at h
 ·exact BtR.loc _ _ _ _ _ _ h hz hs
 ·trivial
theorem CH.loc {H : Hw} {L : LayH} : ∀ i, Lcl (CH H L i)
 | .hd => BlkR.loc _ _
 | .tab => SlR.loc _ _ _
 | .sp => SpH3.loc
 | .arow => SlR.loc _ _ _
 | .trow => RowR.loc _ _ _
 | .live => MapR.loc _ _ _ _
 | .ar k => ArH.loc _ _
 | .ca t => CaH.loc _ _ _ _
 | .hn t => HnH.loc _ _
structure HS (L : LayH) (H : Hw) : Prop where
 ys : L.ys.length = H.ars.length
 hs : ∀ Y ∈ L.ys, Y.hs = L.hs
 ts : L.ts.length = H.ths.length
 a1 : 1 <= H.ars.length
 a2 : H.ars.length <= 4
 t1 : 1 <= H.ths.length
 t2 : H.ths.length <= 4
 tb : ∀ A ∈ H.ars, A.tb = H.tb
structure HH (σ : Hp) (F : Rg) (L : LayH) (H : Hw) : Prop where
 s : HS L H
 sep : Sep (CH H L) σ F
 g : Gl σ
 gd : Gd σ
 o : Off F
 o2 : ¬ F 1
variable {σ : Hp} {F : Rg} {L : LayH} {H : Hw} {t k : Nat}
theorem HH.keep0 (h : HH σ F L H) {σ' : Hp} (e : Ext0 σ σ') : HH σ' F L H := ⟨h.s, (Sep.loc CH.loc).keep0 h.sep e, h.g.keep0 e, h.gd.keep0 e, h.o, h.o2⟩
theorem HH.keep (h : HH σ F L H) {σ' : Hp} {T : Rg} (e : Ext T σ σ') (hT : ∀ b, b < σ.size -> F b -> ¬ T b) (hg : Off T) (hg2 : ¬ T 1) : HH σ' F L H := ⟨h.s, (Sep.loc CH.loc).keep h.sep e hT, h.g.keep e hg, h.gd.keep e hg2, h.o, h.o2⟩
theorem gdH_lt {σ : Hp} (g : Gd σ) : 1 < σ.size := cell_lt' g.d0
theorem HH.mono (h : HH σ F L H) {G : Rg} (hs : ∀ b, b < σ.size -> F b -> G b) (o : Off G) (o2 : ¬ G 1) : HH σ G L H := ⟨h.s, (Sep.loc CH.loc).mono h.sep hs, h.g, h.gd, o, o2⟩
theorem HH.oG (h : HH σ F L H) : Off (Grow F σ) := h.o.grow h.g
theorem HH.oG2 (h : HH σ F L H) : ¬ Grow F σ 1 := fun hb => by
 rcases hb with hb | hb
 ·exact h.o2 hb
 ·have := gdH_lt h.gd; omega
theorem HH.sub (h : HH σ F L H) {G : Rg} (hs : ∀ b, b < σ.size -> F b -> G b) (hg : ∀ b, G b -> F b ∨ σ.size <= b) : HH σ G L H :=
 h.mono hs (h.oG.sub hg) fun hb => h.oG2 (hg _ hb)
theorem HH.keepN {v v' : Hp} {G T : Rg} {L0 : LayH} {H0 : Hw} (h0 : HH σ F L0 H0) (h : HH v G L H) (e : Ext T v v') (hT : ∀ b, T b -> σ.size <= b) (hG : ∀ b, b < v.size -> G b -> ¬ T b) : HH v' G L H :=
 h.keep e hG (h0.oG.sub fun b hb => .inr (hT b hb)) fun hb => h0.oG2 (.inr (hT _ hb))
theorem HH.grown {σ' : Hp} {R : Rg} {L' : LayH} {H' : Hw} (h : HH σ F L H) (h' : HH σ' R L' H') (hr : ∀ b, b < σ'.size -> R b -> Grow F σ b) : HH σ' (Grow F σ) L' H' := h'.mono hr h.oG h.oG2
theorem HH.cut (h : HH σ F L H) : HH σ (Cut F σ) L H := h.sub (fun b hb hf => ⟨hf, hb⟩) fun b hb => .inl hb.1
theorem HH.step1 (h : HH σ F L H) (i : LbH) : ∃ G : Rg, (∀ b, G b -> F b) /\ CH H L i σ G /\ (∀ j, j ≠ i -> ∃ D : Rg, (∀ b, D b -> F b) /\ (∀ b, D b -> ¬ G b) /\ CH H L j σ D) ∧
 ∀ (σ' : Hp) (H' : Hw) (L' : LayH) (G' : Rg), HS L' H' -> (∀ j, j ≠ i -> CH H' L' j = CH H L j) -> Ext G σ σ' -> (∀ b, G' b -> Grow G σ b) -> CH H' L' i σ' G' →
  Ext F σ σ' /\ HH σ' (fun b => F b /\ b < σ.size /\ ¬ G b ∨ G' b) L' H' := by
 obtain ⟨G, hG, hi, hd, hput⟩ := h.sep.stepD CH.loc i
 refine ⟨G, hG, hi, hd, fun σ' H' L' G' hs hj e hg hC => ?_⟩
 have eF := e.sub hG
 have hin : ∀ b, (F b /\ b < σ.size /\ ¬ G b ∨ G' b) -> Grow F σ b := fun b hb => by
  rcases hb with hb | hb
  ·exact .inl hb.1
  ·exact (hg b hb).imp (hG b) id
 refine ⟨eF, hs, hput σ' (CH H' L') G' hj e hg hC (CH.loc _), h.g.keep eF h.o, h.gd.keep eF h.o2, fun b hb => (h.o.grow h.g) b (hin b hb), fun hb => ?_⟩
 rcases hin _ hb with h1 | h1
 ·exact h.o2 h1
 ·have := gdH_lt h.gd; omega
theorem _root_.Go.Vc.Sep.step2D {L : Type} {C : L -> Hp -> Rg -> Prop} {σ : Hp} {F : Rg} (hC : ∀ i, Lcl (C i)) (h : Sep C σ F) (i j : L) (hij : i ≠ j) (N : Rg) (hN : ∀ b, b < σ.size -> F b -> ¬ N b) : ∃ G D : Rg, (∀ b, G b -> F b) /\ (∀ b, D b -> F b) /\ (∀ b, G b -> ¬ D b) /\ C i σ G /\ C j σ D /\ (∀ m, m ≠ i -> m ≠ j -> ∃ E : Rg, (∀ b, E b -> F b) /\ (∀ b, E b -> ¬ (G b ∨ D b)) /\ C m σ E) ∧
 ∀ (σ' : Hp) (C' : L -> Hp -> Rg -> Prop) (G' D' : Rg), (∀ k, k ≠ i -> k ≠ j -> C' k = C k) -> Ext (fun b => G b ∨ D b) σ σ' -> (∀ b, G' b -> (G b ∨ D b) ∨ N b) -> (∀ b, D' b -> (G b ∨ D b) ∨ N b) -> (∀ b, G' b -> ¬ D' b) -> C' i σ' G' -> C' j σ' D' -> (∀ k, Lcl (C' k)) →
 Sep C' σ' fun b => F b /\ b < σ.size /\ ¬ (G b ∨ D b) ∨ G' b ∨ D' b := by
 obtain ⟨ρ, h⟩ := h
 let G : Rg := fun b => F b /\ ρ b = i
 let D : Rg := fun b => F b /\ ρ b = j
 refine ⟨G, D, fun b hb => hb.1, fun b hb => hb.1, fun b h1 h2 => hij (h1.2.symm.trans h2.2), h i, h j, fun m h1 h2 => ⟨fun b => F b /\ ρ b = m, fun b hb => hb.1, fun b hb hx => hx.elim (fun hy => h1 (hb.2.symm.trans hy.2)) fun hy => h2 (hb.2.symm.trans hy.2), h m⟩, fun σ' C' G' D' hk e hg hh hd hi hj hL => ?_⟩
 open Classical in
 refine ⟨fun b => if G' b then i else if D' b then j else ρ b, fun k => ?_⟩
 by_cases hki : k = i
 ·subst hki
  exact (hL _).mono hi fun b _ hb => ⟨.inr (.inl hb), if_pos hb⟩
 by_cases hkj : k = j
 ·subst hkj
  exact (hL _).mono hj fun b _ hb => ⟨.inr (.inr hb), by show (if G' b then i else if D' b then k else ρ b) = k; rw [if_neg fun hx => hd b hx hb, if_pos hb]⟩
 ·rw [hk k hki hkj]
  refine hC k _ _ _ _ (h k) e.1 fun b hb hf => ?_
  have hn : ¬ (G b ∨ D b) := by
   rintro (hx | hx)
   ·exact hki (hf.2.symm.trans hx.2)
   ·exact hkj (hf.2.symm.trans hx.2)
  have hnG' : ¬ G' b := fun hx => (hg b hx).elim hn (hN b hb hf.1)
  have hnH' : ¬ D' b := fun hx => (hh b hx).elim hn (hN b hb hf.1)
  exact ⟨⟨.inl ⟨hf.1, hb, hn⟩, by show (if G' b then i else if D' b then j else ρ b) = k; rw [if_neg hnG', if_neg hnH']; exact hf.2⟩, e.2 b hb hn⟩
theorem HH.step2N (h : HH σ F L H) (i j : LbH) (hij : i ≠ j) (N : Rg) (hN : ∀ b, b < σ.size -> F b -> ¬ N b) (oN : Off N) (oN2 : ¬ N 1) : ∃ G D : Rg, (∀ b, G b -> F b) /\ (∀ b, D b -> F b) /\ (∀ b, G b -> ¬ D b) /\ CH H L i σ G /\ CH H L j σ D /\ (∀ m, m ≠ i -> m ≠ j -> ∃ E : Rg, (∀ b, E b -> F b) /\ (∀ b, E b -> ¬ (G b ∨ D b)) /\ CH H L m σ E) ∧
 ∀ (σ' : Hp) (H' : Hw) (L' : LayH) (G' D' : Rg), HS L' H' -> (∀ m, m ≠ i -> m ≠ j -> CH H' L' m = CH H L m) -> Ext (fun b => G b ∨ D b) σ σ' -> (∀ b, G' b -> (G b ∨ D b) ∨ N b) -> (∀ b, D' b -> (G b ∨ D b) ∨ N b) -> (∀ b, G' b -> ¬ D' b) -> CH H' L' i σ' G' -> CH H' L' j σ' D' →
  Ext F σ σ' /\ HH σ' (fun b => F b /\ b < σ.size /\ ¬ (G b ∨ D b) ∨ G' b ∨ D' b) L' H' := by
 obtain ⟨G, D, hG, hD, hd, hi, hj, hoth, hput⟩ := h.sep.step2D CH.loc i j hij N hN
 refine ⟨G, D, hG, hD, hd, hi, hj, hoth, fun σ' H' L' G' D' hs hm e hg hh hdd h1 h2 => ?_⟩
 have eF : Ext F σ σ' := e.sub fun b hb => hb.elim (hG b) (hD b)
 have hin : ∀ b, (F b /\ b < σ.size /\ ¬ (G b ∨ D b) ∨ G' b ∨ D' b) -> F b ∨ N b := fun b hb => by
  rcases hb with hb | hb | hb
  ·exact .inl hb.1
  ·exact (hg b hb).imp (fun hx => hx.elim (hG b) (hD b)) id
  ·exact (hh b hb).imp (fun hx => hx.elim (hG b) (hD b)) id
 refine ⟨eF, hs, hput σ' (CH H' L') G' D' hm e hg hh hdd h1 h2 CH.loc, h.g.keep eF h.o, h.gd.keep eF h.o2, fun b hb => (hin b hb).elim (h.o b) (oN b), fun hb => ?_⟩
 exact (hin _ hb).elim h.o2 oN2
theorem HH.newN (h : HH σ F L H) : Off (fun b => σ.size <= b) /\ ¬ (σ.size <= 1) := ⟨h.oG.sub fun b hb => .inr hb, fun hb => h.oG2 (.inr hb)⟩
theorem HH.step2 (h : HH σ F L H) (i j : LbH) (hij : i ≠ j) : ∃ G D : Rg, (∀ b, G b -> F b) /\ (∀ b, D b -> F b) /\ (∀ b, G b -> ¬ D b) /\ CH H L i σ G /\ CH H L j σ D /\ (∀ m, m ≠ i -> m ≠ j -> ∃ E : Rg, (∀ b, E b -> F b) /\ (∀ b, E b -> ¬ (G b ∨ D b)) /\ CH H L m σ E) ∧
 ∀ (σ' : Hp) (H' : Hw) (L' : LayH) (G' D' : Rg), HS L' H' -> (∀ m, m ≠ i -> m ≠ j -> CH H' L' m = CH H L m) -> Ext (fun b => G b ∨ D b) σ σ' -> (∀ b, G' b -> (G b ∨ D b) ∨ σ.size <= b) -> (∀ b, D' b -> (G b ∨ D b) ∨ σ.size <= b) -> (∀ b, G' b -> ¬ D' b) -> CH H' L' i σ' G' -> CH H' L' j σ' D' →
  Ext F σ σ' /\ HH σ' (fun b => F b /\ b < σ.size /\ ¬ (G b ∨ D b) ∨ G' b ∨ D' b) L' H' :=
 h.step2N i j hij _ (fun b hb _ => by omega) h.newN.1 h.newN.2
theorem HH.hd (h : HH σ F L H) : Blk σ L.p (hdH L H.cf) := by obtain ⟨G, hG, hb⟩ := h.sep.get .hd; exact hb.2
theorem HH.tabS (h : HH σ F L H) : SlR L.tab 3 (tabV H.tb) σ F := by
 obtain ⟨G, hG, hb⟩ := h.sep.get .tab
 exact (SlR.loc _ _ _).mono hb fun b _ hb => hG b hb
theorem HH.tabL (h : HH σ F L H) : L.tab.len = H.tb.length := by
 have := h.tabS.1
 rw [tabV_len] at this; omega
theorem HH.arowS (h : HH σ F L H) : SlR L.arow 1 (ptrV (L.ys.map (·.p))) σ F := by
 obtain ⟨G, hG, hb⟩ := h.sep.get .arow
 exact (SlR.loc _ _ _).mono hb fun b _ hb => hG b hb
theorem HH.arowL (h : HH σ F L H) : L.arow.len = H.ars.length := by
 have := h.arowS.1
 have := h.s.ys
 simp [ptrV] at *; omega
theorem HH.trowS (h : HH σ F L H) : SlR L.trow 3 (trV L.ts H.ths) σ F := by
 obtain ⟨G, hG, hb⟩ := h.sep.get .trow
 exact (SlR.loc _ _ _).mono (RowR.slR hb) fun b _ hb => hG b hb
theorem HH.trowL (h : HH σ F L H) : L.trow.len = H.ths.length := by
 have := h.trowS.1
 rw [trV_len h.s.ts] at this; omega
theorem HH.liveM (h : HH σ F L H) : MapL σ L.lm .i64 (.ag 4) H.live := by obtain ⟨G, hG, hb⟩ := h.sep.get .live; exact hb.2
theorem HH.spS (h : HH σ F L H) : SpH3 σ F L.hs H.sp := by
 obtain ⟨G, hG, hb⟩ := h.sep.get .sp
 exact Lcl.mono SpH3.loc hb fun b _ hb => hG b hb
theorem HH.ar (h : HH σ F L H) {A : AR} (hk : H.ars[k]? = some A) : ∃ Y, L.ys[k]? = some Y /\ Y.hs = L.hs /\ AHY σ F Y A (traT A Y) := by
 have hl := (List.getElem?_eq_some_iff.1 hk).1
 have hy : L.ys[k]? = some (L.ys[k]'(by rw [h.s.ys]; exact hl)) := List.getElem?_eq_getElem _
 obtain ⟨G, hG, hb⟩ := h.sep.get (.ar k)
 simp only [CH, hk, hy, ArH] at hb
 exact ⟨_, hy, h.s.hs _ (List.mem_of_getElem? hy), hb.mono fun b _ hb => hG b hb⟩
theorem HH.rA (h : HH σ F L H) {Y : Lay} (hy : L.ys[k]? = some Y) {K : Option Addr -> Prop} (hK : K (some ⟨Y.p, 0, none⟩)) : Ix L.arow.a L.arow.len (k : Int) 1 fun a => LdP a σ K :=
 ptr_rd h.arowS (by simp [hy]) hK
theorem HH.th (h : HH σ F L H) (ht : t < H.ths.length) : ∃ x g, L.ts[t]? = some x /\ H.ths[t]? = some g := ⟨L.ts[t]'(by rw [h.s.ts]; exact ht), H.ths[t], List.getElem?_eq_getElem _, List.getElem?_eq_getElem _⟩
theorem tr_cell {s : Sl} {ts : List LayT} {ths : List Th} (h : SlR s 3 (trV ts ths) σ F) {x : LayT} {g : Th} (hx : ts[t]? = some x) (hg : ths[t]? = some g) {d : Nat} (hd : d < 3) {v : Value} (hv : (thV (x, g))[d]? = some v) : ∃ b o, s.a = some ⟨b, o, none⟩ /\ cell σ ⟨b, o + (3 * t + d), none⟩ = some v :=
 h.cell ((trV_get hx hg hd).trans hv)
theorem tr_ix {s : Sl} {ts : List LayT} {ths : List Th} (hs : SlR s 3 (trV ts ths) σ F) (hl : ts.length = ths.length) {x : LayT} {g : Th} (hx : ts[t]? = some x) (hg : ths[t]? = some g) {d : Nat} (hd : d < 3) {v : Value} (hv : (thV (x, g))[d]? = some v) {K : Addr -> Prop}
 (hK : ∀ b o, s.a = some ⟨b, o, none⟩ -> cell σ (Addr.add ⟨b, o + 3 * t, none⟩ d) = some v -> K ⟨b, o + 3 * t, none⟩) : Ix s.a s.len (t : Int) 3 K := by
 have ht := (List.getElem?_eq_some_iff.1 hg).1
 have hl' := hs.1
 rw [trV_len hl] at hl'
 obtain ⟨b, o, ha, hc⟩ := tr_cell hs hx hg hd hv
 rw [ha]
 refine ix (by omega) (by omega) ?_
 rw [add_lit, show o + (t : Int).toNat * 3 = o + 3 * t by omega]
 exact hK b o ha (by rw [add_lit, show o + 3 * t + d = o + (3 * t + d) by omega]; exact hc)
theorem HH.tIx (h : HH σ F L H) {x : LayT} {g : Th} (hx : L.ts[t]? = some x) (hg : H.ths[t]? = some g) {d : Nat} (hd : d < 3) {v : Value} (hv : (thV (x, g))[d]? = some v) {K : Addr -> Prop}
 (hK : ∀ b o, cell σ (Addr.add ⟨b, o + 3 * t, none⟩ d) = some v -> K ⟨b, o + 3 * t, none⟩) : Ix L.trow.a L.trow.len (t : Int) 3 K :=
 tr_ix h.trowS h.s.ts hx hg hd hv fun b o _ hc => hK b o hc
theorem HH.tS (h : HH σ F L H) {x : LayT} {g : Th} (hx : L.ts[t]? = some x) (hg : H.ths[t]? = some g) {K : Sl -> Prop} (hK : K x.h) : Ix L.trow.a L.trow.len (t : Int) 3 fun a => LdS (a.add 1) σ K :=
 h.tIx hx hg (d := 1) (by omega) rfl fun b o hc => ldS hc hK
theorem HH.tR (h : HH σ F L H) {x : LayT} {g : Th} (hx : L.ts[t]? = some x) (hg : H.ths[t]? = some g) {K : Value -> Prop} (hK : K (phV g.ph)) : Ix L.trow.a L.trow.len (t : Int) 3 fun a => LdR (a.add 2) σ K :=
 h.tIx hx hg (d := 2) (by omega) rfl fun b o hc => ⟨_, hc, hK⟩
theorem HS.setT (h : HS L H) {ths : List Th} {ts : List LayT} (e : ts.length = ths.length) (e2 : ths.length = H.ths.length) : HS { L with ts := ts } { H with ths := ths } := ⟨h.ys, h.hs, e, h.a1, h.a2, by rw [e2]; exact h.t1, by rw [e2]; exact h.t2, h.tb⟩
theorem HS.setA (h : HS L H) {A : AR} {sp : Sp} (e : A.tb = H.tb) : HS L { H.setA k A with sp := sp } := ⟨by simp [Hw.setA, h.ys], h.hs, h.ts, by simp [Hw.setA, h.a1], by simp [Hw.setA, h.a2], h.t1, h.t2, fun B hB => by
 rcases List.mem_or_eq_of_mem_set hB with h1 | h1
 ·exact h.tb B h1
 ·subst h1; exact e⟩
theorem CH_ar {A : AR} : ∀ j, j ≠ LbH.ar k -> CH (H.setA k A) L j = CH H L j := by
 intro j hj
 cases j <;> try rfl
 rename_i m
 have hm : m ≠ k := fun e => hj (by rw [e])
 simp only [CH, Hw.setA, List.getElem?_set_ne (Ne.symm hm)]
theorem CH_sp {sp : Sp} : ∀ j, j ≠ LbH.sp -> CH { H with sp := sp } L j = CH H L j := by
 intro j hj
 cases j <;> first | rfl | exact absurd rfl hj
theorem CH_live {l : List (Int × Bk)} : ∀ j, j ≠ LbH.live -> CH { H with live := l } L j = CH H L j := by
 intro j hj
 cases j <;> first | rfl | exact absurd rfl hj
theorem HH.stepA (h : HH σ F L H) {A : AR} (hk : H.ars[k]? = some A) : ∃ (Y : Lay) (G : Rg), L.ys[k]? = some Y /\ Y.hs = L.hs /\ (∀ b, G b -> F b) /\ AHY σ G Y A (traT A Y) /\ ∀ (σ' : Hp) (A' : AR) (G' : Rg), A'.tb = A.tb -> Ext G σ σ' -> (∀ b, G' b -> Grow G σ b) -> AHY σ' G' Y A' (traT A' Y) →
 Ext F σ σ' /\ HH σ' (fun b => F b /\ b < σ.size /\ ¬ G b ∨ G' b) L (H.setA k A') := by
 have hl := (List.getElem?_eq_some_iff.1 hk).1
 have hy : L.ys[k]? = some (L.ys[k]'(by rw [h.s.ys]; exact hl)) := List.getElem?_eq_getElem _
 generalize (L.ys[k]'(by rw [h.s.ys]; exact hl)) = Y at hy
 obtain ⟨G, hG, hi, _, hput⟩ := h.step1 (.ar k)
 simp only [CH, hk, hy, ArH] at hi
 refine ⟨Y, G, hy, h.s.hs _ (List.mem_of_getElem? hy), hG, hi, fun σ' A' G' htb e hg hA => ?_⟩
 refine hput σ' (H.setA k A') L G' (h.s.setA (sp := H.sp) (htb.trans (h.s.tb A (List.mem_of_getElem? hk)))) CH_ar e hg ?_
 simp only [CH, Hw.setA, hy, List.getElem?_set_self hl, ArH]
 exact hA
theorem HH.stepAS (h : HH σ F L H) {A : AR} (hk : H.ars[k]? = some A) : ∃ (Y : Lay) (G D : Rg), L.ys[k]? = some Y /\ Y.hs = L.hs /\ W2 σ G D Y A (traT A Y) H.sp /\ ∀ (σ' : Hp) (A' : AR) (sp' : Sp) (G' D' : Rg), A'.tb = A.tb -> Ext (Both G D) σ σ' -> Fits σ G D G' D' -> W2 σ' G' D' Y A' (traT A' Y) sp' →
 Ext F σ σ' /\ HH σ' (Grow F σ) L { H.setA k A' with sp := sp' } := by
 have hl := (List.getElem?_eq_some_iff.1 hk).1
 have hy : L.ys[k]? = some (L.ys[k]'(by rw [h.s.ys]; exact hl)) := List.getElem?_eq_getElem _
 generalize (L.ys[k]'(by rw [h.s.ys]; exact hl)) = Y at hy
 obtain ⟨G, D, hG, hD, hd, hi, hj, _, hput⟩ := h.step2 (.ar k) .sp (by intro e; cases e)
 simp only [CH, hk, hy, ArH] at hi
 have hj : SpH3 σ D L.hs H.sp := hj
 have hhs := h.s.hs _ (List.mem_of_getElem? hy)
 refine ⟨Y, G, D, hy, hhs, ⟨hi, by rw [hhs]; exact hj, hd, h.g, h.o.sub hG, h.o.sub hD⟩, fun σ' A' sp' G' D' htb e hf hW => ?_⟩
 have hF' : ∀ b, G' b -> (G b ∨ D b) ∨ σ.size <= b := fun b hb => (hf.1 b hb).imp .inl id
 have hH' : ∀ b, D' b -> (G b ∨ D b) ∨ σ.size <= b := fun b hb => .inl (.inr (hf.2 b hb))
 have c1 : ∀ m, m ≠ LbH.ar k -> m ≠ LbH.sp -> CH { H.setA k A' with sp := sp' } L m = CH H L m := fun m h1 h2 =>
  (CH_ar (H := { H with sp := sp' }) (L := L) (A := A') m h1).trans (CH_sp m h2)
 have c2 : CH { H.setA k A' with sp := sp' } L (.ar k) σ' G' := by
  simp only [CH, Hw.setA, hy, List.getElem?_set_self hl, ArH]
  exact hW.a
 have c3 : CH { H.setA k A' with sp := sp' } L .sp σ' D' := by
  show SpH3 σ' D' L.hs sp'
  rw [← hhs]; exact hW.s
 obtain ⟨e1, h1⟩ := hput σ' { H.setA k A' with sp := sp' } L G' D' (h.s.setA (htb.trans (h.s.tb A (List.mem_of_getElem? hk)))) c1 e hF' hH' hW.d c2 c3
 refine ⟨e1, h.grown h1 fun b hb hx => ?_⟩
 rcases hx with hx | hx | hx
 ·exact .inl hx.1
 ·exact (hF' b hx).imp (fun hy => hy.elim (hG b) (hD b)) id
 ·exact (hH' b hx).imp (fun hy => hy.elim (hG b) (hD b)) id
theorem HH.stepS (h : HH σ F L H) : ∃ G : Rg, (∀ b, G b -> F b) /\ SpH3 σ G L.hs H.sp /\ Off G /\ ∀ (σ' : Hp) (sp' : Sp), Ext G σ σ' -> SpH3 σ' (Grow G σ) L.hs sp' -> Ext F σ σ' /\ HH σ' (Grow F σ) L { H with sp := sp' } := by
 obtain ⟨G, hG, hi, _, hput⟩ := h.step1 .sp
 refine ⟨G, hG, hi, h.o.sub hG, fun σ' sp' e hs => ?_⟩
 obtain ⟨e1, h1⟩ := hput σ' { H with sp := sp' } L (Grow G σ) ⟨h.s.ys, h.s.hs, h.s.ts, h.s.a1, h.s.a2, h.s.t1, h.s.t2, h.s.tb⟩ CH_sp e (fun b hb => hb) hs
 exact ⟨e1, h.grown h1 fun b hb hx => by
  rcases hx with hx | hx
  ·exact .inl hx.1
  ·exact hx.imp (hG b) id⟩
theorem HH.stepL (h : HH σ F L H) : F L.lm /\ ∀ (σ' : Hp) (l : List (Int × Bk)), OnlyB σ σ' L.lm -> MapL σ' L.lm .i64 (.ag 4) l -> Ext F σ σ' /\ HH σ' F L { H with live := l } := by
 obtain ⟨G, hG, hi, _, hput⟩ := h.step1 .live
 have hi : MapR L.lm .i64 (.ag 4) H.live σ G := hi
 refine ⟨hG _ hi.1, fun σ' l ho hm => ?_⟩
 obtain ⟨e1, h1⟩ := hput σ' { H with live := l } L G ⟨h.s.ys, h.s.hs, h.s.ts, h.s.a1, h.s.a2, h.s.t1, h.s.t2, h.s.tb⟩ CH_live (ho.ext.sub fun b hb => by rw [hb]; exact hi.1) (fun b hb => .inl hb) ⟨hi.1, hm⟩
 exact ⟨e1, h1.mono (fun b _ hx => by
  rcases hx with hx | hx
  ·exact hx.1
  ·exact hG b hx) h.o h.o2⟩
theorem HH.stepC (h : HH σ F L H) {x : LayT} {g : Th} (hx : L.ts[t]? = some x) (hg : H.ths[t]? = some g) : ∃ G : Rg, (∀ b, G b -> F b) /\ CaY σ G x.c H.tb H.cf.budget g.ls /\ ∀ (σ' : Hp) (ls : List Li) (Y' : LayC) (G' : Rg), Y'.p = x.c.p -> Ext G σ σ' -> (∀ b, G' b -> Grow G σ b) -> CaY σ' G' Y' H.tb H.cf.budget ls →
 Ext F σ σ' /\ HH σ' (fun b => F b /\ b < σ.size /\ ¬ G b ∨ G' b) { L with ts := L.ts.set t { x with c := Y' } } { H with ths := H.ths.set t { g with ls := ls } } := by
 have hl1 := (List.getElem?_eq_some_iff.1 hx).1
 have hl2 := (List.getElem?_eq_some_iff.1 hg).1
 obtain ⟨G, hG, hi, _, hput⟩ := h.step1 (.ca t)
 simp only [CH, hx, hg, CaH] at hi
 refine ⟨G, hG, hi, fun σ' ls Y' G' hp e hgr hC => ?_⟩
 have htr : trV (L.ts.set t { x with c := Y' }) (H.ths.set t { g with ls := ls }) = trV L.ts H.ths := by
  have e0 : (trV L.ts H.ths).set (3 * t + 0) (.pointer (some ⟨x.c.p, 0, none⟩)) = trV L.ts H.ths := set_same (trV_get hx hg (by omega))
  rw [← e0]
  exact (trV_set hx hg (d := 0) (by omega) (by simp [thV, hp])).symm
 refine hput σ' { H with ths := H.ths.set t { g with ls := ls } } { L with ts := L.ts.set t { x with c := Y' } } G' (h.s.setT (by simp [h.s.ts]) (by simp)) (fun j hj => ?_) e hgr ?_
 ·cases j <;> try rfl
  ·simp only [CH, htr]
  ·rename_i m
   have hm : m ≠ t := fun e => hj (by rw [e])
   simp only [CH, List.getElem?_set_ne (Ne.symm hm)]
  ·rename_i m
   by_cases hm : m = t
   ·subst hm
    simp only [CH, List.getElem?_set_self hl1, List.getElem?_set_self hl2, hx, hg]
    rfl
   ·simp only [CH, List.getElem?_set_ne (Ne.symm hm)]
 ·simp only [CH, List.getElem?_set_self hl1, List.getElem?_set_self hl2, CaH]
  exact hC
theorem HH.stepN (h : HH σ F L H) {x : LayT} {g : Th} (hx : L.ts[t]? = some x) (hg : H.ths[t]? = some g) (N : Rg) (hN : ∀ b, b < σ.size -> F b -> ¬ N b) (oN : Off N) (oN2 : ¬ N 1) : ∃ G D : Rg, (∀ b, G b -> F b) /\ (∀ b, D b -> F b) /\ (∀ b, G b -> ¬ D b) /\ BtR x.h g.hands σ G /\ RowR L.trow 3 (trV L.ts H.ths) σ D /\ (∃ E : Rg, (∀ b, E b -> ¬ G b) /\ (∀ b, E b -> ¬ D b) /\ BlkR L.p (hdH L H.cf) σ E) ∧
 ∀ (σ' : Hp) (s : Sl) (bs : List Bt) (G' D' : Rg), Ext (fun b => G b ∨ D b) σ σ' -> (∀ b, G' b -> (G b ∨ D b) ∨ N b) -> (∀ b, D' b -> (G b ∨ D b) ∨ N b) -> (∀ b, G' b -> ¬ D' b) -> BtR s bs σ' G' -> RowR L.trow 3 ((trV L.ts H.ths).set (3 * t + 1) (.slice s.a s.len s.cap)) σ' D' →
  Ext F σ σ' /\ HH σ' (fun b => F b /\ b < σ.size /\ ¬ (G b ∨ D b) ∨ G' b ∨ D' b) { L with ts := L.ts.set t { x with h := s } } { H with ths := H.ths.set t { g with hands := bs } } := by
 have hl1 := (List.getElem?_eq_some_iff.1 hx).1
 have hl2 := (List.getElem?_eq_some_iff.1 hg).1
 obtain ⟨G, D, hG, hD, hd, hi, hj, hoth, hput⟩ := h.step2N (.hn t) .trow (by intro e; cases e) N hN oN oN2
 simp only [CH, hx, hg, HnH] at hi
 have hj : RowR L.trow 3 (trV L.ts H.ths) σ D := hj
 obtain ⟨E, _, hE, hhd⟩ := hoth .hd (by intro e; cases e) (by intro e; cases e)
 refine ⟨G, D, hG, hD, hd, hi, hj, ⟨E, fun b hb hx => hE b hb (.inl hx), fun b hb hx => hE b hb (.inr hx), hhd⟩, fun σ' s bs G' D' e hg1 hd1 hdd hB hr => ?_⟩
 have htr : trV (L.ts.set t { x with h := s }) (H.ths.set t { g with hands := bs }) = (trV L.ts H.ths).set (3 * t + 1) (.slice s.a s.len s.cap) := (trV_set hx hg (d := 1) (by omega) (by simp [thV])).symm
 refine hput σ' { H with ths := H.ths.set t { g with hands := bs } } { L with ts := L.ts.set t { x with h := s } } G' D' (h.s.setT (by simp [h.s.ts]) (by simp)) (fun m h1 h2 => ?_) e hg1 hd1 hdd ?_ ?_
 ·cases m <;> first | rfl | exact absurd rfl h2 | skip
  ·rename_i m
   by_cases hm : m = t
   ·subst hm
    simp only [CH, List.getElem?_set_self hl1, List.getElem?_set_self hl2, hx, hg]
    rfl
   ·simp only [CH, List.getElem?_set_ne (Ne.symm hm)]
  ·rename_i m
   have hm : m ≠ t := fun e => h1 (by rw [e])
   simp only [CH, List.getElem?_set_ne (Ne.symm hm)]
 ·simp only [CH, List.getElem?_set_self hl1, List.getElem?_set_self hl2, HnH]
  exact hB
 ·simp only [CH, htr]
  exact hr
theorem HH.stepP (h : HH σ F L H) {x : LayT} {g : Th} (hx : L.ts[t]? = some x) (hg : H.ths[t]? = some g) (p : Option Ph) {K : Hp -> Prop} (hK : ∀ σ', Ext F σ σ' -> HH σ' F L { H with ths := H.ths.set t { g with ph := p } } -> K σ') :
 Ix L.trow.a L.trow.len (t : Int) 3 fun a => And (IsIf (phV p)) (St1 (a.add 2) (phV p) σ K) := by
 have hl1 := (List.getElem?_eq_some_iff.1 hx).1
 have hl2 := (List.getElem?_eq_some_iff.1 hg).1
 have hlen := h.trowL
 obtain ⟨G, hG, hi, _, hput⟩ := h.step1 .trow
 have hi : RowR L.trow 3 (trV L.ts H.ths) σ G := hi
 have htl := trV_len h.s.ts
 obtain ⟨b, hb⟩ : ∃ b, L.trow.a = some ⟨b, 0, none⟩ := by
  rcases hi.2 with ⟨h0, _⟩ | ⟨b, _, _, ha, _⟩
  ·omega
  ·exact ⟨b, ha⟩
 rw [hb]
 refine ix (by omega) (by omega) ⟨phV_if p, ?_⟩
 refine hi.st (j := 3 * t + 2) (by omega) (fun b' hb' => by rw [hb] at hb'; cases hb'; rw [add_lit, add_lit]; congr 1; omega) fun σ' e hr => ?_
 have htr : trV L.ts (H.ths.set t { g with ph := p }) = (trV L.ts H.ths).set (3 * t + 2) (phV p) := by
  have := trV_set hx hg (d := 2) (v := phV p) (x' := x) (h' := { g with ph := p }) (by omega) (by simp [thV])
  rw [this, set_same hx]
 obtain ⟨e1, h1⟩ := hput σ' { H with ths := H.ths.set t { g with ph := p } } L G (h.s.setT (ts := L.ts) (by simp [h.s.ts]) (by simp)) (fun j hj => by
  cases j <;> first | rfl | exact absurd rfl hj | skip
  ·rename_i m
   by_cases hm : t = m
   ·subst hm
    simp only [CH, List.getElem?_set_self hl2, hx, hg]
    rfl
   ·simp only [CH, List.getElem?_set_ne hm]
  ·rename_i m
   by_cases hm : t = m
   ·subst hm
    simp only [CH, List.getElem?_set_self hl2, hx, hg]
    rfl
   ·simp only [CH, List.getElem?_set_ne hm]) e (fun b hb => .inl hb) (by simp only [CH, htr]; exact hr)
 exact hK σ' e1 (h1.mono (fun b _ hx => by
  rcases hx with hx | hx
  ·exact hx.1
  ·exact hG b hx) h.o h.o2)
end Go.Ar
namespace Go.Ar
open Go Go.Vc Go.Proofs
open Go.Bu (runOk giveS takeAt)


variable {σ : Hp} {F H : Rg} {p hs : Nat} {A : AR} {sp : Sp} {Y : Lay} {T : Nat -> Hp -> Rg -> Prop}
end Go.Ar
namespace Go.Ar
open Go Go.Vc Go.Proofs
open Go.Bu (runOk giveS takeAt)


variable {σ : Hp} {F H : Rg} {p hs : Nat} {A : AR} {sp : Sp} {Y : Lay} {T : Nat -> Hp -> Rg -> Prop}
theorem tabClS_ok {s : Sl} {tb : List Cls} (h : SlR s 3 (tabV tb) σ F) (hl : tb.length <= 40) {R : Sl -> Hp -> Prop} (hR : ∀ s' σ', Ext0 σ σ' -> SlR s' 3 (tabV tb) σ' (fun b => σ.size <= b) -> R s' σ') : slices_Clone_api_Class_api_Class.call s σ R := by
 refine slices_Clone_api_Class_api_Class.of_vc ?_
 unfold slices_Clone_api_Class_api_Class.vc
 have hlen := h.1
 rw [tabV_len] at hlen
 exact clone_vc h (by decide) rfl tabV_one (by decide) (by omega) fun s' σ' _ e hr => hR s' σ' e hr.slR
end Go.Ar
namespace Go.Ar
open Go Go.Vc Go.Proofs


variable {σ : Hp} {F : Rg} {L : LayH} {H : Hw} {t k : Nat}
theorem hmade_ok (h : HH σ F L H) {R : Bool -> Hp -> Prop} (hR : R true σ) : heap_Heap_made.call (some ⟨L.p, 0, none⟩) σ R := by
 refine heap_Heap_made.of_vc ?_
 unfold heap_Heap_made.vc
 have hl := h.trowL
 have h1 := h.s.t1
 refine JnB.intro (ifT rfl (nilP (h.hd.rS rfl ?_)))
 rw [decide_eq_true (by simp only; omega)]; exact hR
theorem hthere_ok (h : HH σ F L H) (x : Int) {R : Bool -> Hp -> Prop} (hR : R (decide (0 <= x /\ x < (H.ths.length : Int))) σ) : heap_Heap_there.call (some ⟨L.p, 0, none⟩) x σ R := by
 refine heap_Heap_there.of_vc ?_
 unfold heap_Heap_there.vc
 have hl := h.trowL
 refine JnB.intro (ifD (fun c1 => nilP (h.hd.rS rfl ?_)) fun c1 => ?_)
 ·have : decide (x < ((L.trow.len : Nat) : Int)) = decide (0 <= x /\ x < (H.ths.length : Int)) := by rw [decide_eq_decide, hl]; omega
  simp only [this]; exact hR
 ·rw [decide_eq_false (by omega)] at hR; exact hR
theorem hown_ok (h : HH σ F L H) (t : Nat) {R : Int -> Hp -> Prop} (hR : R ((H.own t : Nat) : Int) σ) : heap_Heap_own.call (some ⟨L.p, 0, none⟩) (t : Int) σ R := by
 refine heap_Heap_own.of_vc ?_
 unfold heap_Heap_own.vc
 have hl := h.arowL
 have h1 := h.s.a1
 refine nilP (h.hd.rS rfl (nz (by simp only; omega) ?_))
 have : ((t : Int).tmod ((L.arow.len : Nat) : Int)) = ((H.own t : Nat) : Int) := by rw [tmod_nn (by omega), hl]; unfold Hw.own; omega
 simp only [this]; exact hR
theorem howner_ok (h : HH σ F L H) (x : Int) (hx9 : x <= 9223372036854775807) {R : Int -> Hp -> Prop} (hR : ∀ σ', Ext0 σ σ' -> R (ownerH H.ars x) σ') : heap_Heap_owner.call (some ⟨L.p, 0, none⟩) x σ R := by
 refine heap_Heap_owner.of_vc ?_
 unfold heap_Heap_owner.vc
 refine nw (cs := [.int .i64 x]) fun v hz e hb => hb.rI0 rfl ?_
 have h' := h.keep0 e
 by_cases hx : x < 0
 ·have := hR v e
  unfold ownerH at this; rw [if_pos hx] at this
  exact ifDT hx this
 refine ifDF hx (nilP (h'.hd.rS rfl ?_))
 have hl := h.arowL
 have ha2 := h.s.a2
 refine slices_IndexFunc_arena_Arena_arena_Arena.of_vc ?_
 unfold slices_IndexFunc_arena_Arena_arena_Arena.vc
 refine loop1 (a := .i .i64) (fun (z : Int) w => ∃ i : Nat, z = (i : Int) /\ i <= H.ars.length /\ Ext0 σ w /\ HH w F L H /\ Blk w σ.size [.int .i64 x] /\ ∀ j A, j < i -> H.ars[j]? = some A -> ownsA A (x / 256) = false) (fun z _ => H.ars.length - z.toNat) ⟨0, rfl, by omega, e, h', hb, fun j A hj => by omega⟩ ?_
 rintro z w ⟨i, rfl, hi, ew, hw, hbw, hno⟩
 refine ifD (fun hlt => ?_) fun hge => ?_
 ·simp only at hlt
  have hi' : i < H.ars.length := by omega
  have hA : H.ars[i]? = some H.ars[i] := List.getElem?_eq_getElem hi'
  generalize H.ars[i] = A at hA
  obtain ⟨Y, hy, hhs, hAY⟩ := hw.ar hA
  refine hw.rA hy (callF (all := #[.pointer (some ⟨Y.p, 0, none⟩), .pointer (some ⟨σ.size, 0, none⟩)]) (by kernel_rfl) (by simp) ?_)
  refine heap_Heap_owner_L1.of_vc ?_
  unfold heap_Heap_owner_L1.vc
  refine hbw.rI0 rfl (nz (by decide) (ar (by rw [tdiv_nn (by omega)]; omega) (by rw [tdiv_nn (by omega)]; omega) ?_))
  rw [tdiv_nn (by omega)]
  refine Owns_ok hAY (x / 256) (iff_ (fun ht => ?_) fun hf => ?_)
  ·have : ownerH H.ars x = (i : Int) := by
    unfold ownerH
    rw [if_neg hx]
    have : H.ars.findIdx? (fun A => ownsA A (x / 256)) = some i := by
     obtain ⟨hi1, rfl⟩ := List.getElem?_eq_some_iff.1 hA
     exact List.findIdx?_eq_some_iff_getElem.2 ⟨hi1, ht, fun j hj => by rw [hno j _ hj (List.getElem?_eq_getElem (by omega))]; simp⟩
    rw [this]
   have h2 := hR w ew
   rw [this] at h2; exact h2
  ·exact arN (m := i + 1) (by omega) (by omega) ⟨⟨i + 1, rfl, by omega, ew, hw, hbw, fun j B hj hB => by
    by_cases e : j = i
    ·subst e; rw [hA] at hB; cases hB; exact hf
    ·exact hno j B (by omega) hB⟩, by omega⟩
 ·have hii : i = H.ars.length := by simp only at hge; omega
  subst hii
  have : ownerH H.ars x = -1 := by
   unfold ownerH
   rw [if_neg hx]
   have : H.ars.findIdx? (fun A => ownsA A (x / 256)) = none := by
    rw [List.findIdx?_eq_none_iff]
    intro A hA
    obtain ⟨j, hj⟩ := List.getElem?_of_mem hA
    exact hno j A (List.getElem?_eq_some_iff.1 hj).1 hj
   rw [this]
  have h2 := hR w ew
  rw [this] at h2; exact h2
theorem hConfig_ok (h : HH σ F L H) {R : Int -> Int -> Int -> Int -> Int -> Hp -> Prop} (hR : ∀ σ', Ext0 σ σ' -> R (H.cf.pages : Int) (H.cf.arenas : Int) (H.cf.threads : Int) (H.cf.budget : Int) (H.cf.room : Int) σ') : heap_Heap_Config.call (some ⟨L.p, 0, none⟩) σ R := by
 refine heap_Heap_Config.of_vc ?_
 unfold heap_Heap_Config.vc
 refine nw (cs := [.int .i64 0, .int .i64 0, .int .i64 0, .int .i64 0, .int .i64 0]) fun v hz e hb => hmade_ok (h.keep0 e) (ifF rfl ?_)
 have hd := (h.keep0 e).hd
 refine nilP (hd.rI2 rfl (hd.rI2 rfl (hd.rI2 rfl (hd.rI2 rfl (hd.rI2 rfl ?_)))))
 refine hb.s1 (by simp) fun v1 o1 b1 => b1.s1 (by simp) fun v2 o2 b2 => b2.s1 (by simp) fun v3 o3 b3 => b3.s1 (by simp) fun v4 o4 b4 => b4.s1 (by simp) fun v5 o5 b5 => ?_
 refine b5.rI rfl (b5.rI rfl (b5.rI rfl (b5.rI rfl (b5.rI rfl (hR v5 ?_)))))
 exact ((((e.only o1 (.inr (Nat.le_refl _))).only o2 (.inr (Nat.le_refl _))).only o3 (.inr (Nat.le_refl _))).only o4 (.inr (Nat.le_refl _))).only o5 (.inr (Nat.le_refl _))
theorem hTable_ok (h : HH σ F L H) (hl : H.tb.length <= 40) {R : Sl -> Hp -> Prop} (hR : ∀ s σ', Ext0 σ σ' -> SlR s 3 (tabV H.tb) σ' (fun b => σ.size <= b) -> R s σ') : heap_Heap_Table.call (some ⟨L.p, 0, none⟩) σ R := by
 refine heap_Heap_Table.of_vc ?_
 unfold heap_Heap_Table.vc
 exact hmade_ok h (ifF rfl (nilP (h.hd.rS rfl (tabClS_ok h.tabS hl hR))))
theorem hSpace_ok (h : HH σ F L H) {R : Option Addr -> Hp -> Prop} (hR : R (some ⟨L.hs, 0, none⟩) σ) : heap_Heap_Space.call (some ⟨L.p, 0, none⟩) σ R := by
 refine heap_Heap_Space.of_vc ?_
 unfold heap_Heap_Space.vc
 exact hmade_ok h (ifF rfl (nilP (h.hd.rP rfl hR)))
theorem hRead_ok (h : HH σ F L H) (x : Int) (hx : x <= 1000000000000) {R : Int -> Int -> Hp -> Prop} (hR : ∀ σ', Ext0 σ σ' -> R (if accE H.sp x = 0 then H.sp.wd (x.toNat / 8) else 0) (accE H.sp x) σ') : heap_Heap_Read.call (some ⟨L.p, 0, none⟩) x σ R := by
 refine heap_Heap_Read.of_vc ?_
 unfold heap_Heap_Read.vc
 exact hSpace_ok h (Read_ok h.spS h.g x hx hR)
theorem hWrite_ok (h : HH σ F L H) (x v : Int) (hx : x <= 1000000000000) {R : Int -> Hp -> Prop} (hR : ∀ σ', Ext F σ σ' -> HH σ' (Grow F σ) L { H with sp := writeS H.sp x v } -> R (accE H.sp x) σ') : heap_Heap_Write.call (some ⟨L.p, 0, none⟩) x v σ R := by
 refine heap_Heap_Write.of_vc ?_
 unfold heap_Heap_Write.vc
 obtain ⟨G, hG, hs, hoff, hput⟩ := h.stepS
 refine hSpace_ok h (Write_ok hs h.g h.gd x hx v fun σ' e hs' => ?_)
 obtain ⟨e1, h1⟩ := hput σ' _ e hs'
 exact hR σ' e1 h1
theorem hUsable_ok (h : HH σ F L H) (x : Int) {R : Int -> Int -> Hp -> Prop} (hR : ∀ σ', Ext0 σ σ' -> R ((mget H.live x).elim 0 fun b => b.2.1) (if (mget H.live x).isSome then 0 else 8) σ') : heap_Heap_Usable.call (some ⟨L.p, 0, none⟩) x σ R := by
 refine heap_Heap_Usable.of_vc ?_
 unfold heap_Heap_Usable.vc
 refine hmade_ok h (ifF rfl (nilP (h.hd.rM rfl ⟨_, h.liveM, ?_⟩)))
 refine nw (cs := [.int .i64 0, .int .i64 0, .int .i64 0, .int .i64 0]) fun v hz e hb => ?_
 refine hb.s1 (by simp) fun v1 o1 b1 => b1.s1 (by simp) fun v2 o2 b2 => b2.s1 (by simp) fun v3 o3 b3 => b3.s1 (by simp) fun v4 o4 b4 => ?_
 have e4 : Ext0 σ v4 := (((e.only o1 (.inr (Nat.le_refl _))).only o2 (.inr (Nat.le_refl _))).only o3 (.inr (Nat.le_refl _))).only o4 (.inr (Nat.le_refl _))
 have h2 := hR v4 e4
 cases hm : mget H.live x with
 | none =>
  rw [hm] at h2
  exact ifT rfl h2
 | some b =>
  rw [hm] at h2
  refine ifF rfl (b4.rI rfl ?_)
  have e5 : ((mget H.live x).getD ((0, 0, 0, 0) : Bk)).2.1 = b.2.1 := by rw [hm]; rfl
  rw [e5]; exact h2
theorem hreturning_ok (h : HH σ F L H) (ht : t < H.ths.length) {R : Value -> Hp -> Prop} (hR : R (phV (retH H t)) σ) : heap_Heap_returning.call (some ⟨L.p, 0, none⟩) (t : Int) σ R := by
 refine heap_Heap_returning.of_vc ?_
 unfold heap_Heap_returning.vc
 obtain ⟨x, g, hx, hg⟩ := h.th ht
 refine nilP (h.hd.rS rfl (h.tS hx hg ?_))
 obtain ⟨G, hG, hi⟩ := h.sep.get (.hn t)
 simp only [CH, hx, hg, HnH] at hi
 have hl := hi.len
 unfold retH at hR
 rw [hg] at hR
 simp only at hR
 by_cases h0 : g.hands = []
 ·rw [if_pos h0] at hR
  exact ifT (by rw [hl, h0]; rfl) hR
 ·rw [if_neg h0] at hR
  have := List.length_pos_iff.2 h0
  exact ifF (by simp only [beq_eq_false_iff_ne]; omega) hR
theorem hborn_ok (h : HH σ F L H) (x size cls : Int) (hx9 : x <= 9223372036854775807) {R : Value -> Int -> Int -> Hp -> Prop} (hR : ∀ σ', Ext F σ σ' -> HH σ' F L (bornH H x size cls) -> R .nilIface x 0 σ') : heap_Heap_born.call (some ⟨L.p, 0, none⟩) x size cls σ R := by
 refine heap_Heap_born.of_vc ?_
 unfold heap_Heap_born.vc
 refine nw (cs := [.int .i64 0, .int .i64 0]) fun v hz e hb => ?_
 have hv := h.cut.keep0 e
 refine ⟨fun u => Ext0 v u, Ext.refl _ _, nilP ⟨some L.lm, fun u hu => by rw [add_lit, ((hv.keep0 hu).hd).cell]; rfl, ?_⟩⟩
 refine howner_ok hv x hx9 fun v1 e1 => ⟨e1, ?_⟩
 have h1 := hv.keep0 e1
 obtain ⟨hF, hput⟩ := h1.stepL
 refine ⟨L.lm, _, rfl, h1.liveM, fun v2 o2 hm2 => ?_⟩
 obtain ⟨e2, h2⟩ := hput v2 _ o2 hm2
 have hb2 : Blk v2 σ.size [.int .i64 0, .int .i64 0] := only_blk o2 (e1.blk hb id) (by have := hF.2; omega)
 refine hb2.s1 (by simp) fun v3 o3 b3 => b3.s1 (by simp) fun v4 o4 b4 => b4.rI rfl (b4.rI rfl (hR v4 ?_ ?_))
 ·exact (((Ext0.to (e.trans e1)).trans (e2.sub fun b hb => hb.1)).only o3 (.inr (Nat.le_refl _))).only o4 (.inr (Nat.le_refl _))
 ·have e34 : Ext (· = σ.size) v2 v4 := o3.ext.trans o4.ext
  have h4 := h.keepN h2 e34 (fun b hb => by omega) (fun b _ hb he => by have := hb.2; omega)
  exact h4.mono (fun b _ hb => hb.1) h.o h.o2
theorem hhold_ok (h : HH σ F L H) (ht : t < H.ths.length) (k : Nat) {s : Sl} {xs : List Int} {X : Rg} (hs : SlR s 1 (intsI xs) σ X) (hc : s.len <= s.cap) (hxs : xs ≠ []) (hX : ∀ b, b < σ.size -> X b -> ¬ F b) (oX : Off X) (oX2 : ¬ X 1) (hlen : ∀ g, H.ths[t]? = some g -> g.hands.length <= 1000) {R : Hp -> Prop}
 (hR : ∀ σ' ts', Ext F σ σ' -> HH σ' (fun b => Grow F σ b ∨ X b) { L with ts := ts' } (holdH H t k xs) -> R σ') : heap_Heap_hold.call (some ⟨L.p, 0, none⟩) (t : Int) (k : Int) s σ R := by
 refine heap_Heap_hold.of_vc ?_
 unfold heap_Heap_hold.vc
 obtain ⟨x, g, hx, hg⟩ := h.th ht
 have htl := trV_len h.s.ts
 have hrl := h.trowL
 have hlen := hlen g hg
 obtain ⟨G, D, hG, hD, hd, hB, hr, ⟨E, hE1, hE2, hhd⟩, hput⟩ := h.cut.stepN hx hg (fun b => σ.size <= b ∨ b < σ.size /\ X b) (fun b hb hf hn => by
  rcases hn with hn | hn
  ·omega
  ·exact hX b hb hn.2 hf.1) (fun b hb => hb.elim (h.newN.1 b) fun hb => oX b hb.2) (fun hb => hb.elim h.newN.2 fun hb => oX2 hb.2)
 obtain ⟨ps, Dn, hrow, hBo, hDs, hj, hne⟩ := hB
 have hhd' : ∀ u, Ext G σ u -> Blk u L.p (hdH L H.cf) := fun u hu => ((BlkR.loc _ _).keep hhd hu fun b _ hb hx => hE1 b hb hx).2
 have hr' : ∀ u, Ext G σ u -> RowR L.trow 3 (trV L.ts H.ths) u D := fun u hu => (RowR.loc _ _ _).keep hr hu fun b _ hb hx => hd b hx hb
 refine ⟨fun u => Ext G σ u, Ext.refl _ _, nilP ⟨L.trow, fun u hu => by rw [add_lit, (hhd' u hu).cell]; rfl, nilP ⟨L.trow, fun u hu => by rw [add_lit, (hhd' u hu).cell]; rfl, ?_⟩⟩⟩
 refine tr_ix (RowR.slR hr) h.s.ts hx hg (d := 1) (by omega) rfl fun b o ha _ => ⟨x.h, fun u hu => ?_, ?_⟩
 ·obtain ⟨b', o', ha', hc'⟩ := tr_cell (RowR.slR (hr' u hu)) hx hg (d := 1) (by omega) rfl
  rw [ha] at ha'; cases ha'
  rw [add_lit, show o + 3 * t + 1 = o + (3 * t + 1) by omega]; exact hc'
 refine nw (cs := [.int .i64 (k : Int), .slice s.a s.len s.cap]) fun v hz e hb => ⟨Ext0.to e, ?_⟩
 have hrow1 := (RowO.loc _ _ _).keep0 ((RowO.loc _ _ _).cut hrow) e
 have hBo1 := (BtO.loc _ _).keep0 ((BtO.loc _ _).cut hBo) e
 have hs1 := (SlR.loc _ _ _).keep0 ((SlR.loc _ _ _).cut hs) e
 have hpl : x.h.len = ps.length := by have := hrow.1; rw [btsV_len] at this; omega
 have hpg : ps.length = g.hands.length := hBo.1
 refine hrow1.app (ys := btV (k, s)) rfl rfl ?_ (fun v hv => btsV_one1 (l := [(k, s)]) v (by simpa [btsV] using hv)) ?_ ?_ Nat.zero_lt_one fun s' v2 hl2 e2 hr2 => ?_
 ·intro j u hu
  rw [add_lit, Nat.zero_add, hb.cell]; exact hu
 ·simp only
  have : (x.h.len + 1) * 32 <= 1001 * 32 := Nat.mul_le_mul (by omega) (by omega)
  omega
 ·simp only; omega
 have hs2 := e2.1
 have eG : Ext G σ v2 := (Ext0.to e).trans (e2.sub fun b hb => hb.1.1)
 refine ⟨eG, ?_⟩
 obtain ⟨b0, hb0⟩ : ∃ b, L.trow.a = some ⟨b, 0, none⟩ := by
  rcases hr.2 with ⟨h0, _⟩ | ⟨b, _, _, ha, _⟩
  ·omega
  ·exact ⟨b, ha⟩
 rw [hb0]
 refine ix (by omega) (by omega) ?_
 refine (hr' v2 eG).st (j := 3 * t + 1) (by omega) (fun b' hb' => by rw [hb0] at hb'; cases hb'; rw [add_lit, add_lit]; congr 1; omega) fun σ' e3 hr3 => ?_
 have hs3 := e3.1
 have e03 : Ext (fun b => G b ∨ D b) σ σ' := (eG.sub fun b hb => .inl hb).trans (e3.sub fun b hb => .inr hb)
 have hr4 := (RowO.loc _ _ _).keep ((RowO.loc _ _ _).cut hr2) e3 fun b _ hb hx => by
  rcases hb.1 with h1 | h1
  ·exact hd b h1.1.1 hx
  ·have := (hD b hx).2; omega
 have hB4 := (BtO.loc _ _).keep ((BtO.loc _ _).keep hBo1 e2 fun b _ hb hx => hx.1.2 hb.1) e3 fun b _ hb hx => hd b (hDs b hb.1) hx
 have hs4 := (SlR.loc _ _ _).keep ((SlR.loc _ _ _).keep hs1 e2 fun b hb hx hy => hX b hx.2 hx.1 (hG b hy.1.1).1) e3 fun b _ hx hy => hX b hx.2 hx.1 (hD b hy).1
 have hBt : BtR s' (g.hands ++ [(k, xs)]) σ' (fun b => G b /\ b < σ.size ∨ b < σ.size /\ X b ∨ v.size <= b /\ b < v2.size) := by
  refine ⟨ps ++ [(k, s)], fun b => Dn b /\ b < σ.size ∨ b < σ.size /\ X b, ?_, ⟨by simp [hpg], fun i p y hp hy => ?_⟩, fun b hb => ?_, hj.snoc hBo hne hs hxs (fun b hb hx hy => hX b hb hy (hG b (hDs b hx)).1) k, fun y hy => ?_⟩
  ·rw [btsV_append]
   have : btsV [(k, s)] = btV (k, s) := by simp [btsV]
   rw [this]
   refine (RowO.loc _ _ _).mono hr4 fun q _ hq => ?_
   rcases hq.1 with h1 | h1
   ·exact ⟨.inl ⟨h1.1.1, h1.2⟩, fun hx => by
     rcases hx with hx | hx
     ·exact h1.1.2 hx.1
     ·exact hX q hx.1 hx.2 (hG q h1.1.1).1⟩
   ·exact ⟨.inr (.inr ⟨h1, hq.2⟩), fun hx => by
     rcases hx with hx | hx <;> omega⟩
  ·rcases Nat.lt_or_ge i ps.length with hi | hi
   ·rw [List.getElem?_append_left hi] at hp
    rw [List.getElem?_append_left (by omega)] at hy
    obtain ⟨a1, a2, a3⟩ := hB4.2 i p y hp hy
    exact ⟨a1, (SlR.loc _ _ _).mono a2 fun q _ hq => .inl hq, a3⟩
   ·rw [List.getElem?_append_right hi] at hp
    rw [List.getElem?_append_right (by omega)] at hy
    have hi0 : i - ps.length = 0 := by
     have := (List.getElem?_eq_some_iff.1 hp).1
     simp at this; omega
    rw [hi0] at hp
    rw [show i - g.hands.length = 0 by omega] at hy
    simp at hp hy; subst hp; subst hy
    exact ⟨rfl, (SlR.loc _ _ _).mono hs4 fun q _ hq => .inr ⟨hq.2, hq.1⟩, hc⟩
  ·rcases hb with hb | hb
   ·exact .inl ⟨hDs b hb.1, hb.2⟩
   ·exact .inr (.inl hb)
  ·rcases List.mem_append.1 hy with h1 | h1
   ·exact hne y h1
   ·rw [List.mem_singleton] at h1; subst h1; exact hxs
 obtain ⟨eF, h4⟩ := hput σ' s' (g.hands ++ [(k, xs)]) (fun b => G b /\ b < σ.size ∨ b < σ.size /\ X b ∨ v.size <= b /\ b < v2.size) D e03 (fun b hb => by
  rcases hb with hb | hb | hb
  ·exact .inl (.inl hb.1)
  ·exact .inr (.inr hb)
  ·exact .inr (.inl (by omega))) (fun b hb => .inl (.inr hb)) (fun b hb hx => by
  have := (hD b hx).2
  rcases hb with hb | hb | hb
  ·exact hd b hb.1 hx
  ·exact hX b hb.1 hb.2 (hD b hx).1
  ·omega) hBt hr3
 refine hR σ' (L.ts.set t { x with h := s' }) (eF.sub fun b hb => hb.1) ?_
 have e5 : holdH H t k xs = { H with ths := H.ths.set t { g with hands := g.hands ++ [(k, xs)] } } := by
  unfold holdH Hw.setT
  congr 1
  exact modify_set hg
 rw [e5]
 refine h4.mono (fun b _ hb => ?_) (fun b (hb : Grow F σ b ∨ X b) => hb.elim (h.oG b) (oX b)) fun (hb : Grow F σ _ ∨ X _) => hb.elim h.oG2 oX2
 rcases hb with hb | (hb | hb | hb) | hb
 ·exact .inl (.inl hb.1.1)
 ·exact .inl (.inl (hG b hb.1).1)
 ·exact .inr hb.2
 ·exact .inl (.inr (by omega))
 ·exact .inl (.inl (hD b hb).1)
end Go.Ar
namespace Go.Ar
open Go Go.Vc Go.Proofs


variable {σ u u' : Hp} {F B P : Rg} {L : LayH} {H H' : Hw} {t k n : Nat} {A : AR} {Y : Lay} {x : LayT} {g : Th} {c : Cls} {l : Li} {cs : List Value}
structure HK (F : Rg) (σ : Hp) (B : Rg) (u : Hp) (P : Rg) (L : LayH) (H : Hw) : Prop where
 h : HH u P L H
 e : Ext F σ u
 p : ∀ b, P b -> (F b /\ b < σ.size ∨ σ.size <= b) /\ ¬ B b /\ b < u.size
 b : ∀ b, B b -> σ.size <= b /\ b < u.size
 o : Off (fun b => σ.size <= b) /\ ¬ σ.size <= 1
theorem HK.start (h : HH σ F L H) : HK F σ (fun _ => False) σ (Cut F σ) L H := ⟨h.cut, Ext.refl _ _, fun b hb => ⟨.inl ⟨hb.1, hb.2⟩, id, hb.2⟩, fun b hb => hb.elim, h.newN⟩
theorem HK.box (K : HK F σ B u P L H) (e : Ext0 u u') (hz : u'.size = u.size + 1) : HK F σ (fun b => B b ∨ b = u.size) u' P L H :=
 ⟨K.h.keep0 e, K.e.trans (Ext0.to e), fun b hb => ⟨(K.p b hb).1, fun hx => hx.elim (K.p b hb).2.1 fun hy => by have := (K.p b hb).2.2; omega, by have := (K.p b hb).2.2; omega⟩, fun b hb => by
  have := K.e.1
  rcases hb with hb | hb
  ·have := K.b b hb; omega
  ·omega, K.o⟩
theorem HK.fr (K : HK F σ B u P L H) (e : Ext0 u u') : HK F σ B u' P L H :=
 ⟨K.h.keep0 e, K.e.trans (Ext0.to e), fun b hb => ⟨(K.p b hb).1, (K.p b hb).2.1, by have := (K.p b hb).2.2; have := e.1; omega⟩, fun b hb => by have := K.b b hb; have := e.1; omega, K.o⟩
theorem HK.own (K : HK F σ B u P L H) (o : OnlyB u u' n) (hn : B n) : HK F σ B u' P L H := by
 have hb := K.b n hn
 have hz := o.1
 have e : Ext (· = n) u u' := o.ext
 have hP : ∀ b, b < u.size -> P b -> ¬ (b = n) := fun b _ h1 h2 => (K.p b h1).2.1 (h2 ▸ hn)
 have oN : Off (fun b => b = n) /\ ¬ (1 = n) := ⟨K.o.1.sub fun b hx => by omega, fun hx => K.o.2 (by omega)⟩
 exact ⟨K.h.keep e hP oN.1 oN.2, K.e.newT e fun b (hb' : b = n) => .inr (by omega), fun b h1 => ⟨(K.p b h1).1, (K.p b h1).2.1, by have := (K.p b h1).2.2; omega⟩, fun b h1 => by have := K.b b h1; omega, K.o⟩
theorem HK.keepB (K : HK F σ B u P L H) (e : Ext P u u') (hb : Blk u n cs) (hn : B n) : Blk u' n cs := e.blk hb fun hp => (K.p n hp).2.1 hn
theorem HK.toX (K : HK F σ B u P L H) {Q : Rg} {L' : LayH} (e : Ext P u u') (h : HH u' Q L' H') (hq : ∀ b, b < u'.size -> Q b -> P b ∨ u.size <= b ∨ (F b /\ b < σ.size ∨ σ.size <= b) /\ ¬ B b) : HK F σ B u' (Cut Q u') L' H' := by
 have hz := e.1
 have hs := K.e.1
 refine ⟨h.cut, K.e.newT e fun b hb => (K.p b hb).1.imp (fun h => h.1) id, fun b hb => ⟨?_, fun hx => ?_, hb.2⟩, fun b hb => by have := K.b b hb; omega, K.o⟩
 ·rcases hq b hb.2 hb.1 with h1 | h1 | h1
  ·exact (K.p b h1).1
  ·exact .inr (by omega)
  ·exact h1.1
 ·rcases hq b hb.2 hb.1 with h1 | h1 | h1
  ·exact (K.p b h1).2.1 hx
  ·have := K.b b hx; omega
  ·exact h1.2 hx
theorem HK.to (K : HK F σ B u P L H) {Q : Rg} {L' : LayH} (e : Ext P u u') (h : HH u' Q L' H') (hq : ∀ b, b < u'.size -> Q b -> P b ∨ u.size <= b) : HK F σ B u' (Cut Q u') L' H' := K.toX e h fun b hb h1 => (hq b hb h1).imp id .inl
theorem HK.fin (K : HK F σ B u P L H) {L0 : LayH} {H0 : Hw} (h0 : HH σ F L0 H0) : HH u (Grow F σ) L H := h0.grown K.h fun b _ hb => (K.p b hb).1.imp (fun h => h.1) id
def Fr (A' A : AR) : Prop := A'.tb = A.tb /\ A'.room = A.room /\ A'.tra = A.tra
theorem Fr.traT {A' A : AR} (h : Fr A' A) (Y : Lay) : Go.Ar.traT A' Y = Go.Ar.traT A Y := by
 funext k; unfold Go.Ar.traT; rw [h.1, h.2.1, h.2.2]
theorem fr_fromCen (A : AR) (k m : Int) : Fr (fromCenS A k m) A := by
 unfold fromCenS; split <;> exact ⟨rfl, rfl, rfl⟩
theorem fr_toCen (A : AR) (k : Int) (xs : List Int) : Fr (toCenS A k xs) A := ⟨(toCenS_frame A k xs).1, (toCenS_frame A k xs).2.1, (toCenS_frame A k xs).2.2.1⟩
theorem fr_get (A : AR) (sp : Sp) (m a no : Nat) : Fr (getA A sp m a no).2.1 A := ⟨(getA_frame A sp m a no).1, (getA_frame A sp m a no).2.2.2.1, (getA_frame A sp m a no).2.2.1⟩
theorem fr_give (A : AR) (x : Int) : Fr (giveAS A x) A := by
 unfold giveAS; split <;> exact ⟨rfl, rfl, rfl⟩
theorem fr_grow (A : AR) (sp : Sp) (k : Int) : Fr (growS A sp k).1 A := by
 unfold growS
 split
 ·split
  ·rename_i c ss h1 h2
   have h := fr_get A sp c.pages 1 (k.toNat + 1)
   generalize getA A sp c.pages 1 (k.toNat + 1) = r at h
   obtain ⟨o, A', sp'⟩ := r
   cases o with
   | none => exact h
   | some x =>
    simp only
    split <;> exact h
  ·exact ⟨rfl, rfl, rfl⟩
 ·exact ⟨rfl, rfl, rfl⟩
theorem fr_takeA (A : AR) (sp : Sp) (m a : Int) : Fr (takeAS A sp m a).1 A := by
 unfold takeAS
 split
 ·have h := fr_get A sp m.toNat a.toNat 41
  generalize getA A sp m.toNat a.toNat 41 = r at h
  obtain ⟨o, A', sp'⟩ := r
  cases o <;> exact h
 ·exact ⟨rfl, rfl, rfl⟩
theorem tb_fromTr (A : AR) (k : Int) : (fromTrS A k).tb = A.tb := by unfold fromTrS; split <;> rfl
theorem tb_toTr (A : AR) (k : Int) (xs : List Int) : (toTrS A k xs).tb = A.tb := by unfold toTrS; split <;> rfl
theorem HH.stepA' (h : HH σ F L H) (hk : H.ars[k]? = some A) (hy : L.ys[k]? = some Y) : ∃ G : Rg, (∀ b, G b -> F b) /\ AHY σ G Y A (traT A Y) /\ ∀ (σ' : Hp) (A' : AR) (Q : Rg), A'.tb = A.tb -> Ext G σ σ' -> (∀ b, Q b -> G b ∨ σ.size <= b) -> AHY σ' (fun b => Grow G σ b /\ ¬ Q b) Y A' (traT A' Y) →
 Ext F σ σ' /\ HH σ' (fun b => Grow F σ b /\ ¬ Q b) L (H.setA k A') := by
 obtain ⟨Y', G, hy', _, hG, ha, hput⟩ := h.stepA hk
 rw [hy] at hy'; cases hy'
 refine ⟨G, hG, ha, fun σ' A' Q htb e hQ h' => ?_⟩
 obtain ⟨e1, h1⟩ := hput σ' A' _ htb e (fun b hb => hb.1) h'
 refine ⟨e1, h1.mono (fun b _ hb => ?_) (h.oG.sub fun b hb => hb.1) fun hb => h.oG2 hb.1⟩
 rcases hb with hb | hb
 ·exact ⟨.inl hb.1, fun hq => by
   rcases hQ b hq with h2 | h2
   ·exact hb.2.2 h2
   ·have := hb.2.1; omega⟩
 ·exact ⟨hb.1.imp (hG b) id, hb.2⟩
theorem AHY.mono0 {T : Nat -> Hp -> Rg -> Prop} {G Q : Rg} (h : AHY σ G Y A T) (hq : ∀ b, ¬ Q b) : AHY σ (fun b => G b /\ ¬ Q b) Y A T := h.mono fun b _ hb => ⟨hb, hq b⟩
theorem HH.stepA0 (h : HH σ F L H) (hk : H.ars[k]? = some A) (hy : L.ys[k]? = some Y) : ∃ G : Rg, (∀ b, G b -> F b) /\ AHY σ G Y A (traT A Y) /\ ∀ (σ' : Hp) (A' : AR), A'.tb = A.tb -> Ext G σ σ' -> AHY σ' (Grow G σ) Y A' (traT A' Y) →
 Ext F σ σ' /\ HH σ' (Grow F σ) L (H.setA k A') := by
 obtain ⟨G, hG, ha, hput⟩ := h.stepA' hk hy
 refine ⟨G, hG, ha, fun σ' A' htb e h' => ?_⟩
 obtain ⟨e1, h1⟩ := hput σ' A' (fun _ => False) htb e (fun b hb => hb.elim) (h'.mono0 fun _ => id)
 exact ⟨e1, h1.mono (fun b _ hb => hb.1) h.oG h.oG2⟩
theorem hFromTransfer_ok (h : HH σ F L H) (hk : H.ars[k]? = some A) (hy : L.ys[k]? = some Y) (c : Int) {R : Sl -> Int -> Hp -> Prop}
 (hR : ∀ s σ' (Q : Rg), Ext F σ σ' -> (∀ b, Q b -> F b) -> SlR s 1 (intsI (fromTrV A c)) σ' Q -> s.len <= s.cap -> HH σ' (fun b => Grow F σ b /\ ¬ Q b) L (H.setA k (fromTrS A c)) -> R s (fromTrE A c) σ') :
 arena_Arena_FromTransfer.call (some ⟨Y.p, 0, none⟩) c σ R := by
 obtain ⟨G, hG, ha, hput⟩ := h.stepA' hk hy
 refine FromTransferB_ok ha c fun s σ' e hQ hs hcap h' => ?_
 obtain ⟨e1, h1⟩ := hput σ' (fromTrS A c) (InB s) (tb_fromTr A c) e (fun b hb => .inl (hQ b hb)) (h'.mono fun b _ hb => ⟨.inl hb.1, hb.2⟩)
 exact hR s σ' (InB s) e1 (fun b hb => hG b (hQ b hb)) hs hcap h1
theorem hFromCentral_ok (h : HH σ F L H) (hk : H.ars[k]? = some A) (hy : L.ys[k]? = some Y) (c m : Int) {R : Sl -> Int -> Hp -> Prop}
 (hR : ∀ s σ' (Q : Rg), Ext F σ σ' -> (∀ b, Q b -> σ.size <= b) -> RowR s 1 (ints (fromCenV A c m)) σ' Q -> HH σ' (fun b => Grow F σ b /\ ¬ Q b) L (H.setA k (fromCenS A c m)) -> R s (fromCenE A c m) σ') :
 arena_Arena_FromCentral.call (some ⟨Y.p, 0, none⟩) c m σ R := by
 obtain ⟨G, hG, ha, hput⟩ := h.stepA' hk hy
 refine FromCentral_ok ha c m fun s σ' e hs h' => ?_
 have htr : traT (fromCenS A c m) Y = traT A Y := (fr_fromCen A c m).traT Y
 obtain ⟨e1, h1⟩ := hput σ' (fromCenS A c m) (fun b => σ.size <= b) (fr_fromCen A c m).1 e (fun b hb => .inr hb) (by rw [htr]; exact h'.mono fun b _ hb => ⟨.inl hb.1, by have := hb.2; omega⟩)
 exact hR s σ' _ e1 (fun b hb => hb) hs h1
theorem hToTransfer_ok (h : HH σ F L H) (hk : H.ars[k]? = some A) (hy : L.ys[k]? = some Y) (c : Int) {sl : Sl} {xs : List Int} {X : Rg} (hs : SlR sl 1 (intsI xs) σ X) (hi : ∀ x ∈ xs, I63 x) {R : Bool -> Int -> Hp -> Prop}
 (hR : ∀ σ', Ext F σ σ' -> HH σ' (Grow F σ) L (H.setA k (toTrS A c xs)) -> R (toTrV A c xs) (toTrE A c xs) σ') : arena_Arena_ToTransfer.call (some ⟨Y.p, 0, none⟩) c sl σ R := by
 obtain ⟨G, hG, ha, hput⟩ := h.stepA0 hk hy
 refine ToTransfer_ok ha c hs hi fun σ' e h' => ?_
 obtain ⟨e1, h1⟩ := hput σ' _ (tb_toTr A c xs) e h'
 exact hR σ' e1 h1
theorem hToCentral_ok (h : HH σ F L H) (hk : H.ars[k]? = some A) (hy : L.ys[k]? = some Y) (c : Int) {sl : Sl} {xs : List Int} {X : Rg} (hs : SlR sl 1 (intsI xs) σ X) (hX : ∀ b, b < σ.size -> X b -> ¬ F b) (hi : ∀ x ∈ xs, I63 x) (hl : xs.length <= 1000000) (hcap : sl.len <= sl.cap) {R : Int -> Hp -> Prop}
 (hR : ∀ σ', Ext F σ σ' -> HH σ' (Grow F σ) L (H.setA k (toCenS A c xs)) -> R (toCenE A c xs) σ') : arena_Arena_ToCentral.call (some ⟨Y.p, 0, none⟩) c sl σ R := by
 obtain ⟨G, hG, ha, hput⟩ := h.stepA0 hk hy
 refine ToCentral_ok ha c hi hl hcap (.inl ⟨X, hs, fun b hb hx hg => hX b hb hx (hG b hg)⟩) fun σ' e h' => ?_
 have htr : traT (toCenS A c xs) Y = traT A Y := (fr_toCen A c xs).traT Y
 obtain ⟨e1, h1⟩ := hput σ' _ (fr_toCen A c xs).1 e (by rw [htr]; exact h')
 exact hR σ' e1 h1
theorem hGivePages_ok (h : HH σ F L H) (hk : H.ars[k]? = some A) (hy : L.ys[k]? = some Y) (x : Int) (hf : ∀ r ∈ A.runs, r.1 <= 1000000) {R : Int -> Hp -> Prop}
 (hR : ∀ σ', Ext F σ σ' -> HH σ' (Grow F σ) L (H.setA k (giveAS A x)) -> R (giveAE A x) σ') : arena_Arena_GivePages.call (some ⟨Y.p, 0, none⟩) x σ R := by
 obtain ⟨G, hG, ha, hput⟩ := h.stepA0 hk hy
 refine GivePages_ok ha x hf fun σ' e h' => ?_
 have htr : traT (giveAS A x) Y = traT A Y := (fr_give A x).traT Y
 obtain ⟨e1, h1⟩ := hput σ' _ (fr_give A x).1 e (by rw [htr]; exact h')
 exact hR σ' e1 h1
theorem hAGrow_ok (h : HH σ F L H) (hk : H.ars[k]? = some A) (hy : L.ys[k]? = some Y) (c : Int) {R : Int -> Hp -> Prop}
 (hR : ∀ σ', Ext F σ σ' -> HH σ' (Grow F σ) L { H.setA k (growS A H.sp c).1 with sp := (growS A H.sp c).2 } -> R (growE A H.sp c) σ') : arena_Arena_Grow.call (some ⟨Y.p, 0, none⟩) c σ R := by
 obtain ⟨Y', G, D, hy', _, hW, hput⟩ := h.stepAS hk
 rw [hy] at hy'; cases hy'
 refine AGrow_ok hW c fun σ' G' D' hf e h' => ?_
 have htr : traT (growS A H.sp c).1 Y = traT A Y := (fr_grow A H.sp c).traT Y
 obtain ⟨e1, h1⟩ := hput σ' _ _ G' D' (fr_grow A H.sp c).1 e hf (by rw [htr]; exact h')
 exact hR σ' e1 h1
theorem hATakePages_ok (h : HH σ F L H) (hk : H.ars[k]? = some A) (hy : L.ys[k]? = some Y) (m a : Int) {R : Int -> Int -> Hp -> Prop}
 (hR : ∀ σ', Ext F σ σ' -> HH σ' (Grow F σ) L { H.setA k (takeAS A H.sp m a).1 with sp := (takeAS A H.sp m a).2 } -> R ((takeAV A H.sp m a : Nat) : Int) (takeAE A H.sp m a) σ') : arena_Arena_TakePages.call (some ⟨Y.p, 0, none⟩) m a σ R := by
 obtain ⟨Y', G, D, hy', _, hW, hput⟩ := h.stepAS hk
 rw [hy] at hy'; cases hy'
 refine ATakePages_ok hW m a fun σ' G' D' hf e h' => ?_
 have htr : traT (takeAS A H.sp m a).1 Y = traT A Y := (fr_takeA A H.sp m a).traT Y
 obtain ⟨e1, h1⟩ := hput σ' _ _ G' D' (fr_takeA A H.sp m a).1 e hf (by rw [htr]; exact h')
 exact hR σ' e1 h1
def Hw.setLs (H : Hw) (t : Nat) (g : Th) (ls : List Li) : Hw := { H with ths := H.ths.set t { g with ls := ls } }
theorem HH.stepC' (h : HH σ F L H) (hx : L.ts[t]? = some x) (hg : H.ths[t]? = some g) : ∃ G : Rg, (∀ b, G b -> F b) /\ CaY σ G x.c H.tb H.cf.budget g.ls /\ ∀ (σ' : Hp) (ls : List Li) (Y' : LayC) (Q : Rg), Y'.p = x.c.p -> Ext G σ σ' -> (∀ b, Q b -> σ.size <= b) -> CaY σ' (fun b => Grow G σ b /\ ¬ Q b) Y' H.tb H.cf.budget ls →
 Ext F σ σ' /\ HH σ' (fun b => Grow F σ b /\ ¬ Q b) { L with ts := L.ts.set t { x with c := Y' } } (H.setLs t g ls) := by
 obtain ⟨G, hG, hc, hput⟩ := h.stepC hx hg
 refine ⟨G, hG, hc, fun σ' ls Y' Q hp e hQ h' => ?_⟩
 obtain ⟨e1, h1⟩ := hput σ' ls Y' _ hp e (fun b hb => hb.1) h'
 refine ⟨e1, h1.mono (fun b _ hb => ?_) (h.oG.sub fun b hb => hb.1) fun hb => h.oG2 hb.1⟩
 rcases hb with hb | hb
 ·exact ⟨.inl hb.1, fun hq => by have := hb.2.1; have := hQ b hq; omega⟩
 ·exact ⟨hb.1.imp (hG b) id, hb.2⟩
theorem HH.stepC0 (h : HH σ F L H) (hx : L.ts[t]? = some x) (hg : H.ths[t]? = some g) : ∃ G : Rg, (∀ b, G b -> F b) /\ CaY σ G x.c H.tb H.cf.budget g.ls /\ ∀ (σ' : Hp) (ls : List Li) (Y' : LayC), Y'.p = x.c.p -> Ext G σ σ' -> CaY σ' (Grow G σ) Y' H.tb H.cf.budget ls →
 Ext F σ σ' /\ HH σ' (Grow F σ) { L with ts := L.ts.set t { x with c := Y' } } (H.setLs t g ls) := by
 obtain ⟨G, hG, hc, hput⟩ := h.stepC' hx hg
 refine ⟨G, hG, hc, fun σ' ls Y' hp e h' => ?_⟩
 obtain ⟨e1, h1⟩ := hput σ' ls Y' (fun _ => False) hp e (fun b hb => hb.elim) (h'.mono fun b _ hb => ⟨hb, id⟩)
 exact ⟨e1, h1.mono (fun b _ hb => hb.1) h.oG h.oG2⟩
theorem hTake_ok (h : HH σ F L H) (hx : L.ts[t]? = some x) (hg : H.ths[t]? = some g) (hc : H.tb[k]? = some c) (hl : g.ls[k]? = some l) {R : Int -> Int -> Hp -> Prop}
 (hR : ∀ σ' ts', Ext F σ σ' -> HH σ' (Grow F σ) { L with ts := ts' } (H.setLs t g (g.ls.set k (takeL c l).2)) -> R ((takeL c l).1.getD 0) (if (takeL c l).1.isSome then 0 else 4) σ') : cache_Cache_Take.call (some ⟨x.c.p, 0, none⟩) (k : Int) σ R := by
 obtain ⟨G, hG, hC, hput⟩ := h.stepC0 hx hg
 refine Take_ok hC hc hl fun σ' Y' e hp h' => ?_
 obtain ⟨e1, h1⟩ := hput σ' _ Y' hp e h'
 exact hR σ' _ e1 h1
theorem hWant_ok (h : HH σ F L H) (hx : L.ts[t]? = some x) (hg : H.ths[t]? = some g) (hc : H.tb[k]? = some c) (hl : g.ls[k]? = some l) {R : Int -> Int -> Hp -> Prop}
 (hR : ∀ σ' ts', Ext F σ σ' -> HH σ' (Grow F σ) { L with ts := ts' } H -> R ((wantL c l : Nat) : Int) 0 σ') : cache_Cache_Want.call (some ⟨x.c.p, 0, none⟩) (k : Int) σ R := by
 obtain ⟨G, hG, hC, hput⟩ := h.stepC0 hx hg
 refine Want_ok hC hc hl fun σ' Y' e hp h' => ?_
 obtain ⟨e1, h1⟩ := hput σ' _ Y' hp e h'
 have e2 : H.setLs t g g.ls = H := by
  unfold Hw.setLs
  rw [set_same hg]
 rw [e2] at h1
 exact hR σ' _ e1 h1
theorem hFill_ok (h : HH σ F L H) (hx : L.ts[t]? = some x) (hg : H.ths[t]? = some g) (hc : H.tb[k]? = some c) (hl : g.ls[k]? = some l) {sl : Sl} {xs : List Int} {X : Rg} (hs : SlR sl 1 (intsI xs) σ X) (hX : ∀ q, X q -> ¬ F q) (hfit : l.os.length + xs.length <= 256) {R : Int -> Hp -> Prop}
 (hR : ∀ σ' ts', Ext F σ σ' -> HH σ' (Grow F σ) { L with ts := ts' } (H.setLs t g (g.ls.set k (addL xs.reverse l))) -> R 0 σ') : cache_Cache_Fill.call (some ⟨x.c.p, 0, none⟩) (k : Int) sl σ R := by
 obtain ⟨G, hG, hC, hput⟩ := h.stepC0 hx hg
 refine Fill_ok hC hc hl hs (fun q hq hg => hX q hq (hG q hg)) hfit fun σ' Y' e hp h' => ?_
 obtain ⟨e1, h1⟩ := hput σ' _ Y' hp e h'
 exact hR σ' _ e1 h1
theorem hPut_ok (h : HH σ F L H) (hx : L.ts[t]? = some x) (hg : H.ths[t]? = some g) (hc : H.tb[k]? = some c) (hl : g.ls[k]? = some l) (y : Int) {R : Sl -> Int -> Hp -> Prop}
 (hR : ∀ σ' ts' s e (Q : Rg), Ext F σ σ' -> (∀ q, Q q -> σ.size <= q) -> RowR s 1 (intsI (putL c y l).1) σ' Q -> HH σ' (fun b => Grow F σ b /\ ¬ Q b) { L with ts := ts' } (H.setLs t g (g.ls.set k (putL c y l).2)) -> R s e σ') : cache_Cache_Put.call (some ⟨x.c.p, 0, none⟩) (k : Int) y σ R := by
 obtain ⟨G, hG, hC, hput⟩ := h.stepC' hx hg
 refine Put_ok hC hc hl y fun σ' Y' s e' Q e hp _ hQ hs h' => ?_
 obtain ⟨e1, h1⟩ := hput σ' _ Y' Q hp e hQ h'
 exact hR σ' _ s e' Q e1 hQ hs h1
theorem hOver_ok (h : HH σ F L H) (hx : L.ts[t]? = some x) (hg : H.ths[t]? = some g) {R : Bool -> Hp -> Prop} (hR : ∀ σ', Ext0 σ σ' -> R (decide (H.cf.budget < bytesF H.tb g.ls)) σ') : cache_Cache_Over.call (some ⟨x.c.p, 0, none⟩) σ R := by
 obtain ⟨G, hG, hC, hput⟩ := h.stepC0 hx hg
 exact Over_ok hC hR
theorem hDrain_ok (hso : SortB) (h : HH σ F L H) (hx : L.ts[t]? = some x) (hg : H.ths[t]? = some g) {R : Sl -> Hp -> Prop}
 (hR : ∀ σ' s (Q : Rg), Ext F σ σ' -> (∀ q, Q q -> σ.size <= q) -> BtR s (outsF drainL H.tb g.ls) σ' Q -> HH σ' (fun b => Grow F σ b /\ ¬ Q b) L (H.setLs t g (leftF drainL H.tb g.ls)) -> R s σ') : cache_Cache_Drain.call (some ⟨x.c.p, 0, none⟩) σ R := by
 obtain ⟨G, hG, hC, hput⟩ := h.stepC' hx hg
 refine Drain_ok hso hC fun σ' s Q e hQ h' hs => ?_
 obtain ⟨e1, h1⟩ := hput σ' _ x.c Q rfl e hQ h'
 rw [show L.ts.set t { x with c := x.c } = L.ts from set_same hx] at h1
 exact hR σ' s Q e1 hQ hs h1
theorem hScavenge_ok (hso : SortB) (h : HH σ F L H) (hx : L.ts[t]? = some x) (hg : H.ths[t]? = some g) {R : Sl -> Hp -> Prop}
 (hR : ∀ σ' s (Q : Rg), Ext F σ σ' -> (∀ q, Q q -> σ.size <= q) -> BtR s (outsF scavL H.tb g.ls) σ' Q -> HH σ' (fun b => Grow F σ b /\ ¬ Q b) L (H.setLs t g (leftF scavL H.tb g.ls)) -> R s σ') : cache_Cache_Scavenge.call (some ⟨x.c.p, 0, none⟩) σ R := by
 obtain ⟨G, hG, hC, hput⟩ := h.stepC' hx hg
 refine Scavenge_ok hso hC fun σ' s Q e hQ h' hs => ?_
 obtain ⟨e1, h1⟩ := hput σ' _ x.c Q rfl e hQ h'
 rw [show L.ts.set t { x with c := x.c } = L.ts from set_same hx] at h1
 exact hR σ' s Q e1 hQ hs h1
def AtH (S : Hp -> Prop) (L : LayH) (tb : List Cls) : Prop := ∀ m, S m -> ∃ (P : Rg) (ts : List LayT) (H : Hw), HH m P { L with ts := ts } H /\ H.tb = tb
theorem AtH.tab {S : Hp -> Prop} {tb : List Cls} (hS : AtH S L tb) {K : Sl -> Prop} (hK : K L.tab) : LdH S .s (Addr.add ⟨L.p, 0, none⟩ 0) K := ⟨L.tab, fun m hm => by obtain ⟨_, _, _, h, _⟩ := hS m hm; rw [add_lit, h.hd.cell]; rfl, hK⟩
theorem AtH.arow {S : Hp -> Prop} {tb : List Cls} (hS : AtH S L tb) {K : Sl -> Prop} (hK : K L.arow) : LdH S .s (Addr.add ⟨L.p, 0, none⟩ 7) K := ⟨L.arow, fun m hm => by obtain ⟨_, _, _, h, _⟩ := hS m hm; rw [add_lit, h.hd.cell]; rfl, hK⟩
theorem AtH.rA {S : Hp -> Prop} {tb : List Cls} (hS : AtH S L tb) (h : HH σ F L H) (hy : L.ys[k]? = some Y) {K : Option Addr -> Prop} (hK : K (some ⟨Y.p, 0, none⟩)) : Ix L.arow.a L.arow.len (k : Int) 1 fun a => LdH S .p a K := by
 have hv : (ptrV (L.ys.map (·.p)))[k]? = some (.pointer (some ⟨Y.p, 0, none⟩)) := by simp [ptrV, hy]
 obtain ⟨b, o, ha, _⟩ := h.arowS.cell hv
 have hk := (List.getElem?_eq_some_iff.1 hy).1
 have hal := h.arowL
 have := h.s.ys
 rw [ha]
 refine ix (by omega) (by omega) ⟨_, fun m hm => ?_, hK⟩
 obtain ⟨_, _, _, hm', _⟩ := hS m hm
 obtain ⟨b', o', ha', hc'⟩ := hm'.arowS.cell hv
 rw [ha] at ha'; cases ha'
 rw [add_lit, show o + (k : Int).toNat * 1 = o + k by omega]; exact hc'
theorem AtH.rC {S : Hp -> Prop} (hS : AtH S L H.tb) (h : HH σ F L H) (hc : H.tb[k]? = some c) {K : Int -> Prop} (hK : K (c.size : Int)) : Ix L.tab.a L.tab.len (k : Int) 3 fun a => LdH S (.i .i64) (a.add 0) K := by
 have hv : (tabV H.tb)[3 * k + 0]? = some (.int .i64 (c.size : Int)) := (tabV_get hc).1
 obtain ⟨b, o, ha, _⟩ := h.tabS.cell hv
 have hk := (List.getElem?_eq_some_iff.1 hc).1
 have hal := h.tabL
 rw [ha]
 refine ix (by omega) (by omega) ⟨_, fun m hm => ?_, hK⟩
 obtain ⟨_, _, _, hm', htb⟩ := hS m hm
 rw [← htb] at hv
 obtain ⟨b', o', ha', hc'⟩ := hm'.tabS.cell hv
 have ha' : L.tab.a = _ := ha'
 rw [ha] at ha'; cases ha'
 rw [add_lit, add_lit, show o + (k : Int).toNat * 3 + 0 = o + (3 * k + 0) by omega]; exact hc'
end Go.Ar
namespace Go.Ar
open Go Go.Vc Go.Proofs


variable {σ u u' : Hp} {F B P Q : Rg} {L : LayH} {H H' : Hw} {t k n pb : Nat} {A : AR} {Y : Lay} {x : LayT} {g : Th} {c : Cls} {l : Li} {cs : List Value} {parts : List (List Int)} {xs : List Int}
theorem HK.ownE (K : HK F σ B u P L H) (e : Ext B u u') {B' : Rg} (hB : ∀ b, B' b -> B b ∨ u.size <= b /\ b < u'.size) : HK F σ B' u' P L H := by
 have hz := e.1
 have hz0 := K.e.1
 have oN : Off B /\ ¬ B 1 := ⟨K.o.1.sub fun b hx => (K.b b hx).1, fun hx => K.o.2 (K.b _ hx).1⟩
 refine ⟨K.h.keep e (fun b _ h1 h2 => (K.p b h1).2.1 h2) oN.1 oN.2, K.e.newT e fun b hb => .inr (K.b b hb).1, fun b h1 => ⟨(K.p b h1).1, fun hx => ?_, by have := (K.p b h1).2.2; omega⟩, fun b h1 => ?_, K.o⟩
 ·rcases hB b hx with h2 | h2
  ·exact (K.p b h1).2.1 h2
  ·have := (K.p b h1).2.2; omega
 ·rcases hB b h1 with h2 | h2
  ·have := K.b b h2; omega
  ·omega
def sV (s : Sl) : Value := .slice s.a s.len s.cap
def PtR (pb : Nat) (parts : List (List Int)) : Hp -> Rg -> Prop := fun u Q => ∃ (ps : List Sl) (Qs : Nat -> Rg), ps.length = parts.length /\ Q pb /\ Blk u pb (ps.map sV) /\ (∀ j b, Qs j b -> Q b /\ b ≠ pb) /\ (∀ j j' b, Qs j b -> Qs j' b -> j = j') ∧
 ∀ j s xs, ps[j]? = some s -> parts[j]? = some xs -> RowO s 1 (intsI xs) u (Qs j)
theorem PtR.loc (pb : Nat) (parts : List (List Int)) : Lcl (PtR pb parts) := by
 rintro σ σ' F G ⟨ps, Qs, h1, h2, h3, h4, h5, h6⟩ hz hs
 have hp := hs pb h3.lt h2
 obtain ⟨e, he⟩ := h3
 refine ⟨ps, fun j b => Qs j b /\ b < σ.size, h1, hp.1, ⟨e, hp.2.trans he⟩, fun j b hb => ⟨(hs b hb.2 (h4 j b hb.1).1).1, (h4 j b hb.1).2⟩, fun j j' b a b' => h5 j j' b a.1 b'.1, fun j s xs a b => (RowO.loc _ _ _) _ _ _ _ (h6 j s xs a b) hz fun b hb hq => ⟨⟨hq, hb⟩, (hs b hb (h4 j b hq).1).2⟩⟩
theorem PtR.add (h : PtR pb parts u Q) {a m e1 e2 : Nat} (hm : m = parts.length) (ha : parts[a]? = some xs) (y : Int) (hl : xs.length <= 1000000) {K : Hp -> Prop} (hK : ∀ u', Ext Q u u' -> PtR pb (parts.set a (xs ++ [y])) u' (Grow Q u) -> K u') :
 Ix (some ⟨pb, 0, none⟩) m (a : Int) 1 fun a1 => LdS a1 u fun t35 => Nw (.cells #[.int .i64 y] e1 (0, 0)) u fun n37 v4 => App t35 1 8 e2 [.int .i64 0] ⟨some n37, 1, 1⟩ v4 fun t38 v5 => Ix (some ⟨pb, 0, none⟩) m (a : Int) 1 fun a39 => St1 a39 (.slice t38.a t38.len t38.cap) v5 fun v6 => K v6 := by
 obtain ⟨ps, Qs, h1, h2, h3, h4, h5, h6⟩ := h
 have hlt := (List.getElem?_eq_some_iff.1 ha).1
 have hps : ps[a]? = some (ps[a]'(by omega)) := List.getElem?_eq_getElem _
 generalize (ps[a]'(by omega)) = s at hps
 have hrow := h6 a s xs hps ha
 have hsl : s.len = xs.length := by have := hrow.1; simp [intsI] at this; omega
 refine ix (by omega) (by omega) ?_
 rw [add_lit, show 0 + (a : Int).toNat * 1 = a by omega]
 refine h3.rS0 (a := s.a) (n := s.len) (c := s.cap) (by simp [hps, sV]) ?_
 refine nw (cs := [.int .i64 y]) fun v4 hz e hb => ?_
 have hrow4 := (RowO.loc _ _ _).keep0 ((RowO.loc _ _ _).cut hrow) e
 have h34 := e.blk h3 id
 refine hrow4.app (x := ⟨some ⟨u.size, 0, none⟩, 1, 1⟩) (ys := [.int .i64 y]) rfl rfl ?_ (by simp [one1]) ?_ ?_ Nat.zero_lt_one fun s' v5 hl5 e5 hr5 => ?_
 ·intro j w hw
  rw [add_lit, Nat.zero_add, hb.cell]; exact hw
 ·simp only; omega
 ·simp only; omega
 have hz5 := e5.1
 have h35 : Blk v5 pb (ps.map sV) := e5.blk h34 fun hx => (h4 a pb hx.1).2 rfl
 refine ix (by omega) (by omega) ?_
 rw [add_lit, show 0 + (a : Int).toNat * 1 = a by omega]
 refine h35.s0 (by simp; omega) fun u' ho hb' => ?_
 have hz6 := ho.1
 have e6 : Ext (· = pb) v5 u' := ho.ext
 have eQ : Ext Q u u' := ((Ext0.to e).trans (e5.sub fun b hb => (h4 a b hb.1).1)).trans (e6.sub fun b hb => by rw [hb]; exact h2)
 have hpb := h3.lt
 refine hK u' eQ ⟨ps.set a s', fun j b => Qs j b /\ b < u.size ∨ j = a /\ v4.size <= b /\ b < v5.size, by simp [h1], .inl h2, ?_, fun j b hb => ?_, fun j j' b hb hb' => ?_, fun j s2 ys hj hy => ?_⟩
 ·rw [List.map_set]; exact hb'
 ·rcases hb with hb | hb
  ·exact ⟨.inl (h4 j b hb.1).1, (h4 j b hb.1).2⟩
  ·exact ⟨.inr (by omega), by omega⟩
 ·rcases hb with hb | hb <;> rcases hb' with hb' | hb'
  ·exact h5 j j' b hb.1 hb'.1
  ·omega
  ·omega
  ·omega
 ·by_cases hja : j = a
  ·subst hja
   rw [List.getElem?_set_self (by omega)] at hj
   rw [List.getElem?_set_self hlt] at hy
   cases hj; cases hy
   have := (RowO.loc _ _ _).keep ((RowO.loc _ _ _).cut hr5) e6 fun b _ hb hx => by
    rcases hb.1 with h7 | h7
    ·exact (h4 j b h7.1).2 hx
    ·omega
   have e7 : intsI (xs ++ [y]) = intsI xs ++ [.int .i64 y] := by simp [intsI]
   rw [e7]
   refine (RowO.loc _ _ _).mono this fun b _ hb => ?_
   rcases hb.1 with h7 | h7
   ·exact .inl h7
   ·exact .inr ⟨rfl, h7, hb.2⟩
  ·rw [List.getElem?_set_ne (Ne.symm hja)] at hj hy
   have := (RowO.loc _ _ _).cut (h6 j s2 ys hj hy)
   have := (RowO.loc _ _ _).keep ((RowO.loc _ _ _).keep ((RowO.loc _ _ _).keep0 this e) e5 fun b _ hb hx => hja (h5 j a b hb.1 hx.1)) e6 fun b _ hb hx => (h4 j b hb.1).2 hx
   exact (RowO.loc _ _ _).mono this fun b _ hb => .inl hb
theorem PtR.get (h : PtR pb parts u Q) {a m : Nat} (hm : m = parts.length) (ha : parts[a]? = some xs) {K : Sl -> Prop} (hK : ∀ s, RowO s 1 (intsI xs) u Q -> s.len = xs.length -> K s) : Ix (some ⟨pb, 0, none⟩) m (a : Int) 1 fun a1 => LdS a1 u K := by
 obtain ⟨ps, Qs, h1, h2, h3, h4, h5, h6⟩ := h
 have hlt := (List.getElem?_eq_some_iff.1 ha).1
 have hps : ps[a]? = some (ps[a]'(by omega)) := List.getElem?_eq_getElem _
 generalize (ps[a]'(by omega)) = s at hps
 have hrow := h6 a s xs hps ha
 refine ix (by omega) (by omega) ?_
 rw [add_lit, show 0 + (a : Int).toNat * 1 = a by omega]
 refine h3.rS0 (a := s.a) (n := s.len) (c := s.cap) (by simp [hps, sV]) (hK s ((RowO.loc _ _ _).mono hrow fun b _ hb => (h4 a b hb).1) ?_)
 have := hrow.1; simp [intsI] at this; omega
theorem ownerH_lt {ars : List AR} {x : Int} (h : 0 <= ownerH ars x) : (ownerH ars x).toNat < ars.length /\ ownerH ars x = ((ownerH ars x).toNat : Int) := by
 refine ⟨?_, by omega⟩
 unfold ownerH at *
 split at h
 ·omega
 ·rename_i hx
  rw [if_neg hx]
  split at h
  ·rename_i i hi
   have := (List.findIdx?_eq_some_iff_findIdx_eq.1 hi).1
   simp only [Int.toNat_natCast]; exact this
  ·omega
theorem part_snoc {ars : List AR} {x : Int} {xs : List Int} (h : 0 <= ownerH ars x) : ((List.range ars.length).map (partH ars xs)).set (ownerH ars x).toNat (partH ars xs (ownerH ars x).toNat ++ [x]) = (List.range ars.length).map (partH ars (xs ++ [x])) := by
 have hl := ownerH_lt h
 apply List.ext_getElem?
 intro j
 by_cases hj : j < ars.length
 ·by_cases e : (ownerH ars x).toNat = j
  ·subst e
   rw [List.getElem?_set_self (by simpa using hj)]
   simp only [List.getElem?_map, List.getElem?_range hj, Option.map_some, partH, List.filter_append]
   congr 2
   rw [List.filter_cons_of_pos (by rw [← hl.2]; simp)]
   rfl
  ·rw [List.getElem?_set_ne e]
   simp only [List.getElem?_map, List.getElem?_range hj, Option.map_some, partH, List.filter_append]
   have : List.filter (fun y => ownerH ars y == (j : Int)) [x] = [] := by
    rw [List.filter_cons_of_neg (by simp only [beq_iff_eq]; omega)]; rfl
   rw [this, List.append_nil]
 ·rw [List.getElem?_eq_none (by simp; omega), List.getElem?_eq_none (by simp; omega)]
theorem jnB_p {K : Bool -> Hp -> Prop} {body : (Bool -> Hp -> Prop) -> Prop} (P : Bool -> Hp -> Prop) (h1 : ∀ r w, P r w -> K r w) (h2 : ∀ J : Bool -> Hp -> Prop, (∀ r w, P r w -> J r w) -> body J) : JnB K body := JnB.intro (h2 K h1)
theorem jnP2c {K : Fam [.b]} {body : Fam [.b] -> Prop} (P : Bool -> Hp -> Prop) (h1 : ∀ r w, P r w -> K r w) (h2 : ∀ J : Fam [.b], (∀ r w, P r w -> J r w) -> body J) : Jn [.b] K body := Jn.intro (h2 K h1)
theorem jn0_p {K : Fam []} {body : Fam [] -> Prop} (P : Hp -> Prop) (h1 : ∀ w, P w -> K w) (h2 : ∀ J : Fam [], (∀ w, P w -> J w) -> body J) : Jn [] K body := Jn.intro (h2 K h1)
theorem toCens_snoc {H : Hw} {k : Nat} {part : Nat -> List Int} (j : Nat) : toCens H k part (List.range (j + 1)) = (match (toCens H k part (List.range j)).ars[j]? with
 | some A => if part j = [] then toCens H k part (List.range j) else (toCens H k part (List.range j)).setA j (toCenS A (k : Int) (part j))
 | none => toCens H k part (List.range j)) := by
 unfold toCens
 rw [List.range_succ, List.foldl_append]
 rfl
theorem toCens_frame {H : Hw} {k : Nat} {part : Nat -> List Int} (j : Nat) : (toCens H k part (List.range j)).ars.length = H.ars.length := by
 induction j with
 | zero => rfl
 | succ j ih =>
  rw [toCens_snoc]
  split
  ·split
   ·exact ih
   ·simp [Hw.setA, ih]
  ·exact ih
theorem toCens_ths {H : Hw} {k : Nat} {part : Nat -> List Int} (j : Nat) : (toCens H k part (List.range j)).ths = H.ths := by
 induction j with
 | zero => rfl
 | succ j ih =>
  rw [toCens_snoc]
  split
  ·split <;> exact ih
  ·exact ih
theorem backH_ths (H : Hw) (own k : Nat) (xs : List Int) : (backH H own k xs).ths = H.ths := by
 unfold backH
 split
 ·split
  ·rfl
  ·rw [toCens_ths]; split <;> rfl
 ·rfl
def BkI (F : Rg) (σ : Hp) (L : LayH) (H : Hw) (pb : Nat) (parts : List (List Int)) (cs : List Value) (w : Hp) : Prop := ∃ Q P : Rg, HK F σ (fun b => b = σ.size ∨ Q b) w P L H /\ PtR pb parts w Q /\ Blk w σ.size cs /\ ∀ b, Q b -> b ≠ σ.size
theorem hback_ok (h : HH σ F L H) {own : Nat} (ho : own < H.ars.length) (k : Nat) {sl : Sl} {xs : List Int} {X : Rg} (hs : SlR sl 1 (intsI xs) σ X) (hX : ∀ b, b < σ.size -> X b -> ¬ F b) (hcap : sl.len <= sl.cap) (hx : ∀ x ∈ xs, I63 x /\ 0 <= ownerH H.ars x) (hl : xs.length <= 1000000) {R : Hp -> Prop}
 (hR : ∀ σ', Ext F σ σ' -> HH σ' (Grow F σ) L (backH H own k xs) -> R σ') : heap_Heap_back.call (some ⟨L.p, 0, none⟩) (own : Int) (k : Int) sl σ R := by
 refine heap_Heap_back.of_vc ?_
 unfold heap_Heap_back.vc
 have hsl : sl.len = xs.length := by have := hs.1; simp [intsI] at this; omega
 have ha2 := h.s.a2
 have hal := h.arowL
 have hs1 : ∀ u, Ext F σ u -> SlR sl 1 (intsI xs) u (fun b => X b /\ b < σ.size) := fun u eu => (SlR.loc _ _ _).keep ((SlR.loc _ _ _).cut hs) eu fun b _ hx hf => hX b hx.2 hx.1 hf
 refine nw (cs := [.int .i64 (k : Int), .slice sl.a sl.len sl.cap]) fun v hz e hb => ?_
 have K1 := (HK.start h).box e hz
 refine nilP (K1.h.hd.rS rfl ?_)
 simp only
 refine mk (n := L.arow.len) (by omega) (by omega) fun v1 hz1 e1 hb1 => ?_
 have K2 := K1.box e1 hz1
 have hb2 := e1.blk hb id
 have hP : PtR v.size ((List.range H.ars.length).map (partH H.ars [])) v1 (fun b => b = v.size) := by
  refine ⟨List.replicate H.ars.length ⟨none, 0, 0⟩, fun _ _ => False, by simp, rfl, ?_, fun j b hb => hb.elim, fun j j' b hb => hb.elim, fun j s ys h1 h2 => ?_⟩
  ·have : (List.replicate L.arow.len [Value.slice none 0 0]).flatten = (List.replicate H.ars.length (⟨none, 0, 0⟩ : Sl)).map sV := by
    rw [hal]; simp [sV]
   rw [← this]; exact hb1
  ·simp only [List.getElem?_map, Option.map_eq_some_iff] at h2
   obtain ⟨a, _, rfl⟩ := h2
   simp only [List.getElem?_replicate] at h1
   split at h1
   ·cases h1; exact RowO.nil _ _ _ _
   ·cases h1
 have hpl : ∀ ys : List Int, L.arow.len = ((List.range H.ars.length).map (partH H.ars ys)).length := fun ys => by simp [hal]
 refine hb2.rS rfl ?_
 refine loop1 (a := .i .i64) (fun (z : Int) w => ∃ i : Nat, z = (i : Int) /\ i <= xs.length /\ BkI F σ L H v.size ((List.range H.ars.length).map (partH H.ars (xs.take i))) [.int .i64 (k : Int), .slice sl.a sl.len sl.cap] w) (fun z _ => xs.length - z.toNat)
  ⟨0, rfl, by omega, fun b => b = v.size, _, ⟨K2.h, K2.e, fun b hb => ⟨(K2.p b hb).1, fun hx => (K2.p b hb).2.1 (hx.imp .inr id), (K2.p b hb).2.2⟩, fun b hb => K2.b b (hb.imp .inr id), K2.o⟩, hP, hb2, fun b hb => by omega⟩ ?_
 rintro z w ⟨i, rfl, hi, Q, P, K, hP, hbw, hQ⟩
 refine ifD (fun hlt => ?_) fun hge => ?_
 ·simp only at hlt
  have hi' : i < xs.length := by omega
  have hxi : xs[i]? = some xs[i] := List.getElem?_eq_getElem hi'
  generalize xs[i] = y at hxi
  have hy := hx y (List.mem_of_getElem? hxi)
  refine (hs1 w K.e).ixI hxi (howner_ok K.h y hy.1 fun w1 e1 => ?_)
  have hlt := ownerH_lt hy.2
  rw [hlt.2]
  have hP1 : PtR v.size _ w1 (fun b => Q b /\ b < w.size) := (PtR.loc _ _).keep0 ((PtR.loc _ _).cut hP) e1
  have hpart : ((List.range H.ars.length).map (partH H.ars (xs.take i)))[(ownerH H.ars y).toNat]? = some (partH H.ars (xs.take i) (ownerH H.ars y).toNat) := by
   simp only [List.getElem?_map, List.getElem?_range hlt.1, Option.map_some]
  have hpl1 : (partH H.ars (xs.take i) (ownerH H.ars y).toNat).length <= 1000000 := by
   have := List.length_filter_le (fun x => ownerH H.ars x == (((ownerH H.ars y).toNat : Nat) : Int)) (xs.take i)
   simp only [partH]
   rw [List.length_take] at this; omega
  refine hP1.add (hpl _) hpart y hpl1 fun w2 e2 hP2 => ?_
  rw [part_snoc hy.2] at hP2
  have ht : xs.take i ++ [y] = xs.take (i + 1) := by rw [List.take_add_one, hxi]; rfl
  rw [ht] at hP2
  have hz1 := e1.1
  have hz2 := e2.1
  refine arN (m := i + 1) (by omega) (by omega) ⟨⟨i + 1, rfl, by omega, fun b => (Q b /\ b < w.size) ∨ w1.size <= b /\ b < w2.size, P, (K.fr e1).ownE (e2.sub fun b hb => .inr hb.1) fun b hb => ?_, (PtR.loc _ _).mono hP2 fun b hb hq => ?_, ?_, fun b hb => ?_⟩, by omega⟩
  ·rcases hb with hb | hb | hb
   ·exact .inl (.inl hb)
   ·exact .inl (.inr hb.1)
   ·exact .inr hb
  ·rcases hq with hq | hq
   ·exact .inl hq
   ·exact .inr ⟨hq, hb⟩
  ·exact e2.blk (e1.blk hbw id) fun hx => hQ _ hx.1 rfl
  ·have := (K.b σ.size (.inl rfl)).2
   rcases hb with hb | hb
   ·exact hQ b hb.1
   ·omega
 ·have hii : i = xs.length := by simp only at hge; omega
  subst hii
  rw [List.take_length] at hP
  obtain ⟨A, hA⟩ : ∃ A, H.ars[own]? = some A := ⟨_, List.getElem?_eq_getElem ho⟩
  obtain ⟨Y, hY, _, _⟩ := h.ar hA
  have hbk : backH H own k xs = (if (partH H.ars xs own).length = xs.length /\ toTrV A (k : Int) xs = true then H.setA own (toTrS A (k : Int) xs)
   else toCens (if (partH H.ars xs own).length = xs.length then H.setA own (toTrS A (k : Int) xs) else H) k (partH H.ars xs) (List.range H.ars.length)) := by
   unfold backH; rw [hA]
  have hown : ((List.range H.ars.length).map (partH H.ars xs))[own]? = some (partH H.ars xs own) := by
   simp only [List.getElem?_map, List.getElem?_range ho, Option.map_some]
  refine jn0_p (fun w => ¬ ((partH H.ars xs own).length = xs.length /\ toTrV A (k : Int) xs = true) /\ BkI F σ L (if (partH H.ars xs own).length = xs.length then H.setA own (toTrS A (k : Int) xs) else H) v.size ((List.range H.ars.length).map (partH H.ars xs)) [.int .i64 (k : Int), .slice sl.a sl.len sl.cap] w) (fun w hw => ?_) fun J hJ => ?_
  ·obtain ⟨hno, hw⟩ := hw
   rw [if_neg hno] at hbk
   generalize hH1 : (if (partH H.ars xs own).length = xs.length then H.setA own (toTrS A (k : Int) xs) else H) = H1 at hw hbk
   have hH1l : H1.ars.length = H.ars.length := by
    rw [← hH1]; split
    ·simp [Hw.setA]
    ·rfl
   refine loop1 (a := .i .i64) (fun (z : Int) w => ∃ j : Nat, z = (j : Int) /\ j <= H.ars.length /\ BkI F σ L (toCens H1 k (partH H.ars xs) (List.range j)) v.size ((List.range H.ars.length).map (partH H.ars xs)) [.int .i64 (k : Int), .slice sl.a sl.len sl.cap] w) (fun z _ => H.ars.length - z.toNat) ⟨0, rfl, by omega, hw⟩ ?_
   rintro z w ⟨j, rfl, hj, Q, P, K, hP, hbw, hQ⟩
   refine ifD (fun hlt => ?_) fun hge => ?_
   ·simp only at hlt
    have hj' : j < H.ars.length := by omega
    have hpj : ((List.range H.ars.length).map (partH H.ars xs))[j]? = some (partH H.ars xs j) := by
     simp only [List.getElem?_map, List.getElem?_range hj', Option.map_some]
    refine hP.get (hpl _) hpj fun s hrow hsl' => ?_
    have hfl := toCens_frame (H := H1) (k := k) (part := partH H.ars xs) j
    obtain ⟨B, hB⟩ : ∃ B, (toCens H1 k (partH H.ars xs) (List.range j)).ars[j]? = some B := ⟨_, List.getElem?_eq_getElem (by omega)⟩
    have hsn := toCens_snoc (H := H1) (k := k) (part := partH H.ars xs) j
    rw [hB] at hsn
    simp only at hsn
    refine ifD (fun hpos => ?_) fun hz0 => ?_
    ·have hne : partH H.ars xs j ≠ [] := fun e => by rw [e] at hsl'; simp at hsl'; omega
     rw [if_neg hne] at hsn
     obtain ⟨Y, hY, _, _⟩ := K.h.ar hB
     refine nilP (K.h.hd.rS rfl (K.h.rA hY (hbw.rI rfl ?_)))
     refine hToCentral_ok K.h hB hY (k : Int) (RowO.slR hrow) (fun b _ hq hp => (K.p b hp).2.1 (.inr hq)) (fun x hx' => (hx x (List.mem_filter.1 hx').1).1) ?_ (RowO.cap hrow) fun w1 e1 h1 => ?_
     ·have := List.length_filter_le (fun x => ownerH H.ars x == (j : Int)) xs
      simp only [partH]; omega
     ·have hz1 := e1.1
      rw [← hsn] at h1
      refine arN (m := j + 1) (by omega) (by omega) ⟨⟨j + 1, rfl, by omega, Q, _, K.to e1 h1 fun b _ hb => hb, (PtR.loc _ _).keep hP e1 fun b _ hq hp => (K.p b hp).2.1 (.inr hq), K.keepB e1 hbw (.inl rfl), hQ⟩, by omega⟩
    ·have hne : partH H.ars xs j = [] := List.eq_nil_of_length_eq_zero (by omega)
     rw [if_pos hne] at hsn
     refine arN (m := j + 1) (by omega) (by omega) ⟨⟨j + 1, rfl, by omega, Q, P, by rw [hsn]; exact K, hP, hbw, hQ⟩, by omega⟩
   ·have hjj : j = H.ars.length := by simp only at hge; omega
    subst hjj
    rw [hbk] at hR
    exact hR w K.e (K.fin h)
  ·refine hP.get (hpl _) hown fun s hrow hsl' => hbw.rS rfl ?_
   refine iff_ (fun heq => ?_) fun hne => ?_
   ·have heq' : (partH H.ars xs own).length = xs.length := by simp only [beq_iff_eq] at heq; omega
    rw [if_pos heq'] at hbk hJ
    have hS : AtH (fun u => (∃ P' H', HH u P' L H' /\ H'.tb = H.tb) /\ Blk u σ.size [.int .i64 (k : Int), .slice sl.a sl.len sl.cap]) L H.tb := fun m hm => by
     obtain ⟨⟨P', H', h1, h2⟩, _⟩ := hm
     exact ⟨P', L.ts, H', h1, h2⟩
    refine ⟨fun u => (∃ P' H', HH u P' L H' /\ H'.tb = H.tb) /\ Blk u σ.size [.int .i64 (k : Int), .slice sl.a sl.len sl.cap], ⟨⟨_, _, K.h, rfl⟩, hbw⟩, nilP (hS.arow (hS.rA K.h hY ?_))⟩
    refine ⟨(k : Int), fun m hm => by rw [add_lit, hm.2.cell]; rfl, ⟨sl, fun m hm => by rw [add_lit, hm.2.cell]; rfl, ?_⟩⟩
    refine hToTransfer_ok K.h hA hY (k : Int) (hs1 w K.e) (fun x hx' => (hx x hx').1) fun w1 e1 h1 => ?_
    have K1 := K.to e1 h1 fun b _ hb => hb
    refine ⟨⟨⟨_, _, h1, rfl⟩, K.keepB e1 hbw (.inl rfl)⟩, ?_⟩
    have fin : ∀ r, r = toTrV A (k : Int) xs -> ((r = true -> R w1) /\ (r = false -> J w1)) := fun r hr => by
     refine ⟨fun hr1 => ?_, fun hr1 => hJ w1 ⟨fun hx => Bool.noConfusion ((hr1.symm.trans hr).trans hx.2), Q, _, K1, (PtR.loc _ _).keep hP e1 fun b _ hq hp => (K.p b hp).2.1 (.inr hq), K.keepB e1 hbw (.inl rfl), hQ⟩⟩
     rw [if_pos ⟨heq', by rw [← hr, hr1]⟩] at hbk
     rw [hbk] at hR
     exact hR w1 K1.e (K1.fin h)
    refine jnB_p (fun r w => w = w1 /\ r = toTrV A (k : Int) xs) (fun r w' ⟨hw, hr⟩ => ?_) fun J3 hJ3 => ?_
    ·subst hw
     exact iff_ (fun h1 => (fin r hr).1 h1) fun h1 => (fin r hr).2 h1
    ·refine iff_ (fun h1 => hJ3 _ _ ⟨rfl, ?_⟩) fun h1 => hJ3 _ _ ⟨rfl, h1.symm⟩
     have : toTrE A (k : Int) xs = 0 := by
      unfold toTrV at h1
      simp only [Bool.and_eq_true, decide_eq_true_eq] at h1
      exact h1.1
     rw [this, h1]; rfl
   ·have hne' : ¬ (partH H.ars xs own).length = xs.length := by
     simp only [beq_eq_false_iff_ne] at hne; omega
    rw [if_neg hne'] at hJ
    exact hJ w ⟨fun hx => hne' hx.1, Q, P, K, hP, hbw, hQ⟩
theorem ret2 {w : Hp} (K : HK F σ B w P L H) (hB : B n) {p q : Int} (hb : Blk w n [.int .i64 p, .int .i64 q]) {x y : Int} {K' : Int -> Int -> Hp -> Prop} (hK : ∀ w', HK F σ B w' P L H -> K' x y w') :
 St1 (Addr.add ⟨n, 0, none⟩ 0) (.int .i64 x) w fun v3 => St1 (Addr.add ⟨n, 0, none⟩ 1) (.int .i64 y) v3 fun v4 => LdI .i64 (Addr.add ⟨n, 0, none⟩ 0) v4 fun res => LdI .i64 (Addr.add ⟨n, 0, none⟩ 1) v4 fun res1 => K' res res1 v4 :=
 hb.s1 (by simp) fun v3 o3 b3 => b3.s1 (by simp) fun v4 o4 b4 => b4.rI rfl (b4.rI rfl (hK v4 ((K.own o3 hB).own o4 hB)))
theorem hfind_ok (h : HH σ F L H) (ht : t < H.ths.length) (x : Int) (hx : I63 x) (hr : mget H.live x = none -> ∀ A ∈ H.ars, RunsOk A) (hlen : ∀ g, H.ths[t]? = some g -> g.hands.length <= 1000) (h0 : ∀ b, mget H.live x = some b -> 0 <= x) {R : Value -> Int -> Int -> Hp -> Prop}
 (hR : ∀ σ' ts', Ext F σ σ' -> HH σ' (Grow F σ) { L with ts := ts' } (findH H t x).1 -> R (phV (findH H t x).2.1) (findH H t x).2.2.1 (findH H t x).2.2.2 σ') : heap_Heap_find.call (some ⟨L.p, 0, none⟩) (t : Int) x σ R := by
 refine heap_Heap_find.of_vc ?_
 unfold heap_Heap_find.vc
 refine nw (cs := [.int .i64 0, .int .i64 0]) fun v hz e hb => ?_
 have K1 := (HK.start h).box e hz
 refine nilP (K1.h.hd.rM rfl ⟨_, K1.h.liveM, ?_⟩)
 refine nw (cs := [.int .i64 0, .int .i64 0, .int .i64 0, .int .i64 0]) fun v1 hz1 e1 hb1 => ?_
 have K2 := K1.box e1 hz1
 have hbv := e1.blk hb id
 have hne : σ.size ≠ v.size := by omega
 refine hb1.s1 (by simp) fun v2 o2 b2 => b2.s1 (by simp) fun v3 o3 b3 => b3.s1 (by simp) fun v4 o4 b4 => b4.s1 (by simp) fun v5 o5 b5 => ?_
 have K5 := (((K2.own o2 (.inr rfl)).own o3 (.inr rfl)).own o4 (.inr rfl)).own o5 (.inr rfl)
 have hb5 := only_blk o5 (only_blk o4 (only_blk o3 (only_blk o2 hbv hne) hne) hne) hne
 have hL : L = { L with ts := L.ts } := rfl
 cases hm : mget H.live x with
 | none =>
  have hno : findH H t x = (H, none, 0, whyH H x) := by unfold findH; rw [hm]
  rw [hno] at hR
  simp only at hR
  refine ifT rfl ?_
  refine jn0_p (fun w => whyH H x = 8 /\ Ext0 v5 w) (fun w ⟨h8, ew⟩ => ?_) fun J hJ => ?_
  ·rw [h8] at hR
   exact ret2 (n := σ.size) (K5.fr ew) (.inl (.inr rfl)) (ew.blk hb5 id) fun w' K' => hR w' L.ts K'.e (K'.fin h)
  ·refine howner_ok K5.h x hx fun v9 e9 => ?_
   have K9 := K5.fr e9
   have hb9 := e9.blk hb5 id
   refine ifD (fun hge => ?_) fun hlt => hJ v9 ⟨if_neg (by omega), e9⟩
   have hol := ownerH_lt hge
   obtain ⟨A, hA⟩ : ∃ A, H.ars[(ownerH H.ars x).toNat]? = some A := ⟨_, List.getElem?_eq_getElem hol.1⟩
   obtain ⟨Y, hY, _, hAY⟩ := K9.h.ar hA
   have hw0 : whyH H x = (match findA A x with
    | some (k, y) => if 0 <= k /\ (y : Int) = x then (9 : Int) else 8
    | none => 8) := by unfold whyH; rw [if_pos hge, hA]; rfl
   rw [hol.2]
   refine nilP (K9.h.hd.rS rfl (K9.h.rA hY ?_))
   refine Find_ok hAY (hr hm A (List.mem_of_getElem? hA)) x hx (fun v10 k y e10 hf => ?_) fun v10 e10 hf => ?_
   ·rw [hf] at hw0
    simp only at hw0
    rw [hw0] at hR hJ
    have K10 := K9.fr e10
    have hb10 := e10.blk hb9 id
    refine jnB_p (fun r w => w = v10 /\ r = decide (0 <= k)) (fun r w ⟨hw, hrk⟩ => ?_) fun J1 hJ1 => ?_
    ·subst hw; subst hrk
     refine jnB_p (fun r w2 => w2 = w /\ r = decide (0 <= k /\ (y : Int) = x)) (fun r w2 ⟨hw, hrk⟩ => ?_) fun J2 hJ2 => ?_
     ·subst hrk; rw [hw]
      refine ifD (fun hc => ?_) fun hc => ?_
      ·rw [if_pos hc] at hR
       exact ret2 (n := σ.size) K10 (.inl (.inr rfl)) hb10 fun w' K' => hR w' L.ts K'.e (K'.fin h)
      ·exact hJ w ⟨if_neg hc, e9.trans e10⟩
     ·refine ifD (fun hc => hJ2 _ _ ⟨rfl, ?_⟩) fun hc => hJ2 _ _ ⟨rfl, ?_⟩
      ·by_cases hyx : (y : Int) = x
       ·rw [decide_eq_true (⟨hc, hyx⟩ : 0 <= k /\ (y : Int) = x), beq_iff_eq.2 hyx]
       ·rw [decide_eq_false (fun hx => hyx hx.2), beq_eq_false_iff_ne.2 hyx]
      ·rw [decide_eq_false (fun hx => hc hx.1)]
    ·exact ifT rfl (hJ1 _ _ ⟨rfl, rfl⟩)
   ·rw [hf] at hw0
    simp only at hw0
    rw [hw0] at hJ
    refine jnB_p (fun r w => w = v10 /\ r = false) (fun r w ⟨hw, hrk⟩ => ?_) fun J1 hJ1 => ifF rfl (hJ1 _ _ ⟨rfl, rfl⟩)
    subst hw; subst hrk
    exact JnB.intro (ifF rfl (ifF rfl (hJ w ⟨rfl, e9.trans e10⟩)))
 | some b =>
  have hb0 := h0 b hm
  have hfd : findH H t x = (if b.2.2.1 < 0 then ({ H with live := mdel H.live x }, some (.give (x / 256) b.2.2.2), 0, 0)
   else (holdH { H with live := mdel H.live x } t b.2.2.1.toNat [x], some (.put b.2.2.1.toNat x), 0, 0)) := by unfold findH; rw [hm]
  rw [hfd] at hR
  have hgb : (mget H.live x).getD ((0, 0, 0, 0) : Bk) = b := by rw [hm]; rfl
  rw [hgb] at b5
  refine ifF rfl ?_
  refine nilP (K5.h.hd.rM rfl ?_)
  obtain ⟨hF, hput⟩ := K5.h.stepL
  refine ⟨_, K5.h.liveM, fun v6 o6 _ hm6 => ?_⟩
  obtain ⟨e6, h6⟩ := hput v6 _ (o6 _ rfl) hm6
  have K6 := K5.to e6 h6 fun b _ hb => .inl hb
  have hb6 := K5.keepB e6 hb5 (.inl (.inr rfl))
  have hc6 := K5.keepB e6 b5 (.inr rfl)
  refine hc6.rI rfl (ifD (fun hneg => ?_) fun hnn => ?_)
  ·have hneg' : b.2.2.1 < 0 := hneg
   rw [if_pos hneg'] at hR
   refine nz (by decide) (ar (by rw [tdiv_nn (by omega)]; omega) (by rw [tdiv_nn (by omega)]; unfold I63 at hx; omega) (hc6.rI rfl ?_))
   rw [tdiv_nn (by omega)]
   exact ret2 (n := σ.size) K6 (.inl (.inr rfl)) hb6 fun w' K' => hR w' L.ts K'.e (K'.fin h)
  ·have hnn' : ¬ b.2.2.1 < 0 := hnn
   rw [if_neg hnn'] at hR
   refine hc6.rI rfl (nw (cs := [.int .i64 x]) fun v7 hz7 e7 hb7 => ?_)
   have K7 := K6.box e7 hz7
   have hb7' := e7.blk hb6 id
   have hc7 := e7.blk hc6 id
   have hkk : b.2.2.1 = ((b.2.2.1.toNat : Nat) : Int) := by omega
   have hs7 : SlR ⟨some ⟨v6.size, 0, none⟩, 1, 1⟩ 1 (intsI [x]) v7 (· = v6.size) := hb7.slR (o := 0) rfl rfl fun j hj => by rw [Nat.zero_add]; rfl
   have hz6 := K6.e.1
   rw [hkk]
   refine hhold_ok K7.h (t := t) ht b.2.2.1.toNat hs7 (Nat.le_refl _) (by simp) (fun q _ hq hp => (K7.p q hp).2.1 (.inr hq)) (K7.o.1.sub fun q hq => by omega) (fun hq => K7.o.2 (by omega)) hlen fun v8 ts8 e8 h8 => ?_
   have K8 := (K6.fr e7).toX e8 h8 fun q hql hq => by
    rcases hq with hq | hq
    ·exact hq.imp id .inl
    ·refine .inr (.inr ⟨.inr (by omega), fun hB => ?_⟩)
     have := (K6.b q hB).2; omega
   have hb8 := K7.keepB e8 hb7' (.inl (.inl (.inr rfl)))
   have hc8 := K7.keepB e8 hc7 (.inl (.inr rfl))
   refine hc8.rI (x := ((b.2.2.1.toNat : Nat) : Int)) (by rw [← hkk]; rfl) ?_
   exact ret2 (n := σ.size) K8 (.inl (.inr rfl)) hb8 fun w' K' => hR w' ts8 K'.e (K'.fin h)
end Go.Ar
namespace Go.Ar
open Go Go.Vc Go.Proofs


variable {σ u u' : Hp} {F B P Q : Rg} {L : LayH} {H H' : Hw} {t k n pb : Nat} {A : AR} {Y : Lay} {x : LayT} {g : Th} {c : Cls} {l : Li} {cs : List Value}
theorem nx0 {t' t : TypeId} {w : Value} {A B : Prop} (hne : t' ≠ t) (h : B) : ∃ is : Bool, AsB (.iface t' w) t [] [] is /\ If is A B := ⟨false, ⟨rfl, .inr ⟨_, _, rfl, hne⟩⟩, ifF rfl h⟩
theorem nx1 {t' t : TypeId} {w : Value} {A B : Int -> Prop} (hne : t' ≠ t) (h : B 0) : ∃ x : Int, ∃ is : Bool, AsB (.iface t' w) t [.int .i64 x] [.int .i64 0] is /\ If is (A x) (B x) := ⟨0, false, ⟨rfl, .inr ⟨_, _, rfl, hne⟩⟩, ifF rfl h⟩
theorem nx2 {t' t : TypeId} {w : Value} {A B : Int -> Int -> Prop} (hne : t' ≠ t) (h : B 0 0) : ∃ x : Int, ∃ y : Int, ∃ is : Bool, AsB (.iface t' w) t [.int .i64 x, .int .i64 y] [.int .i64 0, .int .i64 0] is /\ If is (A x y) (B x y) := ⟨0, 0, false, ⟨rfl, .inr ⟨_, _, rfl, hne⟩⟩, ifF rfl h⟩
theorem ye0 {t : TypeId} {A B : Prop} (h : A) : ∃ is : Bool, AsB (.iface t (.agg #[])) t [] [] is /\ If is A B := ⟨true, rfl, ifT rfl h⟩
theorem ye1 {t : TypeId} {a : Int} {A B : Int -> Prop} (h : A a) : ∃ x : Int, ∃ is : Bool, AsB (.iface t (.agg #[.int .i64 a])) t [.int .i64 x] [.int .i64 0] is /\ If is (A x) (B x) := ⟨a, true, rfl, ifT rfl h⟩
theorem ye2 {t : TypeId} {a b : Int} {A B : Int -> Int -> Prop} (h : A a b) : ∃ x : Int, ∃ y : Int, ∃ is : Bool, AsB (.iface t (.agg #[.int .i64 a, .int .i64 b])) t [.int .i64 x, .int .i64 y] [.int .i64 0, .int .i64 0] is /\ If is (A x y) (B x y) := ⟨a, b, true, rfl, ifT rfl h⟩
theorem HH.tc (h : HH u P L H) (hx : L.ts[t]? = some x) (hg : H.ths[t]? = some g) {b o : Nat} (ha : L.trow.a = some ⟨b, o, none⟩) {d : Nat} (hd : d < 3) {v : Value} (hv : (thV (x, g))[d]? = some v) : cell u (Addr.add ⟨b, o + 3 * t, none⟩ d) = some v := by
 obtain ⟨b', o', ha', hc⟩ := tr_cell h.trowS hx hg hd hv
 rw [ha] at ha'; cases ha'
 rw [add_lit, show o + 3 * t + d = o + (3 * t + d) by omega]; exact hc
theorem HH.stN (h : HH u P L H) (hP : ∀ b, P b -> b < u.size) (hx : L.ts[t]? = some x) (hg : H.ths[t]? = some g) (N : Rg) (hN : ∀ b, b < u.size -> P b -> ¬ N b) (oN : Off N) (oN2 : ¬ N 1) :
 ∃ G D : Rg, (∀ b, G b -> P b) /\ (∀ b, D b -> P b) /\ (∀ b, G b -> ¬ D b) /\ BtR x.h g.hands u G /\ (∀ u1, Ext G u u1 -> SlR L.trow 3 (trV L.ts H.ths) u1 D) ∧
 ∀ (u1 : Hp) (s : Sl) (bs : List Bt) (G' : Rg), Ext G u u1 -> (∀ b, G' b -> G b ∨ N b) -> BtR s bs u1 G' -> ∀ {b o : Nat} (ha : L.trow.a = some ⟨b, o, none⟩) {K : Hp -> Prop},
  (∀ u2, Ext D u1 u2 -> HH u2 (fun b => P b /\ ¬ G b ∨ G' b /\ b < u1.size) { L with ts := L.ts.set t { x with h := s } } { H with ths := H.ths.set t { g with hands := bs } } -> K u2) →
  St1 (Addr.add ⟨b, o + 3 * t, none⟩ 1) (.slice s.a s.len s.cap) u1 K := by
 have hl := h.trowL
 have htl := trV_len h.s.ts
 have hlt := (List.getElem?_eq_some_iff.1 hg).1
 obtain ⟨G, D, hG, hD, hd, hB, hr, _, hput⟩ := h.stepN hx hg N hN oN oN2
 have hr' : ∀ u1, Ext G u u1 -> RowR L.trow 3 (trV L.ts H.ths) u1 D := fun u1 e => (RowR.loc _ _ _).keep hr e fun b _ hb hx => hd b hx hb
 refine ⟨G, D, hG, hD, hd, hB, fun u1 e => RowR.slR (hr' u1 e), fun u1 s bs G' e hG' hBs b o ha K hK => ?_⟩
 have ho : o = 0 := by
  rcases hr.2 with ⟨h0, _⟩ | ⟨b', _, _, ha', _⟩
  ·omega
  ·rw [ha] at ha'; cases ha'; rfl
 subst ho
 have hdis : ∀ b, G' b -> ¬ D b := fun b hb hx => by
  rcases hG' b hb with h1 | h1
  ·exact hd b h1 hx
  ·exact hN b (hP b (hD b hx)) (hD b hx) h1
 refine (hr' u1 e).st (j := 3 * t + 1) (by omega) (fun b' hb' => by rw [ha] at hb'; cases hb'; rw [add_lit]; congr 1; omega) fun u2 e2 hr2 => ?_
 have hB2 := (BtR.loc _ _).keep ((BtR.loc _ _).cut hBs) e2 fun b _ hb hx => hdis b hb.1 hx
 obtain ⟨eF, h4⟩ := hput u2 s bs (Cut G' u1) D ((e.sub fun b hb => .inl hb).trans (e2.sub fun b hb => .inr hb)) (fun b hb => (hG' b hb.1).imp .inl id) (fun b hb => .inl (.inr hb)) (fun b hb => hdis b hb.1) hB2 hr2
 refine hK u2 e2 (h4.mono (fun b _ hb => ?_) (fun b (hb : P b /\ ¬ G b ∨ G' b /\ b < u1.size) => ?_) fun (hb : P _ /\ ¬ G _ ∨ G' _ /\ _ < u1.size) => ?_)
 ·rcases hb with hb | hb | hb
  ·exact .inl ⟨hb.1, fun hx => hb.2.2 (.inl hx)⟩
  ·exact .inr hb
  ·exact .inl ⟨hD b hb, fun hx => hd b hx hb⟩
 ·rcases hb with hb | hb
  ·exact h.o b hb.1
  ·exact (hG' b hb.1).elim (fun hx => h.o b (hG b hx)) (oN b)
 ·rcases hb with hb | hb
  ·exact h.o2 hb.1
  ·exact (hG' _ hb.1).elim (fun hx => h.o2 (hG _ hx)) oN2
theorem BtR.uncons {s : Sl} {G : Rg} {xs : List Int} {r : List Bt} (h : BtR s ((k, xs) :: r) u G) : ∃ (so : Sl) (ps : List (Nat × Sl)) (D : Rg), RowO s 2 (btsV ((k, so) :: ps)) u (fun b => G b /\ ¬ D b) /\ SlR so 1 (intsI xs) u (fun b => D b /\ InB so b) /\ so.len <= so.cap /\ BtO ps r u (fun b => D b /\ ¬ InB so b) /\ (∀ b, D b -> G b) /\ Djp ps /\ (∀ x ∈ r, x.2 ≠ []) /\ xs ≠ [] := by
 obtain ⟨ps, D, hrow, hB, hD, hj, hne⟩ := h
 cases ps with
 | nil => have := hB.1; simp at this
 | cons p ps =>
  obtain ⟨k', so⟩ := p
  obtain ⟨e1, hs, hc⟩ := hB.2 0 (k', so) (k, xs) rfl rfl
  simp only at e1 hs hc
  subst e1
  have hj' := List.pairwise_cons.1 hj
  refine ⟨so, ps, D, hrow, hs.inB, hc, ⟨by have := hB.1; simpa using this, fun i p x hp hx => ?_⟩, hD, hj'.2, fun x hx => hne x (List.mem_cons_of_mem _ hx), hne _ List.mem_cons_self⟩
  obtain ⟨a1, a2, a3⟩ := hB.2 (i + 1) p x (by simpa using hp) (by simpa using hx)
  refine ⟨a1, (SlR.loc _ _ _).mono a2.inB fun b _ hb => ⟨hb.1, ?_⟩, a3⟩
  rintro ⟨a, h1, h2⟩
  obtain ⟨a', h3, h4⟩ := hb.2
  exact hj'.1 p (List.mem_of_getElem? hp) a a' h1 h3 (h2.trans h4.symm)
theorem BtR.drop1 {s : Sl} {G : Rg} {b : Bt} {r : List Bt} (h : BtR s (b :: r) u G) : BtR ⟨if s.cap = 1 then s.a else s.a.map (·.add (1 * 2)), s.len - 1, s.cap - 1⟩ r u G := by
 have hl := h.len
 obtain ⟨k, xs⟩ := b
 obtain ⟨so, ps, D, hrow, hs, hc, hB, hD, hj, hne, hx⟩ := h.uncons
 exact ⟨ps, D, hrow.from (lo := 1) (by simp at hl; omega), (BtO.loc _ _).mono hB fun b _ hb => hb.1, hD, hj, hne⟩
theorem bt_rd {s so : Sl} {ps : List (Nat × Sl)} {G : Rg} (h : SlR s 2 (btsV ((k, so) :: ps)) u G) {K : Addr -> Prop} (hK : ∀ a, cell u (Addr.add a 0) = some (.int .i64 (k : Int)) -> cell u (Addr.add a 1) = some (.slice so.a so.len so.cap) -> K a) : Ix s.a s.len 0 2 K := by
 obtain ⟨b, o, ha, hc⟩ := h.cell (j := 0) (v := .int .i64 (k : Int)) rfl
 obtain ⟨b', o', ha', hc'⟩ := h.cell (j := 1) (v := .slice so.a so.len so.cap) rfl
 have hl := h.1
 rw [btsV_len] at hl
 simp only [List.length_cons] at hl
 rw [ha] at ha'; cases ha'
 rw [ha]
 refine ix (by omega) (by omega) ?_
 rw [add_lit]
 exact hK _ (by rw [add_lit]; exact hc) (by rw [add_lit]; exact hc')
theorem BtR.app {s s2 : Sl} {G Q : Rg} {bs bs2 : List Bt} {e : Nat} (h : BtR s bs u G) (h2 : BtR s2 bs2 u Q) (hd : ∀ b, G b -> ¬ Q b) (hl : bs.length + bs2.length <= 1000) {K : Sl -> Hp -> Prop}
 (hK : ∀ s' u', Ext G u u' -> BtR s' (bs ++ bs2) u' (fun b => G b ∨ Q b ∨ u.size <= b) -> K s' u') : App s 2 32 e [.int .i64 0, .slice none 0 0] s2 u K := by
 have l1 := h.len
 have l2 := h2.len
 obtain ⟨ps, D, hrow, hB, hD, hj, hne⟩ := h
 obtain ⟨ps2, D2, hrow2, hB2, hD2, hj2, hne2⟩ := h2
 by_cases h0 : s2.len = 0
 ·have hb0 : bs2 = [] := List.eq_nil_of_length_eq_zero (by omega)
  subst hb0
  refine hrow.app0 h0 (by have : s.len * 32 <= 1000 * 32 := Nat.mul_le_mul (by simp at hl; omega) (by omega)
                          omega) (by simp at hl; omega) fun hr => hK _ u (Ext.refl _ _) ?_
  rw [List.append_nil]
  exact ⟨ps, D, (RowO.loc _ _ _).mono hr fun b _ hb => ⟨.inl hb.1, hb.2⟩, hB, fun b hb => .inl (hD b hb), hj, hne⟩
 ·have e1 : (s.len + s2.len) * 32 <= 1000 * 32 := Nat.mul_le_mul (by omega) (by omega)
  refine ((RowO.loc _ _ _).cut hrow).app (ys := btsV ps2) rfl (by rw [btsV_len]; have := hB2.1; omega) hrow2.slR.rd btsV_one1 (by omega) (by omega) (by omega) fun s' u' _ e' hr => hK s' u' (e'.sub fun b hb => hb.1.1) ?_
  have hz := e'.1
  have hp1 := hB.1
  refine ⟨ps ++ ps2, fun b => D b /\ b < u.size ∨ D2 b /\ b < u.size, ?_, ⟨by simp [hB.1, hB2.1], fun i p x hp hx => ?_⟩, fun b hb => ?_, List.pairwise_append.2 ⟨hj, hj2, fun p hp q hq a a' ha1 ha2 e3 => ?_⟩, fun x hx => (List.mem_append.1 hx).elim (hne x) (hne2 x)⟩
  ·rw [btsV_append]
   refine (RowO.loc _ _ _).mono hr fun b _ hb => ?_
   rcases hb with hb | hb
   ·exact ⟨.inl hb.1.1, fun hx => hx.elim (fun hx => hb.1.2 hx.1) fun hx => hd b hb.1.1 (hD2 b hx.1)⟩
   ·exact ⟨.inr (.inr hb), fun hx => by rcases hx with hx | hx <;> omega⟩
  ·rcases Nat.lt_or_ge i ps.length with hi | hi
   ·rw [List.getElem?_append_left hi] at hp
    rw [List.getElem?_append_left (by omega)] at hx
    obtain ⟨a1, a2, a3⟩ := hB.2 i p x hp hx
    exact ⟨a1, (SlR.loc _ _ _).mono ((SlR.loc _ _ _).keep ((SlR.loc _ _ _).cut a2) e' fun b _ hb hx => hx.1.2 hb.1) fun b _ hb => .inl hb, a3⟩
   ·rw [List.getElem?_append_right hi] at hp
    rw [List.getElem?_append_right (by omega), ← hp1] at hx
    obtain ⟨a1, a2, a3⟩ := hB2.2 _ p x hp hx
    exact ⟨a1, (SlR.loc _ _ _).mono ((SlR.loc _ _ _).keep ((SlR.loc _ _ _).cut a2) e' fun b _ hb hx => hd b hx.1.1 (hD2 b hb.1)) fun b _ hb => .inr hb, a3⟩
  ·rcases hb with hb | hb
   ·exact .inl (hD b hb.1)
   ·exact .inr (.inl (hD2 b hb.1))
  ·obtain ⟨i, hi⟩ := List.getElem?_of_mem hp
   obtain ⟨j, hj⟩ := List.getElem?_of_mem hq
   have hil := (List.getElem?_eq_some_iff.1 hi).1
   have hjl := (List.getElem?_eq_some_iff.1 hj).1
   have hy : bs[i]? = some (bs[i]'(by omega)) := List.getElem?_eq_getElem _
   have hy2 : bs2[j]? = some (bs2[j]'(by have := hB2.1; omega)) := List.getElem?_eq_getElem _
   have b1 := (hB.2 i p _ hi hy).2.1.blk (by simpa [intsI] using hne _ (List.mem_of_getElem? hy)) ⟨a, ha1, rfl⟩
   have b2 := (hB2.2 j q _ hj hy2).2.1.blk (by simpa [intsI] using hne2 _ (List.mem_of_getElem? hy2)) ⟨a', ha2, rfl⟩
   rw [e3] at b1
   exact hd _ (hD _ b1.1) (hD2 _ b2.1)
theorem HK.addB (K : HK F σ B u P L H) {B' : Rg} (h1 : ∀ b, B' b -> σ.size <= b /\ b < u.size /\ ¬ P b) : HK F σ (fun b => B b ∨ B' b) u P L H :=
 ⟨K.h, K.e, fun b hb => ⟨(K.p b hb).1, fun hx => hx.elim (K.p b hb).2.1 fun hy => (h1 b hy).2.2 hb, (K.p b hb).2.2⟩, fun b hb => hb.elim (K.b b) fun hy => ⟨(h1 b hy).1, (h1 b hy).2.1⟩, K.o⟩
theorem setT_eq (hg : H.ths[t]? = some g) (f : Th -> Th) : H.setT t f = { H with ths := H.ths.set t (f g) } := by
 unfold Hw.setT
 rw [modify_set hg]
theorem thr_eq (hg : H.ths[t]? = some g) : H.thr t = g := by unfold Hw.thr; rw [List.getD_eq_getElem?_getD, hg]; rfl
theorem cls_eq (hc : H.tb[k]? = some c) : H.cls k = c := by unfold Hw.cls; rw [List.getD_eq_getElem?_getD, hc]; rfl
theorem li_eq (hl : g.ls[k]? = some l) : g.li k = l := by unfold Th.li; rw [List.getD_eq_getElem?_getD, hl]; rfl
theorem arn_eq (ha : H.ars[H.own t]? = some A) : H.arn t = A := by unfold Hw.arn; rw [List.getD_eq_getElem?_getD, ha]; rfl
theorem own_lt (h : HS L H) (t : Nat) : H.own t < H.ars.length := Nat.mod_lt _ (by have := h.a1; omega)
theorem HH.lsL (h : HH u P L H) (hx : L.ts[t]? = some x) (hg : H.ths[t]? = some g) : g.ls.length = H.tb.length := by
 obtain ⟨G, _, hC, _⟩ := h.stepC hx hg
 exact hC.len
theorem setA_same (ha : H.ars[k]? = some A) : H.setA k A = H := by unfold Hw.setA; rw [set_same ha]
theorem ints_I (l : List Nat) : ints l = intsI (l.map fun (x : Nat) => (x : Int)) := by simp [ints, intsI]
theorem outsF_len (f : Cls -> Li -> List Int × Li) (tb : List Cls) (ls : List Li) : (outsF f tb ls).length <= tb.length := by
 unfold outsF
 exact Nat.le_trans (List.length_filterMap_le _ _) (by simp)
theorem HH.tb40 (h : HH u P L H) : H.tb.length <= 40 := by
 obtain ⟨x, g, hx, hg⟩ := h.th (t := 0) h.s.t1
 obtain ⟨G, _, hC, _⟩ := h.stepC hx hg
 exact hC.tb1
theorem ix0 {s : Sl} {b o : Nat} (ha : s.a = some ⟨b, o, none⟩) (hl : 0 < s.len) {K : Addr -> Prop} (hK : K ⟨b, o + 0, none⟩) : Ix s.a s.len 0 1 K := by
 rw [ha]
 exact ix (Int.le_refl _) (by omega) (by rw [add_lit]; exact hK)
theorem clB_ok {s : Sl} {ps : List (Nat × Sl)} {G : Rg} (h : SlR s 2 (btsV ps) σ G) (hl : s.len <= 1000000) {R : Sl -> Hp -> Prop} (hR : ∀ s' σ', s'.len = s.len -> Ext0 σ σ' -> RowR s' 2 (btsV ps) σ' (fun b => σ.size <= b) -> R s' σ') : slices_Clone_api_Batch_api_Batch.call s σ R := by
 refine slices_Clone_api_Batch_api_Batch.of_vc ?_
 unfold slices_Clone_api_Batch_api_Batch.vc
 exact clone_vc h (by omega) rfl btsV_one1 (by omega) hl hR
def StepP (H : Hw) (t : Nat) : Ph -> Prop
 | .take k => k < H.tb.length /\ ∀ y l, takeL (H.cls k) ((H.thr t).li k) = (some y, l) -> I63 y
 | .transfer k _ => k < H.tb.length /\ (fromTrE (H.arn t) (k : Int) = 0 -> fromTrV (H.arn t) (k : Int) ≠ [])
 | .central _ _ => True
 | .grow _ _ => True
 | .fill => ∃ k x xs r, (H.thr t).hands = (k, x :: xs) :: r /\ k < H.tb.length /\ I63 x /\ ((H.thr t).li k).os.length + xs.length <= 256
 | .large m => takeAV (H.arn t) H.sp (m : Int) 1 <= 1000000
 | .find x => I63 x /\ (mget H.live x = none -> ∀ A ∈ H.ars, RunsOk A) /\ ∀ b, mget H.live x = some b -> 0 <= x
 | .put k _ => k < H.tb.length /\ (H.thr t).hands ≠ []
 | .back => ∃ k xs r, (H.thr t).hands = (k, xs) :: r /\ (∀ x ∈ xs, I63 x /\ 0 <= ownerH H.ars x) /\ xs.length <= 1000000
 | .give _ a => 0 <= a /\ a.toNat < H.ars.length /\ ∀ A ∈ H.ars, ∀ r ∈ A.runs, r.1 <= 1000000
 | .drain => True
def StepR (σ : Hp) (F : Rg) (L : LayH) (o : Out) (R : Value -> Int -> Int -> Hp -> Prop) : Prop := ∀ σ' ts', Ext F σ σ' -> HH σ' (Grow F σ) { L with ts := ts' } o.1 -> R (phV o.2.1) o.2.2.1 o.2.2.2 σ'
end Go.Ar
namespace Go.Ar
open Go Go.Vc Go.Proofs


variable {σ u u' : Hp} {F B P Q : Rg} {L : LayH} {H H' : Hw} {t k n pb : Nat} {A : AR} {Y : Lay} {x : LayT} {g : Th} {c : Cls} {l : Li} {cs : List Value}
set_option maxRecDepth 8000 in
theorem hstep_ok (hso : SortB) (h : HH σ F L H) (ht : t < H.ths.length) (p : Ph) (hp : StepP H t p) (hlen : ∀ g, H.ths[t]? = some g -> g.hands.length <= 900) {R : Value -> Int -> Int -> Hp -> Prop} (hR : StepR σ F L (stepH H t p) R) :
 heap_Heap_step.call (some ⟨L.p, 0, none⟩) (t : Int) (phV (some p)) σ R := by
 refine heap_Heap_step.of_vc ?_
 unfold heap_Heap_step.vc
 have hlen' : ∀ g, H.ths[t]? = some g -> g.hands.length <= 1000 := fun g hg => by have := hlen g hg; omega
 refine nw (cs := [.int .i64 0, .int .i64 0]) fun v hz e hb => ?_
 have K1 := (HK.start h).box e hz
 obtain ⟨x, g, hx, hg⟩ := h.th ht
 have hlen := hlen g hg
 have htg := thr_eq hg
 have hol := own_lt h.s t
 obtain ⟨A, hA⟩ : ∃ A, H.ars[H.own t]? = some A := ⟨_, List.getElem?_eq_getElem hol⟩
 have hAe := arn_eq hA
 obtain ⟨Y, hY, _, _⟩ := h.ar hA
 refine nilP (K1.h.hd.rS rfl ?_)
 refine tr_ix K1.h.trowS K1.h.s.ts hx hg (d := 0) (by omega) rfl fun tb0 to0 ha _ => ?_
 have hS1 : AtH (fun u => u = v) L H.tb := fun m hm => by cases hm; exact ⟨_, L.ts, H, K1.h, rfl⟩
 refine ⟨fun u => u = v, rfl, nilP (hS1.arow (hown_ok K1.h t ⟨rfl, K1.h.rA hY ⟨rfl, ?_⟩⟩))⟩
 refine jn0_p (fun w => ∃ P ts', HK F σ (fun b => False ∨ b = σ.size) w P { L with ts := ts' } (stepH H t p).1 /\ Blk w σ.size [.int .i64 0, .int .i64 0] /\ (stepH H t p).2 = (none, 0, 0)) (fun w ⟨P, ts', K, hbw, hs⟩ => ?_) fun J hJ => ?_
 ·refine ret2 (n := σ.size) K (.inr rfl) hbw fun w' K' => ?_
  have := hR w' ts' K'.e (K'.fin h)
  rw [hs] at this; exact this
 cases p with
 | take k =>
  obtain ⟨hk, hy9⟩ : k < H.tb.length /\ ∀ y l, takeL (H.cls k) ((H.thr t).li k) = (some y, l) -> I63 y := hp
  obtain ⟨c, hc⟩ : ∃ c, H.tb[k]? = some c := ⟨_, List.getElem?_eq_getElem hk⟩
  have hll := h.lsL hx hg
  obtain ⟨l, hl⟩ : ∃ l, g.ls[k]? = some l := ⟨_, List.getElem?_eq_getElem (by rw [hll]; exact hk)⟩
  have hce := cls_eq hc
  have hle := li_eq hl
  rw [hce, htg, hle] at hy9
  refine ye1 (nw (cs := [.int .i64 0]) fun v5 hz5 e5 hb5 => ?_)
  have K5 := K1.box e5 hz5
  refine hb5.s0 (by simp) fun v6 o6 hb6 => ?_
  have K6 := K5.own o6 (.inr rfl)
  have hbv6 := only_blk o6 (e5.blk hb id) (by omega)
  refine ⟨fun u => u = v6, rfl, nilP ⟨some ⟨x.c.p, 0, none⟩, fun u hu => by cases hu; exact K6.h.tc hx hg ha (by omega) rfl, ⟨(k : Int), fun u hu => by cases hu; rw [add_lit, hb6.cell]; rfl, ?_⟩⟩⟩
  refine hTake_ok K6.h hx hg hc hl fun v7 ts7 e7 h7 => ?_
  have K7 := K6.to e7 h7 fun b _ hb => hb
  have hb7 := K6.keepB e7 hb6 (.inr rfl)
  have hbv7 := K6.keepB e7 hbv6 (.inl (.inr rfl))
  cases htk : takeL c l with
  | mk o l' =>
  rw [htk] at h7 K7
  cases o with
  | some y =>
   have hs : stepH H t (.take k) = (bornH (H.setLs t g (g.ls.set k l')) y (c.size : Int) (k : Int), none, y, 0) := by
    simp only [stepH, hce, htg, hle, htk, setT_eq hg]; rfl
   rw [hs] at hR
   have hS2 : AtH (fun u => (∃ P ts H', HH u P { L with ts := ts } H' /\ H'.tb = H.tb) /\ Blk u v.size [.int .i64 (k : Int)]) L H.tb := fun m hm => hm.1
   refine ifT rfl ⟨fun u => (∃ P ts H', HH u P { L with ts := ts } H' /\ H'.tb = H.tb) /\ Blk u v.size [.int .i64 (k : Int)], ⟨⟨_, _, _, K7.h, rfl⟩, hb7⟩, nilP (hS2.tab ⟨(k : Int), fun u hu => by rw [add_lit, hu.2.cell]; rfl, ?_⟩)⟩
   refine AtH.rC (L := { L with ts := ts7 }) (H := H.setLs t g (g.ls.set k l')) hS2 K7.h hc ⟨(k : Int), fun u hu => by rw [add_lit, hu.2.cell]; rfl, ?_⟩
   refine hborn_ok K7.h y (c.size : Int) (k : Int) (hy9 y l' htk) fun v8 e8 h8 => ?_
   have K8 := K7.to e8 h8 fun b _ hb => .inl hb
   refine ⟨⟨⟨_, _, _, h8, rfl⟩, K7.keepB e8 hb7 (.inr rfl)⟩, ?_⟩
   exact ret2 (n := σ.size) K8 (.inl (.inr rfl)) (K7.keepB e8 hbv7 (.inl (.inr rfl))) fun w' K' => hR w' ts7 K'.e (K'.fin h)
  | none =>
   have hs : stepH H t (.take k) = (H.setLs t g (g.ls.set k l'), some (.transfer k (wantL c l')), 0, 0) := by
    simp only [stepH, hce, htg, hle, htk, setT_eq hg]; rfl
   rw [hs] at hR
   have htlt := (List.getElem?_eq_some_iff.1 hg).1
   have hklt := (List.getElem?_eq_some_iff.1 hl).1
   have hg7 : (H.setLs t g (g.ls.set k l')).ths[t]? = some { g with ls := g.ls.set k l' } := by simp [Hw.setLs, htlt]
   obtain ⟨x7, g7, hx7, _⟩ := K7.h.th (t := t) (by simp [Hw.setLs, htlt])
   have hl7 : ({ g with ls := g.ls.set k l' } : Th).ls[k]? = some l' := by simp [hklt]
   refine ifF rfl ⟨fun u => u = v7, rfl, nilP ⟨some ⟨x7.c.p, 0, none⟩, fun u hu => by cases hu; exact K7.h.tc hx7 hg7 ha (by omega) rfl, ⟨(k : Int), fun u hu => by cases hu; rw [add_lit, hb7.cell]; rfl, ?_⟩⟩⟩
   refine hWant_ok K7.h hx7 hg7 hc hl7 fun v8 ts8 e8 h8 => ?_
   have K8 := K7.to e8 h8 fun b _ hb => hb
   refine (K7.keepB e8 hb7 (.inr rfl)).rI rfl ?_
   exact ret2 (n := σ.size) K8 (.inl (.inr rfl)) (K7.keepB e8 hbv7 (.inl (.inr rfl))) fun w' K' => hR w' ts8 K'.e (K'.fin h)
 | transfer k w =>
  obtain ⟨hk, hne0⟩ : k < H.tb.length /\ (fromTrE (H.arn t) (k : Int) = 0 -> fromTrV (H.arn t) (k : Int) ≠ []) := hp
  rw [hAe] at hne0
  obtain ⟨c, hc⟩ : ∃ c, H.tb[k]? = some c := ⟨_, List.getElem?_eq_getElem hk⟩
  have hce := cls_eq hc
  refine nx1 (by decide) (ye2 (nw (cs := [.int .i64 0, .int .i64 0]) fun v5 hz5 e5 hb5 => ?_))
  have K5 := K1.box e5 hz5
  refine hb5.s1 (by simp) fun v5b o5 b5 => b5.s1 (by simp) fun v6 o6 b6 => ?_
  have K6 := (K5.own o5 (.inr rfl)).own o6 (.inr rfl)
  have hne : σ.size ≠ v.size := by omega
  have hbv6 := only_blk o6 (only_blk o5 (e5.blk hb id) hne) hne
  refine jn0_p (fun u => (∃ P', HK F σ (fun b => (False ∨ b = σ.size) ∨ b = v.size) u P' L H) /\ Blk u σ.size [.int .i64 0, .int .i64 0] /\ Blk u v.size [.int .i64 (k : Int), .int .i64 (w : Int)] /\ stepH H t (.transfer k w) = (H, some (.central k w), 0, 0)) (fun u ⟨⟨P', K⟩, hbw, hbx, hs⟩ => ?_) fun J1 hJ1 => ?_
  ·rw [hs] at hR
   exact hbx.rI rfl (hbx.rI rfl (ret2 (n := σ.size) K (.inl (.inr rfl)) hbw fun w' K' => hR w' L.ts K'.e (K'.fin h)))
  ·refine b6.rI rfl (nilP (K6.h.hd.rS rfl (b6.rI rfl (tab_rd K6.h.tabS hc (d := 2) (by omega) ?_))))
   simp only [if_neg (show ¬ (2 = 0) by omega), if_neg (show ¬ (2 = 1) by omega)]
   refine iff_ (fun heq => b6.rI rfl ?_) fun hne' => hJ1 v6 ⟨⟨_, K6⟩, hbv6, b6, ?_⟩
   ·have heq' : w = c.batch := by simp only [beq_iff_eq] at heq; omega
    refine hFromTransfer_ok K6.h hA hY (k : Int) fun s v7 Q e7 hQ hs7 hcap h7 => ?_
    have K7 := K6.to e7 h7 fun b _ hb => hb.1
    have b7 := K6.keepB e7 b6 (.inr rfl)
    have hbv7 := K6.keepB e7 hbv6 (.inl (.inr rfl))
    refine iff_ (fun h0 => b7.rI rfl ?_) fun hn0 => ?_
    ·have h0' : fromTrE A (k : Int) = 0 := by simpa using h0
     have hs : stepH H t (.transfer k w) = (holdH (H.setA (H.own t) (fromTrS A (k : Int))) t k (fromTrV A (k : Int)), some .fill, 0, 0) := by
      simp only [stepH, hce, hAe, heq', h0', if_true]
     rw [hs] at hR
     refine hhold_ok K7.h (t := t) ht k hs7 hcap (hne0 h0') (fun b _ hq hx => hx.1.2 hq) (K6.h.o.sub hQ) (fun hq => K6.h.o2 (hQ _ hq)) hlen' fun v8 ts8 e8 h8 => ?_
     have K8 := K7.toX e8 h8 fun b hb hq => by
      rcases hq with hq | hq
      ·exact hq.imp id .inl
      ·exact .inr (.inr ⟨(K6.p b (hQ b hq)).1, (K6.p b (hQ b hq)).2.1⟩)
     exact ret2 (n := σ.size) K8 (.inl (.inr rfl)) (K7.keepB e8 hbv7 (.inl (.inr rfl))) fun w' K' => hR w' ts8 K'.e (K'.fin h)
    ·have hn0' : fromTrE A (k : Int) ≠ 0 := by simpa using hn0
     have hsame : fromTrS A (k : Int) = A := by unfold fromTrS; rw [if_neg hn0']
     rw [hsame, setA_same hA] at K7
     refine hJ1 v7 ⟨⟨_, K7⟩, hbv7, b7, ?_⟩
     simp only [stepH, hce, hAe, heq', if_neg hn0', if_true]
   ·have hne2 : w ≠ c.batch := fun e => by rw [e] at hne'; simp at hne'
    simp only [stepH, hce, if_neg hne2]
 | central k w =>
  refine nx1 (by decide) (nx2 (by decide) (ye2 (nw (cs := [.int .i64 0, .int .i64 0]) fun v5 hz5 e5 hb5 => ?_)))
  have K5 := K1.box e5 hz5
  refine hb5.s1 (by simp) fun v5b o5 b5 => b5.s1 (by simp) fun v6 o6 b6 => ?_
  have K6 := (K5.own o5 (.inr rfl)).own o6 (.inr rfl)
  have hne : σ.size ≠ v.size := by omega
  have hbv6 := only_blk o6 (only_blk o5 (e5.blk hb id) hne) hne
  refine b6.rI rfl (b6.rI rfl (hFromCentral_ok K6.h hA hY (k : Int) (w : Int) fun s v7 Q e7 hQ hs7 h7 => ?_))
  have K7 := K6.to e7 h7 fun b _ hb => hb.1
  have b7 := K6.keepB e7 b6 (.inr rfl)
  have hbv7 := K6.keepB e7 hbv6 (.inl (.inr rfl))
  have hsl : s.len = (fromCenV A (k : Int) (w : Int)).length := by have := hs7.1; simp [ints] at this; omega
  by_cases hemp : fromCenV A (k : Int) (w : Int) = []
  ·have hs : stepH H t (.central k w) = (H.setA (H.own t) (fromCenS A (k : Int) (w : Int)), some (.grow k w), 0, 0) := by
    simp only [stepH, hAe, if_pos hemp]
   rw [hs] at hR
   refine ifDF (by rw [hsl, hemp]; simp) (b7.rI rfl (b7.rI rfl ?_))
   exact ret2 (n := σ.size) K7 (.inl (.inr rfl)) hbv7 fun w' K' => hR w' L.ts K'.e (K'.fin h)
  ·have hs : stepH H t (.central k w) = (holdH (H.setA (H.own t) (fromCenS A (k : Int) (w : Int))) t k ((fromCenV A (k : Int) (w : Int)).map fun (x : Nat) => (x : Int)), some .fill, 0, 0) := by
    simp only [stepH, hAe, if_neg hemp]
   rw [hs] at hR
   have hpos := List.length_pos_iff.2 hemp
   refine ifDT (by rw [hsl]; omega) (b7.rI rfl ?_)
   have hs7' := RowR.slR hs7
   rw [ints_I] at hs7'
   have hz6 := K6.e.1
   refine hhold_ok K7.h (t := t) ht k hs7' (RowR.capO hs7) (by simpa using hemp) (fun b _ hq hx => hx.1.2 hq) (K6.o.1.sub fun b hb => by have := hQ b hb; omega) (fun hq => K6.o.2 (by have := hQ _ hq; omega)) hlen' fun v8 ts8 e8 h8 => ?_
   have K8 := K7.toX e8 h8 fun b hb hq => by
    rcases hq with hq | hq
    ·exact hq.imp id .inl
    ·have := hQ b hq
     exact .inr (.inr ⟨.inr (by omega), fun hB => by have := (K6.b b hB).2; omega⟩)
   exact ret2 (n := σ.size) K8 (.inl (.inr rfl)) (K7.keepB e8 hbv7 (.inl (.inr rfl))) fun w' K' => hR w' ts8 K'.e (K'.fin h)
 | grow k w =>
  refine nx1 (by decide) (nx2 (by decide) (nx2 (by decide) (ye2 (nw (cs := [.int .i64 0, .int .i64 0]) fun v5 hz5 e5 hb5 => ?_))))
  have K5 := K1.box e5 hz5
  refine hb5.s1 (by simp) fun v5b o5 b5 => b5.s1 (by simp) fun v6 o6 b6 => ?_
  have K6 := (K5.own o5 (.inr rfl)).own o6 (.inr rfl)
  have hne : σ.size ≠ v.size := by omega
  have hbv6 := only_blk o6 (only_blk o5 (e5.blk hb id) hne) hne
  refine b6.rI rfl (hAGrow_ok K6.h hA hY (k : Int) fun v7 e7 h7 => ?_)
  have K7 := K6.to e7 h7 fun b _ hb => hb
  have b7 := K6.keepB e7 b6 (.inr rfl)
  have hbv7 := K6.keepB e7 hbv6 (.inl (.inr rfl))
  refine iff_ (fun hn0 => ?_) fun h0 => ?_
  ·have hn0' : growE A H.sp (k : Int) ≠ 0 := by simpa using hn0
   have hs : stepH H t (.grow k w) = ({ H.setA (H.own t) (growS A H.sp (k : Int)).1 with sp := (growS A H.sp (k : Int)).2 }, none, 0, growE A H.sp (k : Int)) := by
    simp only [stepH, hAe, if_neg hn0']
   rw [hs] at hR
   exact ret2 (n := σ.size) K7 (.inl (.inr rfl)) hbv7 fun w' K' => hR w' L.ts K'.e (K'.fin h)
  ·have h0' : growE A H.sp (k : Int) = 0 := by simpa using h0
   have hs : stepH H t (.grow k w) = ({ H.setA (H.own t) (growS A H.sp (k : Int)).1 with sp := (growS A H.sp (k : Int)).2 }, some (.central k w), 0, 0) := by
    simp only [stepH, hAe, if_pos h0']
   rw [hs] at hR
   refine b7.rI rfl (b7.rI rfl ?_)
   exact ret2 (n := σ.size) K7 (.inl (.inr rfl)) hbv7 fun w' K' => hR w' L.ts K'.e (K'.fin h)
 | fill =>
  obtain ⟨k, y, ys, r, hh, hk, hy9, hfit⟩ : ∃ k x xs r, (H.thr t).hands = (k, x :: xs) :: r /\ k < H.tb.length /\ I63 x /\ ((H.thr t).li k).os.length + xs.length <= 256 := hp
  rw [htg] at hh hfit
  obtain ⟨c, hc⟩ : ∃ c, H.tb[k]? = some c := ⟨_, List.getElem?_eq_getElem hk⟩
  have hll := h.lsL hx hg
  obtain ⟨l, hl⟩ : ∃ l, g.ls[k]? = some l := ⟨_, List.getElem?_eq_getElem (by rw [hll]; exact hk)⟩
  have hce := cls_eq hc
  have hle := li_eq hl
  rw [hle] at hfit
  refine nx1 (by decide) (nx2 (by decide) (nx2 (by decide) (nx2 (by decide) (ye0 (nw (cs := []) fun v5 hz5 e5 hb5 => ?_)))))
  have K5 := K1.box e5 hz5
  have hbv5 := e5.blk hb id
  obtain ⟨G, D, hG, hD, hd, hBt, hr, hput⟩ := K5.h.stN (fun b hb => (K5.p b hb).2.2) hx hg (fun _ => False) (fun b _ _ hq => hq) (K5.o.1.sub fun b hb => hb.elim) (fun hq => hq)
  rw [hh] at hBt
  obtain ⟨so, ps, Dn, hrow, hso1, hcap, hBr, hDn, hj, hne, hxne⟩ := hBt.uncons
  have hz5' := K5.e.1
  have hsol : so.len = ys.length + 1 := by have := hso1.1; simp [intsI] at this; omega
  refine nilP (ldS (K5.h.tc hx hg ha (d := 1) (by omega) rfl) (bt_rd (RowO.slR hrow) fun a ha0 ha1 => ldI ha0 (ldS ha1 ?_)))
  refine nw (cs := [.int .i64 0, .slice none 0 0]) fun v43 hz43 e43 hb43 => hb43.s1 (by simp) fun v44 o44 b44 => b44.s1 (by simp) fun v45 o45 b45 => ?_
  have e45 : Ext0 v5 v45 := (e43.only o44 (.inr (Nat.le_refl _))).only o45 (.inr (Nat.le_refl _))
  have hz45 : v5.size < v45.size := b45.lt
  refine nilP (hput v45 ⟨none, 0, 0⟩ [] (fun _ => False) (Ext0.to e45) (fun b hb => hb.elim) (BtR.nil _ _ _) ha fun v46 e46 h46 => ?_)
  have hz46 := e46.1
  have e546 : Ext _ v5 v46 := (Ext0.to e45).trans (e46.sub hD)
  have K46 := K5.to e546 h46 fun b _ hq => by
   rcases hq with hq | hq
   ·exact .inl hq.1
   ·exact hq.1.elim
  have hbv46 := K5.keepB e546 hbv5 (.inl (.inr rfl))
  have b46 : Blk v46 v5.size _ := e46.blk b45 fun hx => by have := (K5.p _ (hD _ hx)).2.2; omega
  have K46b := K46.addB (B' := fun b => b = v5.size) fun b hb => ⟨by omega, by omega, fun hx => by
   subst hb
   rcases hx.1 with h1 | h1
   ·have := (K5.p _ h1.1).2.2; omega
   ·exact h1.1⟩
  have hso46 := (SlR.loc _ _ _).keep ((SlR.loc _ _ _).keep0 ((SlR.loc _ _ _).cut hso1) e45) e46 fun b _ hb hx => hd b (hDn b hb.1.1) hx
  have hXn : ∀ b, (Dn b /\ InB so b) /\ b < v5.size -> ¬ Cut (fun b => (Cut F σ b /\ ¬ G b) ∨ False /\ b < v45.size) v46 b := fun b hb hx => by
   rcases hx.1 with h1 | h1
   ·exact h1.2 (hDn b hb.1.1)
   ·exact h1.1
  have hg46 : ({ H with ths := H.ths.set t { g with hands := [] } } : Hw).ths[t]? = some { g with hands := [] } := by simp [ht]
  have hx46 : (L.ts.set t { x with h := ⟨none, 0, 0⟩ })[t]? = some { x with h := ⟨none, 0, 0⟩ } := List.getElem?_set_self (List.getElem?_eq_some_iff.1 hx).1
  refine nilP (ldP (K46b.h.tc hx46 hg46 ha (d := 0) (by omega) rfl) (b46.rI rfl (b46.rS (a := so.a) (n := so.len) (c := so.cap) rfl (slc (lo := 1) (by show 1 <= so.len; omega) hcap (Nat.le_refl _) ?_))))
  have hsub := SlR.sub hso46 (lo := 1) (hi := so.len) (mx := so.cap) (by omega) (Nat.le_refl _) hcap
  have hsx : ((intsI (y :: ys)).drop (1 * 1)).take ((so.len - 1) * 1) = intsI ys := by
   rw [List.take_of_length_le (by simp [intsI]; omega)]; rfl
  rw [hsx] at hsub
  have hl46 : ({ g with hands := [] } : Th).ls[k]? = some l := hl
  refine hFill_ok K46b.h hx46 hg46 hc hl46 hsub hXn hfit fun v47 ts47 e47 h47 => ?_
  have K47 := K46b.to e47 h47 fun b _ hb => hb
  have hso47 := (SlR.loc _ _ _).keep hso46 e47 fun b _ hb hx => hXn b hb hx
  have b47 := K46b.keepB e47 b46 (.inr rfl)
  have hbv47 := K46b.keepB e47 hbv46 (.inl (.inl (.inr rfl)))
  have hs : stepH H t .fill = (bornH { H with ths := H.ths.set t { g with ls := g.ls.set k (addL ys.reverse l), hands := [] } } y (c.size : Int) (k : Int), none, y, 0) := by
   simp only [stepH, htg, hh, setT_eq hg, hle, hce]
  rw [hs] at hR
  obtain ⟨b0, o0, ha0', hc0⟩ := hso47.cell (j := 0) (v := .int .i64 y) rfl
  have hS4 : AtH (fun u => ((∃ P ts H', HH u P { L with ts := ts } H' /\ H'.tb = H.tb) /\ Blk u v5.size [.int .i64 (k : Int), .slice so.a so.len so.cap]) /\ cell u ⟨b0, o0 + 0, none⟩ = some (.int .i64 y)) L H.tb := fun m hm => hm.1.1
  refine ⟨fun u => ((∃ P ts H', HH u P { L with ts := ts } H' /\ H'.tb = H.tb) /\ Blk u v5.size [.int .i64 (k : Int), .slice so.a so.len so.cap]) /\ cell u ⟨b0, o0 + 0, none⟩ = some (.int .i64 y), ⟨⟨⟨_, _, _, K47.h, rfl⟩, b47⟩, hc0⟩, ⟨so, fun u hu => by rw [add_lit, hu.1.2.cell]; rfl, ?_⟩⟩
  refine ix0 ha0' (by omega) ⟨y, fun u hu => hu.2, nilP (hS4.tab ⟨(k : Int), fun u hu => by rw [add_lit, hu.1.2.cell]; rfl, ?_⟩)⟩
  refine AtH.rC (L := { L with ts := ts47 }) (H := Hw.setLs { H with ths := H.ths.set t { g with hands := [] } } t { g with hands := [] } (g.ls.set k (addL ys.reverse l))) hS4 K47.h hc ⟨(k : Int), fun u hu => by rw [add_lit, hu.1.2.cell]; rfl, ?_⟩
  refine hborn_ok K47.h y (c.size : Int) (k : Int) hy9 fun v48 e48 h48 => ?_
  have K48 := K47.to e48 h48 fun b _ hb => .inl hb
  have hz4747 := e47.1
  have hso48 := (SlR.loc _ _ _).keep hso47 e48 fun b _ hb hx => by
   rcases hx.1 with h1 | h1
   ·exact hXn b hb h1
   ·have := hb.2; omega
  refine ⟨⟨⟨⟨_, _, _, h48, rfl⟩, K47.keepB e48 b47 (.inr rfl)⟩, ?_⟩, ?_⟩
  ·obtain ⟨b1, o1, ha1', hc1⟩ := hso48.cell (j := 0) (v := .int .i64 y) rfl
   rw [ha0'] at ha1'; cases ha1'
   exact hc1
  ·have K49 := K48
   simp only [Hw.setLs, List.set_set] at K49
   exact ret2 (n := σ.size) K49 (.inl (.inl (.inr rfl))) (K47.keepB e48 hbv47 (.inl (.inl (.inr rfl)))) fun w' K' => hR w' ts47 K'.e (K'.fin h)
 | large m =>
  have hp : takeAV (H.arn t) H.sp (m : Int) 1 <= 1000000 := hp
  rw [hAe] at hp
  refine nx1 (by decide) (nx2 (by decide) (nx2 (by decide) (nx2 (by decide) (nx0 (by decide) (ye1 (nw (cs := [.int .i64 0]) fun v5 hz5 e5 hb5 => ?_))))))
  have K5 := K1.box e5 hz5
  refine hb5.s0 (by simp) fun v6 o6 b6 => ?_
  have K6 := K5.own o6 (.inr rfl)
  have hbv6 := only_blk o6 (e5.blk hb id) (by omega)
  refine b6.rI rfl (hATakePages_ok K6.h hA hY (m : Int) 1 fun v7 e7 h7 => ?_)
  have K7 := K6.to e7 h7 fun b _ hb => hb
  have b7 := K6.keepB e7 b6 (.inr rfl)
  have hbv7 := K6.keepB e7 hbv6 (.inl (.inr rfl))
  refine iff_ (fun hn0 => ?_) fun h0 => ?_
  ·have hn0' : takeAE A H.sp (m : Int) 1 ≠ 0 := by simpa using hn0
   have hs : stepH H t (.large m) = ({ H.setA (H.own t) (takeAS A H.sp (m : Int) 1).1 with sp := (takeAS A H.sp (m : Int) 1).2 }, none, 0, takeAE A H.sp (m : Int) 1) := by
    simp only [stepH, hAe, if_neg hn0']
   rw [hs] at hR
   exact ret2 (n := σ.size) K7 (.inl (.inr rfl)) hbv7 fun w' K' => hR w' L.ts K'.e (K'.fin h)
  ·have h0' : takeAE A H.sp (m : Int) 1 = 0 := by simpa using h0
   have hm : m <= 64 := by
    unfold takeAE at h0'
    split at h0'
    ·rename_i hpo
     simp only [pagesOk, Bool.and_eq_true, decide_eq_true_eq] at hpo
     omega
    ·omega
   have hs : stepH H t (.large m) = (bornH { H.setA (H.own t) (takeAS A H.sp (m : Int) 1).1 with sp := (takeAS A H.sp (m : Int) 1).2 } ((takeAV A H.sp (m : Int) 1 * 256 : Nat) : Int) ((m * 256 : Nat) : Int) (-1), none, ((takeAV A H.sp (m : Int) 1 * 256 : Nat) : Int), 0) := by
    simp only [stepH, hAe, if_pos h0']
   rw [hs] at hR
   refine arN (m := takeAV A H.sp (m : Int) 1 * 256) (by omega) (by omega) (b7.rI rfl (arN (m := m * 256) (by omega) (by omega) ?_))
   refine hborn_ok K7.h _ _ _ (by omega) fun v8 e8 h8 => ?_
   have K8 := K7.to e8 h8 fun b _ hb => .inl hb
   exact ret2 (n := σ.size) K8 (.inl (.inr rfl)) (K7.keepB e8 hbv7 (.inl (.inr rfl))) fun w' K' => hR w' L.ts K'.e (K'.fin h)
 | find x =>
  obtain ⟨hx9, hro, hlv⟩ : I63 x /\ (mget H.live x = none -> ∀ A ∈ H.ars, RunsOk A) /\ ∀ b, mget H.live x = some b -> 0 <= x := hp
  refine nx1 (by decide) (nx2 (by decide) (nx2 (by decide) (nx2 (by decide) (nx0 (by decide) (nx1 (by decide) (ye1 (nw (cs := [.int .i64 0]) fun v5 hz5 e5 hb5 => ?_)))))))
  have K5 := K1.box e5 hz5
  refine hb5.s0 (by simp) fun v6 o6 b6 => ?_
  have K6 := K5.own o6 (.inr rfl)
  have hbv6 := only_blk o6 (e5.blk hb id) (by omega)
  refine b6.rI rfl (hfind_ok K6.h ht x hx9 hro hlen' hlv fun v7 ts7 e7 h7 => ?_)
  have K7 := K6.to e7 h7 fun b _ hb => hb
  have hbv7 := K6.keepB e7 hbv6 (.inl (.inr rfl))
  exact ret2 (n := σ.size) K7 (.inl (.inr rfl)) hbv7 fun w' K' => hR w' ts7 K'.e (K'.fin h)
 | put k y =>
  obtain ⟨hk, hne0⟩ : k < H.tb.length /\ (H.thr t).hands ≠ [] := hp
  rw [htg] at hne0
  obtain ⟨c, hc⟩ : ∃ c, H.tb[k]? = some c := ⟨_, List.getElem?_eq_getElem hk⟩
  have hll := h.lsL hx hg
  obtain ⟨l, hl⟩ : ∃ l, g.ls[k]? = some l := ⟨_, List.getElem?_eq_getElem (by rw [hll]; exact hk)⟩
  have hce := cls_eq hc
  have hle := li_eq hl
  refine nx1 (by decide) (nx2 (by decide) (nx2 (by decide) (nx2 (by decide) (nx0 (by decide) (nx1 (by decide) (nx1 (by decide) (ye2 (nw (cs := [.int .i64 0, .int .i64 0]) fun v5 hz5 e5 hb5 => ?_))))))))
  have K5 := K1.box e5 hz5
  refine hb5.s1 (by simp) fun v5b o5 b5 => b5.s1 (by simp) fun v6 o6 b6 => ?_
  have K6 := (K5.own o5 (.inr rfl)).own o6 (.inr rfl)
  have hne : σ.size ≠ v.size := by omega
  have hbv6 := only_blk o6 (only_blk o5 (e5.blk hb id) hne) hne
  generalize hgg : (if (putL c y l).1 = [] then ({ g with ls := g.ls.set k (putL c y l).2 } : Th) else { g with ls := g.ls.set k (putL c y l).2, hands := g.hands ++ [(k, (putL c y l).1)] }) = g2
  have hg2n : g2.hands ≠ [] /\ g2.hands.length <= 901 := by
   rw [← hgg]; split
   ·exact ⟨hne0, by simp; omega⟩
   ·exact ⟨by simp, by simp; omega⟩
  refine jn0_p (fun w => ∃ P ts', HK F σ (fun b => (False ∨ b = σ.size) ∨ b = v.size) w P { L with ts := ts' } { H with ths := H.ths.set t g2 } /\ Blk w σ.size [.int .i64 0, .int .i64 0]) (fun w ⟨P, ts2, K, hbw⟩ => ?_) fun J2 hJ2 => ?_
  ·have hg3 : ({ H with ths := H.ths.set t g2 } : Hw).ths[t]? = some g2 := by simp [ht]
   obtain ⟨x2, _, hx2, _⟩ := K.h.th (t := t) (by simpa using ht)
   obtain ⟨G, D, hG, hD, hd, hBt, hr, hput⟩ := K.h.stN (fun b hb => (K.p b hb).2.2) hx2 hg3 (fun _ => False) (fun b _ _ hq => hq) (K.o.1.sub fun b hb => hb.elim) (fun hq => hq)
   have hbl := hBt.len
   have hbc := hBt.cap
   obtain ⟨b0, r0, hbr⟩ : ∃ b r, g2.hands = b :: r := by
    cases hh : g2.hands with
    | nil => exact absurd hh hg2n.1
    | cons b r => exact ⟨b, r, rfl⟩
   have hdr : g2.hands.drop 1 = r0 := by rw [hbr]; rfl
   rw [hbr] at hBt
   have hpos : 1 <= x2.h.len := by rw [hbl, hbr]; simp
   refine nilP (ldS (K.h.tc hx2 hg3 ha (d := 1) (by omega) rfl) ?_)
   refine slc (lo := 1) hpos hbc (Nat.le_refl _) ?_
   refine nilP (hput w _ _ G (Ext.refl _ _) (fun b hb => .inl hb) hBt.drop1 ha fun w1 e1 h1 => ?_)
   have e1' := e1.sub hD
   have K1b := K.to e1' h1 fun b _ hq => by
    rcases hq with hq | hq
    ·exact .inl hq.1
    ·exact .inl (hG b hq.1)
   have hbw1 := K.keepB e1' hbw (.inl (.inr rfl))
   have K3 := K1b
   simp only [List.set_set] at K3
   generalize hg3' : ({ g2 with hands := r0 } : Th) = g3 at K3
   have hl3 : g3.hands = r0 /\ g3.ls = g2.ls := by rw [← hg3']; exact ⟨rfl, rfl⟩
   have hr0 : r0.length <= 900 := by have := hg2n.2; rw [hbr] at this; simp at this; omega
   have hg3e : ({ H with ths := H.ths.set t g3 } : Hw).ths[t]? = some g3 := by simp [ht]
   have hpe : putH H t k y = (if H.cf.budget < bytesF H.tb g3.ls then { H with ths := H.ths.set t { g3 with ls := leftF scavL H.tb g3.ls, hands := g3.hands ++ outsF scavL H.tb g3.ls } } else { H with ths := H.ths.set t g3 }) := by
    have e2 : (if (putL c y l).1 = [] then H.setT t fun h => h.setL k (putL c y l).2 else holdH (H.setT t fun h => h.setL k (putL c y l).2) t k (putL c y l).1) = { H with ths := H.ths.set t g2 } := by
     rw [← hgg]
     split
     ·rw [setT_eq hg]; rfl
     ·rw [setT_eq hg]; unfold holdH Hw.setT
      simp only
      rw [modify_set (t := g.setL k (putL c y l).2) (by simp [ht]), List.set_set]; rfl
    have e3 : ({ H with ths := H.ths.set t g2 } : Hw).setT t (fun h => { h with hands := h.hands.drop 1 }) = { H with ths := H.ths.set t g3 } := by
     rw [setT_eq hg3]
     simp only [List.set_set, hdr, hg3']
    unfold putH
    simp only [hce, htg, hle, e2, e3, thr_eq hg3e, setT_eq hg3e, List.set_set]
   have hx3 : (ts2.set t { x2 with h := ⟨if x2.h.cap = 1 then x2.h.a else x2.h.a.map (·.add (1 * 2)), x2.h.len - 1, x2.h.cap - 1⟩ })[t]? = some { x2 with h := ⟨if x2.h.cap = 1 then x2.h.a else x2.h.a.map (·.add (1 * 2)), x2.h.len - 1, x2.h.cap - 1⟩ } := List.getElem?_set_self (List.getElem?_eq_some_iff.1 hx2).1
   generalize hx3' : ({ x2 with h := ⟨if x2.h.cap = 1 then x2.h.a else x2.h.a.map (·.add (1 * 2)), x2.h.len - 1, x2.h.cap - 1⟩ } : LayT) = x3 at hx3 K3
   generalize ts2.set t x3 = ts3 at hx3 K3
   refine jn0_p (fun w => ∃ P ts', HK F σ (fun b => (False ∨ b = σ.size) ∨ b = v.size) w P { L with ts := ts' } (putH H t k y) /\ Blk w σ.size [.int .i64 0, .int .i64 0]) (fun w ⟨P, ts', K, hbw⟩ => ?_) fun J3 hJ3 => ?_
   ·have hs : stepH H t (.put k y) = (putH H t k y, retH (putH H t k y) t, 0, 0) := rfl
    rw [hs] at hR
    refine hreturning_ok K.h (t := t) ?_ ?_
    ·rw [hpe]; split <;> simpa using ht
    ·exact ret2 (n := σ.size) K (.inl (.inr rfl)) hbw fun w' K' => hR w' ts' K'.e (K'.fin h)
   ·refine nilP (ldP (K3.h.tc hx3 hg3e ha (d := 0) (by omega) rfl) ?_)
    refine hOver_ok K3.h hx3 hg3e fun v10 e10 => ?_
    have K10 := K3.fr e10
    have hbw10 := e10.blk hbw1 id
    refine ifD (fun hov => ?_) fun hno => hJ3 v10 ⟨_, ts3, by rw [hpe, if_neg hno]; exact K10, hbw10⟩
    refine ⟨fun u => cell u (Addr.add ⟨tb0, to0 + 3 * t, none⟩ 1) = some (.slice x3.h.a x3.h.len x3.h.cap) /\ cell u (Addr.add ⟨tb0, to0 + 3 * t, none⟩ 0) = some (.pointer (some ⟨x3.c.p, 0, none⟩)), ⟨K10.h.tc hx3 hg3e ha (d := 1) (by omega) rfl, K10.h.tc hx3 hg3e ha (d := 0) (by omega) rfl⟩, nilP ⟨x3.h, fun u hu => hu.1, nilP ⟨some ⟨x3.c.p, 0, none⟩, fun u hu => hu.2, ?_⟩⟩⟩
    refine hScavenge_ok hso K10.h hx3 hg3e fun v11 s Q e11 hQ hB h11 => ?_
    have K11 := K10.to e11 h11 fun b _ hb => hb.1
    have hbw11 := K10.keepB e11 hbw10 (.inl (.inr rfl))
    have hg11 : (Hw.setLs { H with ths := H.ths.set t g3 } t g3 (leftF scavL H.tb g3.ls)).ths[t]? = some { g3 with ls := leftF scavL H.tb g3.ls } := by simp [Hw.setLs, ht]
    refine ⟨⟨K11.h.tc hx3 hg11 ha (d := 1) (by omega) rfl, K11.h.tc hx3 hg11 ha (d := 0) (by omega) rfl⟩, ?_⟩
    have hz0 := K10.e.1
    obtain ⟨G, D, hG, hD, hd, hBt, hr, hput⟩ := K11.h.stN (fun b hb => hb.2) hx3 hg11 (fun b => Q b ∨ v11.size <= b) (fun b hb hP hq => hq.elim (fun hq => hP.1.2 hq) fun hq => by omega) (K10.o.1.sub fun b hb => hb.elim (fun hb => by have := hQ b hb; omega) fun hb => by have := K11.e.1; omega) (fun hq => K10.o.2 (hq.elim (fun hb => by have := hQ _ hb; omega) fun hb => by have := K11.e.1; omega))
    refine BtR.app hBt hB (fun b hg hq => (hG b hg).1.2 hq) ?_ fun s' v12 e12 hB12 => ?_
    ·have := outsF_len scavL H.tb g3.ls
     have : H.tb.length <= 40 := K3.h.tb40
     simp only [hl3.1]; omega
    have hcell : ∀ {d : Nat} {w : Value}, d < 3 -> (thV (x3, ({ g3 with ls := leftF scavL H.tb g3.ls } : Th)))[d]? = some w -> cell v12 (Addr.add ⟨tb0, to0 + 3 * t, none⟩ d) = some w := fun hd3 hv => by
     obtain ⟨b', o', ha', hc'⟩ := tr_cell (hr v12 e12) hx3 hg11 hd3 hv
     rw [ha] at ha'; cases ha'
     rw [add_lit, Nat.add_assoc]; exact hc'
    refine ⟨⟨hcell (d := 1) (by omega) rfl, hcell (d := 0) (by omega) rfl⟩, nilP (hput v12 s' _ _ e12 (fun b hb => hb.imp id id) hB12 ha fun v13 e13 h13 => ?_)⟩
    have e13' := (e12.sub hG).trans (e13.sub hD)
    have K13 := K11.toX e13' h13 fun b hb hq => by
     rcases hq with hq | hq
     ·exact .inl hq.1
     ·rcases hq.1 with h1 | h1 | h1
      ·exact .inl (hG b h1)
      ·have := hQ b h1
       exact .inr (.inr ⟨.inr (by omega), fun hB => by have := (K10.b b hB).2; omega⟩)
      ·exact .inr (.inl h1)
    have hbw13 := K11.keepB e13' hbw11 (.inl (.inr rfl))
    have K14 := K13
    simp only [Hw.setLs, List.set_set] at K14
    have hpe' := hpe
    rw [if_pos hov] at hpe'
    rw [hpe'] at hJ3
    exact hJ3 v13 ⟨_, _, K14, hbw13⟩
  ·refine ⟨fun u => u = v6, rfl, nilP ⟨some ⟨x.c.p, 0, none⟩, fun u hu => by cases hu; exact K6.h.tc hx hg ha (d := 0) (by omega) rfl, ⟨(k : Int), fun u hu => by cases hu; rw [add_lit, b6.cell]; rfl, ⟨y, fun u hu => by cases hu; rw [add_lit, b6.cell]; rfl, ?_⟩⟩⟩⟩
   refine hPut_ok K6.h hx hg hc hl y fun v7 ts7 s ee Q e7 hQ hs7 h7 => ?_
   have K7 := K6.to e7 h7 fun b _ hb => hb.1
   have b7 := K6.keepB e7 b6 (.inr rfl)
   have hbv7 := K6.keepB e7 hbv6 (.inl (.inr rfl))
   have hsl : s.len = (putL c y l).1.length := by have := hs7.1; simp [intsI] at this; omega
   by_cases hemp : (putL c y l).1 = []
   ·rw [if_pos hemp] at hgg
    rw [← hgg] at hJ2
    exact ifDF (by rw [hsl, hemp]; simp) (hJ2 v7 ⟨_, ts7, K7, hbv7⟩)
   ·rw [if_neg hemp] at hgg
    have hpos := List.length_pos_iff.2 hemp
    have hz6 := K6.e.1
    refine ifDT (by rw [hsl]; omega) (b7.rI rfl ?_)
    refine hhold_ok K7.h (t := t) (by simpa [Hw.setLs] using ht) k (RowR.slR hs7) (RowR.capO hs7) hemp (fun b _ hq hx => hx.1.2 hq) (K6.o.1.sub fun b hb => by have := hQ b hb; omega) (fun hq => K6.o.2 (by have := hQ _ hq; omega)) (fun g' hg' => ?_) fun v8 ts8 e8 h8 => ?_
    ·have : (H.setLs t g (g.ls.set k (putL c y l).2)).ths[t]? = some { g with ls := g.ls.set k (putL c y l).2 } := by simp [Hw.setLs, ht]
     rw [this] at hg'; cases hg'
     simp only; omega
    ·have K8 := K7.toX e8 h8 fun b hb hq => by
      rcases hq with hq | hq
      ·exact hq.imp id .inl
      ·have := hQ b hq
       exact .inr (.inr ⟨.inr (by omega), fun hB => by have := (K6.b b hB).2; omega⟩)
     have e9 : holdH (H.setLs t g (g.ls.set k (putL c y l).2)) t k (putL c y l).1 = { H with ths := H.ths.set t g2 } := by
      rw [← hgg]; unfold holdH Hw.setT Hw.setLs
      simp only
      rw [modify_set (t := { g with ls := g.ls.set k (putL c y l).2 }) (by simp [ht]), List.set_set]
     rw [e9] at K8
     exact hJ2 v8 ⟨_, ts8, K8, K7.keepB e8 hbv7 (.inl (.inr rfl))⟩
 | back =>
  obtain ⟨k, xs, r, hh, hxs, hxl⟩ : ∃ k xs r, (H.thr t).hands = (k, xs) :: r /\ (∀ x ∈ xs, I63 x /\ 0 <= ownerH H.ars x) /\ xs.length <= 1000000 := hp
  rw [htg] at hh
  refine nx1 (by decide) (nx2 (by decide) (nx2 (by decide) (nx2 (by decide) (nx0 (by decide) (nx1 (by decide) (nx1 (by decide) (nx2 (by decide) (ye0 (nw (cs := []) fun v5 hz5 e5 hb5 => ?_)))))))))
  have K5 := K1.box e5 hz5
  have hbv5 := e5.blk hb id
  obtain ⟨G, D, hG, hD, hd, hBt, hr, hput⟩ := K5.h.stN (fun b hb => (K5.p b hb).2.2) hx hg (fun b => v5.size <= b) (fun b hb _ hq => by omega) K5.h.newN.1 K5.h.newN.2
  have hbl := hBt.len
  have hbc := hBt.cap
  rw [hh] at hBt
  obtain ⟨so, ps, Dn, hrow, hso1, hcap, hBr, hDn, hj, hne, hxne⟩ := hBt.uncons
  have hz5' := K5.e.1
  refine nilP (ldS (K5.h.tc hx hg ha (d := 1) (by omega) rfl) (bt_rd (RowO.slR hrow) fun a ha0 ha1 => ldI ha0 (ldS ha1 ?_)))
  refine nw (cs := [.int .i64 0, .slice none 0 0]) fun v81 hz81 e81 hb81 => hb81.s1 (by simp) fun v82 o82 b82 => b82.s1 (by simp) fun v83 o83 b83 => ?_
  have e83 : Ext0 v5 v83 := (e81.only o82 (.inr (Nat.le_refl _))).only o83 (.inr (Nat.le_refl _))
  have hz83 : v5.size < v83.size := b83.lt
  have hcell : ∀ {u1 : Hp}, Ext G v5 u1 -> ∀ {d : Nat} {w : Value}, d < 3 -> (thV (x, g))[d]? = some w -> cell u1 (Addr.add ⟨tb0, to0 + 3 * t, none⟩ d) = some w := fun he _ _ hd3 hv => by
   obtain ⟨b', o', ha', hc'⟩ := tr_cell (hr _ he) hx hg hd3 hv
   rw [ha] at ha'; cases ha'
   rw [add_lit, Nat.add_assoc]; exact hc'
  refine nilP (ldS (hcell (Ext0.to e83) (d := 1) (w := .slice x.h.a x.h.len x.h.cap) (by omega) rfl) ?_)
  have hpos : 1 <= x.h.len := by rw [hbl, hh]; simp
  refine slc (lo := 1) hpos hbc (Nat.le_refl _) ?_
  have hrow' := (SlR.loc _ _ _).keep0 ((SlR.loc _ _ _).cut (RowO.slR (hrow.from (lo := 1) hpos))) e83
  have hdr : (btsV ((k, so) :: ps)).drop (1 * 2) = btsV ps := rfl
  rw [hdr] at hrow'
  refine clB_ok hrow' (by simp only; omega) fun s' v84 hs'l e84 hs' => ?_
  have hBt' : BtR s' r v84 (fun b => Dn b /\ ¬ InB so b /\ b < v5.size ∨ v83.size <= b) := by
   refine ⟨ps, fun b => Dn b /\ ¬ InB so b /\ b < v5.size, (RowO.loc _ _ _).mono hs'.o fun b _ hb => ⟨.inr hb, fun hx => by omega⟩, (BtO.loc _ _).keep0 ((BtO.loc _ _).keep0 ((BtO.loc _ _).mono ((BtO.loc _ _).cut hBr) fun b _ hb => ⟨hb.1.1, hb.1.2, hb.2⟩) e83) e84, fun b hb => .inl hb, hj, hne⟩
  have e584 : Ext0 v5 v84 := e83.trans e84
  refine nilP (hput v84 s' r _ (Ext0.to e584) (fun b hb => hb.elim (fun hb => .inl (hDn b hb.1)) fun hb => .inr (by omega)) hBt' ha fun v85 e85 h85 => ?_)
  have hz84 := e84.1
  have hz85 := e85.1
  have e585 : Ext _ v5 v85 := (Ext0.to e584).trans (e85.sub hD)
  have K85 := K5.to e585 h85 fun b _ hq => by
   rcases hq with hq | hq
   ·exact .inl hq.1
   ·rcases hq.1 with h1 | h1
    ·exact .inl (hG b (hDn b h1.1))
    ·exact .inr (by omega)
  have hbv85 := K5.keepB e585 hbv5 (.inl (.inr rfl))
  have b85 : Blk v85 v5.size _ := e85.blk (e84.blk b83 id) fun hx => by have := (K5.p _ (hD _ hx)).2.2; omega
  have K85b := K85.addB (B' := fun b => b = v5.size) fun b hb => ⟨by omega, by omega, fun hx => by
   subst hb
   rcases hx.1 with h1 | h1
   ·have := (K5.p _ h1.1).2.2; omega
   ·rcases h1.1 with h2 | h2 <;> omega⟩
  have hso5 := (SlR.loc _ _ _).keep ((SlR.loc _ _ _).keep0 ((SlR.loc _ _ _).cut hso1) e584) e85 fun b _ hb hx => hd b (hDn b hb.1.1) hx
  have hs : stepH H t .back = (backH { H with ths := H.ths.set t { g with hands := r } } (H.own t) k xs, retH (backH { H with ths := H.ths.set t { g with hands := r } } (H.own t) k xs) t, 0, 0) := by
   simp only [stepH, htg, hh, setT_eq hg]
  rw [hs] at hR
  refine ⟨fun u => u = v85, rfl, ⟨(k : Int), fun u hu => by cases hu; rw [add_lit, b85.cell]; rfl, ⟨so, fun u hu => by cases hu; rw [add_lit, b85.cell]; rfl, ?_⟩⟩⟩
  refine hown_ok K85b.h t ⟨rfl, hback_ok K85b.h hol k hso5 (fun b _ hb hx => ?_) hcap hxs hxl fun v87 e87 h87 => ?_⟩
  ·rcases hx.1 with h1 | h1
   ·exact h1.2 (hDn b hb.1.1)
   ·rcases h1.1 with h2 | h2
    ·exact h2.2.1 hb.1.2
    ·have := hb.2; omega
  have K87 := K85b.to e87 h87 fun b _ hb => hb
  have hbl7 : (backH { H with ths := H.ths.set t { g with hands := r } } (H.own t) k xs).ths.length = H.ths.length := by
   rw [backH_ths]; simp
  refine hreturning_ok K87.h (t := t) (by rw [hbl7]; exact ht) ?_
  exact ret2 (n := σ.size) K87 (.inl (.inl (.inr rfl))) (K85b.keepB e87 hbv85 (.inl (.inl (.inr rfl)))) fun w' K' => hR w' _ K'.e (K'.fin h)
 | give s a =>
  obtain ⟨ha0, hal, hru⟩ : 0 <= a /\ a.toNat < H.ars.length /\ ∀ A ∈ H.ars, ∀ r ∈ A.runs, r.1 <= 1000000 := hp
  obtain ⟨A2, hA2⟩ : ∃ A, H.ars[a.toNat]? = some A := ⟨_, List.getElem?_eq_getElem hal⟩
  have hae : a = ((a.toNat : Nat) : Int) := by omega
  refine nx1 (by decide) (nx2 (by decide) (nx2 (by decide) (nx2 (by decide) (nx0 (by decide) (nx1 (by decide) (nx1 (by decide) (nx2 (by decide) (nx0 (by decide) (ye2 (nw (cs := [.int .i64 0, .int .i64 0]) fun v5 hz5 e5 hb5 => ?_))))))))))
  have K5 := K1.box e5 hz5
  refine hb5.s1 (by simp) fun v5b o5 b5 => b5.s1 (by simp) fun v6 o6 b6 => ?_
  have K6 := (K5.own o5 (.inr rfl)).own o6 (.inr rfl)
  have hne : σ.size ≠ v.size := by omega
  have hbv6 := only_blk o6 (only_blk o5 (e5.blk hb id) hne) hne
  obtain ⟨Y2, hY2, _, _⟩ := K6.h.ar hA2
  refine nilP (K6.h.hd.rS rfl (b6.rI (x := ((a.toNat : Nat) : Int)) (by rw [← hae]; rfl) (K6.h.rA hY2 (b6.rI rfl ?_))))
  refine hGivePages_ok K6.h hA2 hY2 s (hru A2 (List.mem_of_getElem? hA2)) fun v7 e7 h7 => ?_
  have K7 := K6.to e7 h7 fun b _ hb => hb
  have hbv7 := K6.keepB e7 hbv6 (.inl (.inr rfl))
  have hs : stepH H t (.give s a) = (H.setA a.toNat (giveAS A2 s), none, 0, 0) := by
   simp only [stepH, hA2]
  refine hJ v7 ⟨_, L.ts, ⟨?_, K7.e, fun b hb => ⟨(K7.p b hb).1, fun hx => (K7.p b hb).2.1 (.inl hx), (K7.p b hb).2.2⟩, fun b hb => K7.b b (.inl hb), K7.o⟩, hbv7, by rw [hs]⟩
  rw [hs]; exact K7.h
 | drain =>
  refine nx1 (by decide) (nx2 (by decide) (nx2 (by decide) (nx2 (by decide) (nx0 (by decide) (nx1 (by decide) (nx1 (by decide) (nx2 (by decide) (nx0 (by decide) (nx2 (by decide) (ye0 (nw (cs := []) fun v5 hz5 e5 hb5 => ?_)))))))))))
  have K5 := K1.box e5 hz5
  have hbv5 := e5.blk hb id
  refine nilP (ldP (K5.h.tc hx hg ha (d := 0) (by omega) rfl) ?_)
  refine hDrain_ok hso K5.h hx hg fun v7 s Q e7 hQ hB h7 => ?_
  have K7 := K5.to e7 h7 fun b _ hb => hb.1
  have hbv7 := K5.keepB e7 hbv5 (.inl (.inr rfl))
  have hz0 := K5.e.1
  have hg7 : (H.setLs t g (leftF drainL H.tb g.ls)).ths[t]? = some { g with ls := leftF drainL H.tb g.ls } := by simp [Hw.setLs, ht]
  obtain ⟨G, D, hG, hD, hd, hBt, hr, hput⟩ := K7.h.stN (fun b hb => hb.2) hx hg7 Q (fun b _ hb hq => hb.1.2 hq) (K5.o.1.sub fun b hb => by have := hQ b hb; omega) (fun hq => K5.o.2 (by have := hQ _ hq; omega))
  refine nilP (hput v7 s _ Q (Ext.refl _ _) (fun b hb => .inr hb) hB ha fun v8 e8 h8 => ?_)
  have e8' := e8.sub hD
  have K8 := K7.toX e8' h8 fun b _ hq => by
   rcases hq with hq | hq
   ·exact .inl hq.1
   ·have := hQ b hq.1
    exact .inr (.inr ⟨.inr (by omega), fun hB => by have := (K5.b b hB).2; omega⟩)
  have hbv8 := K7.keepB e8' hbv7 (.inl (.inr rfl))
  have hs : stepH H t .drain = ({ H with ths := H.ths.set t { g with ls := leftF drainL H.tb g.ls, hands := outsF drainL H.tb g.ls } }, retH { H with ths := H.ths.set t { g with ls := leftF drainL H.tb g.ls, hands := outsF drainL H.tb g.ls } } t, 0, 0) := by
   simp only [stepH, setT_eq hg]
  have K9 := K8
  simp only [Hw.setLs, List.set_set] at K9
  rw [hs] at hR
  refine hreturning_ok K9.h (t := t) (by simpa using ht) ?_
  exact ret2 (n := σ.size) K9 (.inl (.inr rfl)) hbv8 fun w' K' => hR w' _ K'.e (K'.fin h)
end Go.Ar
namespace Go.Ar
open Go Go.Vc Go.Proofs


variable {σ u u' : Hp} {F B P Q : Rg} {L : LayH} {H H' : Hw} {t k n pb : Nat} {A : AR} {Y : Lay} {x : LayT} {g : Th} {c : Cls} {l : Li} {cs : List Value}
def setPh (H : Hw) (t : Nat) (p : Option Ph) : Hw := H.setT t fun h => { h with ph := p }
theorem setT_len (H : Hw) (t : Nat) (f : Th -> Th) : (H.setT t f).ths.length = H.ths.length := by simp [Hw.setT]
theorem putH_len (H : Hw) (t k : Nat) (x : Int) : (putH H t k x).ths.length = H.ths.length := by
 unfold putH
 simp only
 split <;> split <;> simp [setT_len, holdH]
theorem stepH_len (H : Hw) (t : Nat) (p : Ph) : (stepH H t p).1.ths.length = H.ths.length := by
 cases p with
 | take k => simp only [stepH]; split <;> simp [bornH, setT_len]
 | transfer k w =>
  simp only [stepH]
  split
  ·split <;> simp [holdH, setT_len, Hw.setA]
  ·rfl
 | central k w => simp only [stepH]; split <;> simp [holdH, setT_len, Hw.setA]
 | grow k w => simp only [stepH]; split <;> simp [Hw.setA]
 | fill => simp only [stepH]; split <;> simp [bornH, setT_len]
 | large m => simp only [stepH]; split <;> simp [bornH, Hw.setA]
 | find x =>
  simp only [stepH, findH]
  split
  ·rfl
  ·split <;> simp [holdH, setT_len]
 | put k x => exact putH_len H t k x
 | back => simp only [stepH]; split <;> simp [backH_ths, setT_len]
 | give s a => simp only [stepH]; split <;> simp [Hw.setA]
 | drain => simp [stepH, setT_len]
def StepOk (H : Hw) (t : Nat) (p : Ph) : Prop := StepP H t p /\ ∀ g, H.ths[t]? = some g -> g.hands.length <= 900
def stepO (H : Hw) (t : Nat) (p : Ph) : Hw := setPh (stepH H t p).1 t (stepH H t p).2.1
theorem hStep_ok (hso : SortB) (h : HH σ F L H) (hg : H.ths[t]? = some g) {p : Ph} (hp : g.ph = some p) (hok : StepOk H t p) {R : Bool -> Int -> Int -> Int -> Hp -> Prop}
 (hR : ∀ σ' ts', Ext F σ σ' -> HH σ' (Grow F σ) { L with ts := ts' } (stepO H t p) -> R (stepH H t p).2.1.isNone (stepH H t p).2.2.1 (stepH H t p).2.2.2 0 σ') : heap_Heap_Step.call (some ⟨L.p, 0, none⟩) (t : Int) σ R := by
 refine heap_Heap_Step.of_vc ?_
 unfold heap_Heap_Step.vc
 have ht := (List.getElem?_eq_some_iff.1 hg).1
 refine nw (cs := [.int .i64 0, .int .i64 0]) fun v hz e hb => ?_
 have K1 := (HK.start h).box e hz
 obtain ⟨x, g', hx, hg'⟩ := h.th ht
 rw [hg] at hg'; cases hg'
 refine hmade_ok K1.h (ifF rfl (hthere_ok K1.h (t : Int) (ifF (by rw [decide_eq_true (by omega)]; rfl) ?_)))
 refine nilP (K1.h.hd.rS rfl (K1.h.tR hx hg ?_))
 rw [hp]
 refine ⟨phV_if _, ifF (by rw [phV_nil]; rfl) (nilP (K1.h.hd.rS rfl (K1.h.tR hx hg ?_)))⟩
 rw [hp]
 refine hstep_ok hso K1.h ht p hok.1 hok.2 fun v9 ts9 e9 h9 => ?_
 have K9 := K1.to e9 h9 fun b _ hb => hb
 have hbv9 := K1.keepB e9 hb (.inr rfl)
 refine nw (cs := [.int .i64 0, .int .i64 0]) fun v10 hz10 e10 hb10 => ?_
 have K10 := K9.box e10 hz10
 refine hb10.s1 (by simp) fun v11 o11 b11 => b11.s1 (by simp) fun v12 o12 b12 => ?_
 have K12 := (K10.own o11 (.inr rfl)).own o12 (.inr rfl)
 have hne : σ.size ≠ v9.size := by have := (K9.b σ.size (.inr rfl)).2; omega
 have hbv12 := only_blk o12 (only_blk o11 (e10.blk hbv9 id) hne) hne
 have ht9 : t < (stepH H t p).1.ths.length := by rw [stepH_len]; exact ht
 obtain ⟨x9, g9, hx9, hg9⟩ := K12.h.th ht9
 have hpe : stepO H t p = { (stepH H t p).1 with ths := (stepH H t p).1.ths.set t { g9 with ph := (stepH H t p).2.1 } } := setT_eq hg9 _
 refine nilP (K12.h.hd.rS rfl (K12.h.stepP hx9 hg9 (stepH H t p).2.1 fun v13 e13 h13 => ?_))
 have K13 := K12.to e13 h13 fun b _ hb => .inl hb
 have hb13 := K12.keepB e13 b12 (.inr rfl)
 rw [← hpe] at K13
 refine ⟨phV_if _, hb13.rI rfl (hb13.rI rfl ?_)⟩
 refine ret2 (n := σ.size) K13 (.inl (.inr rfl)) (K12.keepB e13 hbv12 (.inl (.inr rfl))) fun w' K' => ?_
 rw [phV_nil]
 exact hR w' ts9 K'.e (K'.fin h)
theorem least {p : Nat -> Prop} (h : ∃ n, p n) : ∃ n, p n /\ ∀ m, p m -> n <= m := by
 obtain ⟨n, hn⟩ := h
 induction n using Nat.strongRecOn with
 | _ n ih =>
  by_cases hm : ∃ m, m < n /\ p m
  ·obtain ⟨m, h1, h2⟩ := hm
   exact ih m h1 h2
  ·exact ⟨n, hn, fun m h2 => Nat.le_of_not_lt fun h1 => hm ⟨m, h1, h2⟩⟩
theorem loop0N {start : Fam [] -> Prop} {round : Fam [] -> Fam []} (Inv : Nat -> Hp -> Prop) (h0 : start fun h => ∃ n, Inv n h) (hr : ∀ n h, Inv n h -> ∀ J : Hp -> Prop, (∀ m h', m < n -> Inv m h' -> J h') -> round J h) : LoopK [] start round := by
 classical
 refine loop0 (fun h => ∃ n, Inv n h) (fun h => if hx : ∃ n, Inv n h then (least hx).choose else 0) h0 fun h hI => ?_
 have hs := (least hI).choose_spec
 refine hr _ h hs.1 _ fun m h' hm hi => ⟨⟨m, hi⟩, ?_⟩
 have hI' : ∃ n, Inv n h' := ⟨m, hi⟩
 rw [dif_pos hI', dif_pos hI]
 exact Nat.lt_of_le_of_lt ((least hI').choose_spec.2 m hi) hm
inductive RunN : Nat -> Hw -> Nat -> Ph -> Hw -> Int -> Int -> Prop
 | done {H : Hw} {t : Nat} {p : Ph} : StepOk H t p -> (stepH H t p).2.1 = none -> RunN 1 H t p (stepO H t p) (stepH H t p).2.2.1 (stepH H t p).2.2.2
 | next {n : Nat} {H : Hw} {t : Nat} {p p' : Ph} {H' : Hw} {a e : Int} : StepOk H t p -> (stepH H t p).2.1 = some p' -> RunN n (stepO H t p) t p' H' a e -> RunN (n + 1) H t p H' a e
theorem stepO_ph {p : Ph} (ht : t < H.ths.length) : ∃ g, (stepO H t p).ths[t]? = some g /\ g.ph = (stepH H t p).2.1 := by
 have ht9 : t < (stepH H t p).1.ths.length := by rw [stepH_len]; exact ht
 exact ⟨{ (stepH H t p).1.ths[t] with ph := (stepH H t p).2.1 }, by simp [stepO, setPh, Hw.setT, List.getElem?_modify, List.getElem?_eq_getElem ht9], rfl⟩
end Go.Ar
namespace Go.Ar
open Go Go.Vc Go.Proofs
open Go.Bu (isPow)


variable {σ : Hp} {F : Rg}
def argOk (size align : Int) : Bool := decide (1 <= size) && (decide (1 <= align) && (decide (align <= 256) && isPow align))
def clsV (tb : List Cls) (size align : Int) : Option Nat := tb.findIdx? fun c => decide (size <= (c.size : Int)) && ((c.size : Int) % align == 0)
theorem power_ok (n : Int) (h1 : 1 <= n) (h2 : n <= 256) {R : Int -> Hp -> Prop} (hR : ∀ p : Int, (p != n) = !isPow n -> R p σ) : sizes_power.call n σ R := by
 refine sizes_power.of_vc ?_
 unfold sizes_power.vc
 refine loop2 (a := .i .i64) (bb := .i .i64) (fun (p q : Int) w => w = σ /\ (p = 0 /\ q = 1 ∨ ∃ k : Nat, k <= 8 /\ p = ((2 ^ k : Nat) : Int) /\ q = ((2 ^ (k + 1) : Nat) : Int) /\ p <= n)) (fun p q _ => 1000 - q.toNat) ⟨rfl, .inl ⟨rfl, rfl⟩⟩ ?_
 rintro (p : Int) (q : Int) w ⟨rfl, hpq⟩
 refine ifD (fun hle => ?_) fun hgt => ?_
 ·rcases hpq with ⟨rfl, rfl⟩ | ⟨k, hk, rfl, rfl, hp⟩
  ·exact arN (m := 2) (by omega) (by omega) ⟨⟨rfl, .inr ⟨0, by omega, by simp, by simp, by omega⟩⟩, by simp⟩
  ·have hk7 : k <= 7 := by
    apply Classical.byContradiction
    intro hc
    have : 2 ^ 9 <= 2 ^ (k + 1) := Nat.pow_le_pow_right (by decide) (by omega)
    omega
   have hpk := Nat.two_pow_pos (k + 1)
   exact arN (m := 2 ^ (k + 1 + 1)) (by rw [Nat.pow_succ 2 (k + 1)]; omega) (by rw [Nat.pow_succ 2 (k + 1)]; omega) ⟨⟨rfl, .inr ⟨k + 1, by omega, rfl, rfl, hle⟩⟩, by rw [Nat.pow_succ 2 (k + 1)]; omega⟩
 ·rcases hpq with ⟨rfl, rfl⟩ | ⟨k, hk, rfl, rfl, hp⟩
  ·omega
  ·refine hR _ ?_
   by_cases e : ((2 ^ k : Nat) : Int) = n
   ·have : isPow n = true := by
     unfold isPow
     rw [List.any_eq_true]
     exact ⟨k, List.mem_range.2 (by omega), by simp [← e]⟩
    rw [this, e]; simp
   ·have : isPow n = false := by
     unfold isPow
     rw [List.any_eq_false]
     intro j hj he
     have he' : n = ((2 ^ j : Nat) : Int) := by simpa using he
     rcases Nat.lt_trichotomy j k with h3 | h3 | h3
     ·have : 2 ^ (j + 1) <= 2 ^ k := Nat.pow_le_pow_right (by decide) h3
      rw [Nat.pow_succ] at this
      have := Nat.two_pow_pos j
      omega
     ·subst h3; exact e he'.symm
     ·have : 2 ^ (k + 1) <= 2 ^ j := Nat.pow_le_pow_right (by decide) h3
      omega
    rw [this]; simpa using e
theorem Class_ok {s : Sl} {xs : List (Int × Int × Int)} (ha : Acts σ s xs) (hv : validT xs = true) (size align : Int) {R : Int -> Int -> Hp -> Prop}
 (hR : ∀ σ', Ext0 σ σ' -> R (if argOk size align then ((clsV (xs.map toCls) size align).getD 0 : Nat) else 0) (if argOk size align then (if (clsV (xs.map toCls) size align).isSome then 0 else 4) else 1) σ') : sizes_Class.call s size align σ R := by
 refine sizes_Class.of_vc ?_
 unfold sizes_Class.vc
 refine nw (cs := [.int .i64 size]) fun v hz e hb => nw (cs := [.int .i64 align]) fun v1 hz1 e1 hb1 => ?_
 have hb' := e1.blk hb id
 refine Valid_ok (acts_keep0 ha (e.trans e1)) fun v2 e2 => ?_
 rw [hv]
 have hb2 := e2.blk hb' id
 have hb12 := e2.blk hb1 id
 have e02 := (e.trans e1).trans e2
 refine ifF rfl ?_
 have key : ∀ r, r = !argOk size align -> (If r (R 0 1 v2) (slices_IndexFunc_api_Class_api_Class.call s ⟨71, #[], #[.pointer (some ⟨σ.size, 0, none⟩), .pointer (some ⟨v.size, 0, none⟩)]⟩ v2 fun k v4 => If (decide (k < 0)) (R 0 4 v4) (R k 0 v4))) := by
  intro r hr
  cases hok : argOk size align with
  | false =>
   rw [hok] at hr
   have := hR v2 e02
   rw [hok] at this
   exact ifT (by rw [hr]; rfl) this
  | true =>
   rw [hok] at hr
   refine ifF (by rw [hr]; rfl) ?_
   have hok' := hok
   simp only [argOk, Bool.and_eq_true, decide_eq_true_eq] at hok'
   refine slices_IndexFunc_api_Class_api_Class.of_vc ?_
   unfold slices_IndexFunc_api_Class_api_Class.vc
   have hlen := ha.1
   have hxl := ((validT_iff xs).1 hv).2.1
   refine loop1 (a := .i .i64) (fun (z : Int) w => ∃ i : Nat, z = (i : Int) /\ i <= xs.length /\ Ext0 v2 w /\ ∀ j c, j < i -> (xs.map toCls)[j]? = some c -> (decide (size <= (c.size : Int)) && ((c.size : Int) % align == 0)) = false) (fun z _ => xs.length - z.toNat) ⟨0, rfl, by omega, Ext.refl _ _, fun j c h => by omega⟩ ?_
   rintro (z : Int) w ⟨i, rfl, hi, ew, hno⟩
   refine ifD (fun hlt => ?_) fun hge => ?_
   ·have hi' : i < xs.length := by omega
    have hc : (xs.map toCls)[i]? = some (toCls xs[i]) := by simp [hi']
    generalize toCls xs[i] = c at hc
    have haw := acts_keep0 ha (e02.trans ew)
    obtain ⟨hx, hcok⟩ := acts_cls haw hv hc
    refine acts_rd haw hx ?_
    refine callF (all := #[.agg #[.int .i64 (c.size : Int), .int .i64 (c.pages : Int), .int .i64 (c.batch : Int)], .pointer (some ⟨σ.size, 0, none⟩), .pointer (some ⟨v.size, 0, none⟩)]) (by kernel_rfl) (by simp) ?_
    refine sizes_Class_L1.of_vc ?_
    unfold sizes_Class_L1.vc
    refine nw (cs := [.int .i64 (c.size : Int), .int .i64 (c.pages : Int), .int .i64 (c.batch : Int)]) fun w1 hz1 e1 hbw => ?_
    have hs1 := e1.blk (ew.blk hb2 id) id
    have hs2 := e1.blk (ew.blk hb12 id) id
    have ew1 := ew.trans e1
    have go : ∀ r, r = (decide (size <= (c.size : Int)) && ((c.size : Int) % align == 0)) -> If r (If (decide ((i : Int) < 0)) (R 0 4 w1) (R (i : Int) 0 w1)) (Ar .i64 ((i : Int) + 1) fun t18 => (∃ i : Nat, t18 = (i : Int) /\ i <= xs.length /\ Ext0 v2 w1 /\ ∀ j c, j < i -> (xs.map toCls)[j]? = some c -> (decide (size <= (c.size : Int)) && ((c.size : Int) % align == 0)) = false) /\ xs.length - t18.toNat < xs.length - (i : Int).toNat) := by
     intro r hr
     refine iff_ (fun h1 => ifDF (by omega) ?_) fun h0 => ?_
     ·have hf : clsV (xs.map toCls) size align = some i := by
       obtain ⟨hi1, rfl⟩ := List.getElem?_eq_some_iff.1 hc
       exact List.findIdx?_eq_some_iff_getElem.2 ⟨hi1, by rw [← hr]; exact h1, fun j hj => by rw [hno j _ hj (List.getElem?_eq_getElem (by omega))]; simp⟩
      have := hR w1 (e02.trans ew1)
      rw [hok, hf] at this
      exact this
     ·exact arN (m := i + 1) (by omega) (by omega) ⟨⟨i + 1, rfl, by omega, ew1, fun j d hj hd => by
       by_cases e : j = i
       ·subst e; rw [hc] at hd; cases hd; rw [← hr]; exact h0
       ·exact hno j d (by omega) hd⟩, by omega⟩
    refine hbw.rI rfl (hs1.rI0 rfl ?_)
    refine jnB_p (fun r w => w = w1 /\ r = (decide (size <= (c.size : Int)) && ((c.size : Int) % align == 0))) (fun r w ⟨hw, hr⟩ => by subst hw; exact go r hr) fun J hJ => ?_
    refine ifD (fun hge => hbw.rI rfl (hs2.rI0 rfl (nz (by omega) (hJ _ _ ⟨rfl, ?_⟩)))) fun hlt2 => hJ _ _ ⟨rfl, ?_⟩
    ·rw [tmod_nn (by omega), decide_eq_true (by omega : size <= (c.size : Int)), Bool.true_and]
    ·rw [decide_eq_false (by omega), Bool.false_and]
   ·have hf : clsV (xs.map toCls) size align = none := by
     unfold clsV
     rw [List.findIdx?_eq_none_iff]
     intro c hc
     obtain ⟨j, hj⟩ := List.getElem?_of_mem hc
     have := (List.getElem?_eq_some_iff.1 hj).1
     simp at this
     exact hno j c (by omega) hj
    have := hR w (e02.trans ew)
    rw [hok, hf] at this
    exact ifDT (by decide) this
 refine jnP2c (fun r w => w = v2 /\ r = !argOk size align) (fun r w ⟨hw, hr⟩ => by subst hw; exact key r hr) fun J hJ => ?_
 have rd1 : ∀ m, m = v2 -> cell m ⟨σ.size, 0, none⟩ = some (.int .i64 size) := fun m hm => by rw [hm, hb2.cell]; rfl
 have rd2 : ∀ m, m = v2 -> cell m ⟨v.size, 0, none⟩ = some (.int .i64 align) := fun m hm => by rw [hm, hb12.cell]; rfl
 refine ⟨fun m => m = v2, rfl, ⟨size, rd1, ?_⟩⟩
 refine ifD (fun h1 => hJ _ _ ⟨rfl, ?_⟩) fun h1 => ⟨align, rd2, ifD (fun h2 => hJ _ _ ⟨rfl, ?_⟩) fun h2 => ⟨align, rd2, ifD (fun h3 => hJ _ _ ⟨rfl, ?_⟩) fun h3 => ⟨align, rd2, ⟨align, rd2, ?_⟩⟩⟩⟩
 ·simp only [argOk, decide_eq_false (by omega : ¬ 1 <= size), Bool.false_and, Bool.not_false]
 ·simp only [argOk, decide_eq_false (by omega : ¬ 1 <= align), Bool.false_and, Bool.and_false, Bool.not_false]
 ·simp only [argOk, decide_eq_false (by omega : ¬ align <= 256), Bool.false_and, Bool.and_false, Bool.not_false]
 ·refine power_ok align (by omega) (by omega) fun p hp => ⟨rfl, hJ _ _ ⟨rfl, ?_⟩⟩
  rw [hp]
  simp only [argOk, decide_eq_true (by omega : 1 <= size), decide_eq_true (by omega : 1 <= align), decide_eq_true (by omega : align <= 256), Bool.true_and]
end Go.Ar
namespace Go.Ar
open Go Go.Vc Go.Proofs


variable {σ u u' : Hp} {F B P Q : Rg} {L : LayH} {H H' : Hw} {t k n pb : Nat} {A : AR} {Y : Lay} {x : LayT} {g : Th} {c : Cls} {l : Li} {cs : List Value}
def clsT (c : Cls) : Int × Int × Int := ((c.size : Int), (c.pages : Int), (c.batch : Int))
theorem clsT_map (tb : List Cls) : (tb.map clsT).map toCls = tb := by
 rw [List.map_map]
 conv => rhs; rw [← List.map_id tb]
 apply List.map_congr_left
 intro c _
 rfl
theorem tab_acts {s : Sl} {tb : List Cls} (h : SlR s 3 (tabV tb) σ F) : Acts σ s (tb.map clsT) := by
 have hl := h.1
 rw [tabV_len] at hl
 refine ⟨by simp; omega, fun i x y z hx => ?_⟩
 rw [List.getElem?_map, Option.map_eq_some_iff] at hx
 obtain ⟨c, hc, he⟩ := hx
 obtain ⟨g1, g2, g3⟩ := tabV_get hc
 simp only [clsT, Prod.mk.injEq] at he
 obtain ⟨rfl, rfl, rfl⟩ := he
 obtain ⟨b, o, ha, h0⟩ := h.cell g1
 obtain ⟨b', o', ha', h1⟩ := h.cell g2
 rw [ha] at ha'; cases ha'
 obtain ⟨b', o', ha', h2⟩ := h.cell g3
 rw [ha] at ha'; cases ha'
 exact ⟨b, o, ha, cell_lt' h0, by rw [show o + i * 3 = o + 3 * i by omega]; exact h0, by rw [show o + i * 3 + 1 = o + (3 * i + 1) by omega]; exact h1, by rw [show o + i * 3 + 2 = o + (3 * i + 2) by omega]; exact h2⟩
def TbOk (tb : List Cls) : Prop := validT (tb.map clsT) = true
def reqH (tb : List Cls) (kind size align addr : Int) : Option Ph :=
 if kind = 0 then (if 1 <= size /\ size <= 16384 then (if argOk size align then (match clsV tb size align with
  | some k => some (.take k)
  | none => some (.large ((size + 255).toNat / 256))) else none) else none)
 else if kind = 1 then some (.find addr) else if kind = 2 then some .drain else none
theorem hrequest_ok (h : HH σ F L H) (hv : TbOk H.tb) (kind size align addr : Int) {R : Value -> Hp -> Prop} (hR : ∀ σ', Ext0 σ σ' -> R (phV (reqH H.tb kind size align addr)) σ') : heap_Heap_request.call (some ⟨L.p, 0, none⟩) kind size align addr σ R := by
 refine heap_Heap_request.of_vc ?_
 unfold heap_Heap_request.vc
 refine nw (cs := [.int .i64 kind, .int .i64 size, .int .i64 align, .int .i64 addr]) fun v hz e hb => hb.rI rfl ?_
 have h' := h.keep0 e
 have hR0 := hR v e
 refine iff_ (fun hk => ?_) fun hk => ?_
 ·have hk' : kind = 0 := by simpa using hk
  have hq : reqH H.tb kind size align addr = (if 1 <= size /\ size <= 16384 then (if argOk size align then (match clsV H.tb size align with
   | some k => some (.take k)
   | none => some (.large ((size + 255).toNat / 256))) else none) else none) := by unfold reqH; rw [if_pos hk']
  rw [hq] at hR hR0
  refine hb.rI rfl (jnB_p (fun r w => w = v /\ r = !decide (1 <= size /\ size <= 16384)) (fun r w ⟨hw, hr⟩ => ?_) fun J hJ => ?_)
  ·subst hw
   by_cases hs : 1 <= size /\ size <= 16384
   ·rw [if_pos hs] at hR
    rw [decide_eq_true hs] at hr
    refine ifF (by rw [hr]; rfl) ⟨fun m => m = w, rfl, nilP ⟨L.tab, fun m hm => by rw [hm, add_lit, h'.hd.cell]; rfl, ⟨size, fun m hm => by rw [hm, add_lit, hb.cell]; rfl, ⟨align, fun m hm => by rw [hm, add_lit, hb.cell]; rfl, ?_⟩⟩⟩⟩
    refine Class_ok (tab_acts h'.tabS) hv size align fun v2 e2 => ?_
    rw [clsT_map]
    have hb2 := e2.blk hb id
    have hR2 := hR v2 (e.trans e2)
    cases hok : argOk size align with
    | false =>
     rw [hok] at hR2
     exact ifF rfl (ifF rfl hR2)
    | true =>
     rw [hok] at hR2
     simp only [if_true] at hR2 ⊢
     cases hcl : clsV H.tb size align with
     | some k => rw [hcl] at hR2; exact ifT rfl hR2
     | none =>
      rw [hcl] at hR2
      refine ifF rfl (ifT rfl (hb2.rI rfl (ar (by omega) (by omega) (ar (by omega) (by omega) (nz (by decide) (ar (by rw [tdiv_nn (by omega)]; omega) (by rw [tdiv_nn (by omega)]; omega) ?_))))))
      rw [tdiv_nn (by omega)]
      have : (size + 256 - 1) / 256 = (((size + 255).toNat / 256 : Nat) : Int) := by omega
      rw [this]; exact hR2
   ·rw [if_neg hs] at hR0
    rw [decide_eq_false hs] at hr
    exact ifT (by rw [hr]; rfl) hR0
  ·refine ifD (fun h1 => hJ _ _ ⟨rfl, ?_⟩) fun h1 => hb.rI rfl (hJ _ _ ⟨rfl, ?_⟩)
   ·rw [decide_eq_false (by omega)]; rfl
   ·by_cases h2 : size > 16384
    ·rw [decide_eq_true h2, decide_eq_false (by omega)]; rfl
    ·rw [decide_eq_false h2, decide_eq_true (by omega)]; rfl
 ·have hk' : kind ≠ 0 := by simpa using hk
  refine iff_ (fun hk1 => hb.rI rfl ?_) fun hk1 => ?_
  ·have hk1' : kind = 1 := by simpa using hk1
   unfold reqH at hR0
   rw [if_neg hk', if_pos hk1'] at hR0
   exact hR0
  ·have hk1' : kind ≠ 1 := by simpa using hk1
   refine iff_ (fun hk2 => ?_) fun hk2 => ?_
   ·have hk2' : kind = 2 := by simpa using hk2
    unfold reqH at hR0
    rw [if_neg hk', if_neg hk1', if_pos hk2'] at hR0
    exact hR0
   ·have hk2' : kind ≠ 2 := by simpa using hk2
    unfold reqH at hR0
    rw [if_neg hk', if_neg hk1', if_neg hk2'] at hR0
    exact hR0
def startH (H : Hw) (thread kind size align addr : Int) : Int ⊕ (Nat × Ph) :=
 if 0 <= thread /\ thread < (H.ths.length : Int) then (match H.ths[thread.toNat]? with
  | some g => (if g.ph = none then (match reqH H.tb kind size align addr with
   | some p => .inr (thread.toNat, p)
   | none => .inl 1) else .inl 5)
  | none => .inl 1) else .inl 1
theorem hStart_ok (h : HH σ F L H) (hv : TbOk H.tb) (thread kind size align addr : Int) {R : Int -> Hp -> Prop} (h0 : ∀ e, startH H thread kind size align addr = .inl e -> e ≠ 0 -> ∀ σ', Ext F σ σ' -> HH σ' (Grow F σ) L H -> R e σ')
 (h1 : ∀ t p, startH H thread kind size align addr = .inr (t, p) -> thread = (t : Int) -> t < H.ths.length -> ∀ σ', Ext F σ σ' -> HH σ' (Grow F σ) L (setPh H t (some p)) -> R 0 σ') : heap_Heap_Start.call (some ⟨L.p, 0, none⟩) thread kind size align addr σ R := by
 refine heap_Heap_Start.of_vc ?_
 unfold heap_Heap_Start.vc
 refine nw (cs := [.int .i64 kind, .int .i64 size, .int .i64 align, .int .i64 addr]) fun v hz e hb => ?_
 have K1 := (HK.start h).box e hz
 refine hmade_ok K1.h (ifF rfl (hthere_ok K1.h thread ?_))
 by_cases hth : 0 <= thread /\ thread < (H.ths.length : Int)
 ·obtain ⟨t, rfl⟩ : ∃ t : Nat, thread = (t : Int) := ⟨thread.toNat, by omega⟩
  have ht : t < H.ths.length := by omega
  obtain ⟨x, g, hx, hg⟩ := h.th ht
  have hst : startH H (t : Int) kind size align addr = (if g.ph = none then (match reqH H.tb kind size align addr with
   | some p => .inr (t, p)
   | none => .inl 1) else .inl 5) := by
   unfold startH
   rw [if_pos hth, Int.toNat_natCast, hg]
  refine ifF (by rw [decide_eq_true hth]; rfl) (nilP (K1.h.hd.rS rfl (K1.h.tR hx hg ⟨phV_if _, ?_⟩)))
  cases hp : g.ph with
  | some p =>
   rw [hp, if_neg (by simp)] at hst
   exact ifT (by rw [phV_nil]; rfl) (h0 5 hst (by decide) v K1.e (K1.fin h))
  | none =>
   rw [hp, if_pos rfl] at hst
   refine ifF rfl (hb.rI rfl (hb.rI rfl (hb.rI rfl (hb.rI rfl (hrequest_ok K1.h hv kind size align addr fun v3 e3 => ⟨phV_if _, ?_⟩)))))
   have K3 := K1.fr e3
   rw [phV_nil]
   cases hq : reqH H.tb kind size align addr with
   | none =>
    rw [hq] at hst
    exact ifT rfl (h0 1 hst (by decide) v3 K3.e (K3.fin h))
   | some p =>
    rw [hq] at hst
    refine ifF rfl (nilP (K3.h.hd.rS rfl (K3.h.stepP hx hg (some p) fun v4 e4 h4 => ?_)))
    have K4 := K3.to e4 h4 fun b _ hb => .inl hb
    have e5 : setPh H t (some p) = { H with ths := H.ths.set t { g with ph := some p } } := setT_eq hg _
    rw [← e5] at K4
    exact h1 t p hst rfl ht v4 K4.e (K4.fin h)
 ·have hst : startH H thread kind size align addr = .inl 1 := by unfold startH; rw [if_neg hth]
  exact ifT (by rw [decide_eq_false hth]; rfl) (h0 1 hst (by decide) v K1.e (K1.fin h))
theorem setPh_ph {p : Option Ph} (ht : t < H.ths.length) : ∃ g, (setPh H t p).ths[t]? = some g /\ g.ph = p :=
 ⟨{ H.ths[t] with ph := p }, by simp [setPh, Hw.setT, List.getElem?_modify, List.getElem?_eq_getElem ht], rfl⟩
theorem hwhole_ok (hso : SortB) (h : HH σ F L H) (hv : TbOk H.tb) (thread kind size align addr : Int) {R : Int -> Int -> Hp -> Prop} (h0 : ∀ e, startH H thread kind size align addr = .inl e -> e ≠ 0 -> ∀ σ', Ext F σ σ' -> HH σ' (Grow F σ) L H -> R 0 e σ')
 (h1 : ∀ t p, startH H thread kind size align addr = .inr (t, p) -> ∃ n H' a e, RunN n (setPh H t (some p)) t p H' a e /\ ∀ σ' ts', Ext F σ σ' -> HH σ' (Grow F σ) { L with ts := ts' } H' -> R a e σ') : heap_Heap_whole.call (some ⟨L.p, 0, none⟩) thread kind size align addr σ R := by
 refine heap_Heap_whole.of_vc ?_
 unfold heap_Heap_whole.vc
 refine nw (cs := [.int .i64 kind, .int .i64 size, .int .i64 align, .int .i64 addr]) fun v hz e hb => hb.rI rfl (hb.rI rfl (hb.rI rfl (hb.rI rfl ?_)))
 have K1 := (HK.start h).box e hz
 refine hStart_ok K1.h hv thread kind size align addr (fun er he hne v1 e1 hh1 => ?_) fun t p hst hth ht v1 e1 hh1 => ?_
 ·have K2 := K1.to e1 hh1 fun b _ hb => hb
  exact ifT (by simpa using hne) (h0 er he hne v1 K2.e (K2.fin h))
 ·subst hth
  have K2 := K1.to e1 hh1 fun b _ hb => hb
  obtain ⟨n, Hf, a, er, hrun, hfin⟩ := h1 t p hst
  refine ifF rfl (loop0N (fun n w => ∃ (B P : Rg) (ts : List LayT) (H : Hw) (p : Ph), HK F σ B w P { L with ts := ts } H /\ (∃ g, H.ths[t]? = some g /\ g.ph = some p) /\ RunN n H t p Hf a er) ⟨n, _, _, L.ts, _, p, K2, setPh_ph ht, hrun⟩ ?_)
  rintro n w ⟨B, P, ts, H2, p2, K, ⟨g, hg, hgp⟩, hrun⟩ J hJ
  have go : StepOk H2 t p2 -> ((stepH H2 t p2).2.1.isNone = true -> (stepH H2 t p2).2.2.1 = a /\ (stepH H2 t p2).2.2.2 = er /\ stepO H2 t p2 = Hf) -> ((stepH H2 t p2).2.1.isNone = false -> ∃ m p', m < n /\ (stepH H2 t p2).2.1 = some p' /\ RunN m (stepO H2 t p2) t p' Hf a er) -> heap_Heap_Step.call (some ⟨L.p, 0, none⟩) (t : Int) w fun t22 t221 t222 t223 v3 => Nw (.cells #[.int .i64 0, .int .i64 0] 97 (0, 0)) v3 fun n10 v4 => St1 (n10.add 0) (.int .i64 t221) v4 fun v5 => St1 (n10.add 1) (.int .i64 t222) v5 fun v6 => If t22 (LdI .i64 (n10.add 0) v6 fun t28 => LdI .i64 (n10.add 1) v6 fun t30 => R t28 t30 v6) (J v6) := by
   intro hok hd hn
   refine hStep_ok hso K.h hg hgp hok fun v3 ts3 e3 hh3 => ?_
   have K3 := K.to e3 hh3 fun b _ hb => hb
   refine nw (cs := [.int .i64 0, .int .i64 0]) fun v4 hz4 e4 hb4 => ?_
   have K4 := K3.box e4 hz4
   refine hb4.s1 (by simp) fun v5 o5 b5 => b5.s1 (by simp) fun v6 o6 b6 => ?_
   have K6 := (K4.own o5 (.inr rfl)).own o6 (.inr rfl)
   refine iff_ (fun ht1 => ?_) fun hf1 => ?_
   ·obtain ⟨q1, q2, q3⟩ := hd ht1
    rw [q3] at K6
    refine b6.rI rfl (b6.rI rfl ?_)
    rw [q1, q2]
    exact hfin v6 ts3 K6.e (K6.fin h)
   ·obtain ⟨m, p', hm, hp', hr'⟩ := hn hf1
    have htl : t < H2.ths.length := (List.getElem?_eq_some_iff.1 hg).1
    obtain ⟨g', hg', hgp'⟩ := stepO_ph (p := p2) htl
    exact hJ m v6 hm ⟨_, _, ts3, _, p', K6, ⟨g', hg', by rw [hgp', hp']⟩, hr'⟩
  cases hrun with
  | done hok hnone => exact go hok (fun _ => ⟨rfl, rfl, rfl⟩) fun hf => by rw [hnone] at hf; cases hf
  | next hok hsome hrun' => exact go hok (fun hf => by rw [hsome] at hf; cases hf) fun _ => ⟨_, _, Nat.lt_succ_self _, hsome, hrun'⟩
end Go.Ar
namespace Go.Ar
open Go Go.Vc Go.Proofs


variable {σ u w w' : Hp} {F B P Q : Rg} {n : Nat} {cs : List Value} {tb : List Cls} {cf : Cf}
def newHw (tb : List Cls) (cf : Cf) : Hw := ⟨tb, cf, newSp cf.pages, List.replicate cf.arenas (newA cf.pages cf.room tb), List.replicate cf.threads ⟨List.replicate tb.length liN, [], none⟩, []⟩
def cfgOk (p a t b r : Int) : Bool := decide (32 <= p) && decide (p <= 1024) && (p % 16 == 0) && decide (1 <= a) && decide (a <= 4) && decide (1 <= t) && decide (t <= 4) && decide (0 <= b) && decide (b <= 65536) && decide (0 <= r) && decide (r <= 8)
theorem lvl {K : Bool -> Hp -> Prop} {r : Bool} {a : Addr} {x : Int} {k : IntKind} {f : Int -> Bool} (hl : ∀ {K' : Int -> Prop}, K' x -> LdI k a w K') (h : K (r && f x) w) : JnB K fun J => If r (LdI k a w fun t => J (f t) w) (J false w) :=
 JnB.intro (iff_ (fun hr => hl (by rw [hr] at h; exact h)) fun hr => by rw [hr] at h; exact h)
theorem hvalid_ok (p a t b r : Int) {R : Bool -> Hp -> Prop} (hR : ∀ σ', Ext0 σ σ' -> R (cfgOk p a t b r) σ') : heap_valid.call p a t b r σ R := by
 refine heap_valid.of_vc ?_
 unfold heap_valid.vc
 refine nw (cs := [.int .i64 p, .int .i64 a, .int .i64 t, .int .i64 b, .int .i64 r]) fun v hz e hb => hb.rI rfl ?_
 have hfin := hR v e
 unfold cfgOk at hfin
 refine jnB_p (fun r' w => w = v /\ r' = (decide (32 <= p) && decide (p <= 1024))) (fun r' w ⟨hw, hr⟩ => ?_) fun J hJ => ?_
 ·subst hw; subst hr
  refine jnB_p (fun r' w2 => w2 = w /\ r' = (decide (32 <= p) && decide (p <= 1024) && (p % 16 == 0))) (fun r' w2 ⟨hw, hr⟩ => ?_) fun J hJ => ?_
  ·rw [hw]; subst hr
   exact lvl (fun hK => hb.rI rfl hK) (lvl (fun hK => hb.rI rfl hK) (lvl (fun hK => hb.rI rfl hK) (lvl (fun hK => hb.rI rfl hK) (lvl (fun hK => hb.rI rfl hK) (lvl (fun hK => hb.rI rfl hK) (lvl (fun hK => hb.rI rfl hK) (lvl (fun hK => hb.rI rfl hK) hfin)))))))
  ·refine iff_ (fun h1 => hb.rI rfl (nz (by decide) (hJ _ _ ⟨rfl, ?_⟩))) fun h0 => hJ _ _ ⟨rfl, ?_⟩
   ·simp only [Bool.and_eq_true, decide_eq_true_eq] at h1
    rw [tmod_nn (by omega), decide_eq_true h1.1, decide_eq_true h1.2]; rfl
   ·rw [h0]; rfl
 ·refine ifD (fun h1 => hb.rI rfl (hJ _ _ ⟨rfl, ?_⟩)) fun h0 => hJ _ _ ⟨rfl, ?_⟩
  ·rw [decide_eq_true (by omega : 32 <= p)]; rfl
  ·rw [decide_eq_false (by omega)]; rfl
structure NwS where
 p : Nat
 tab : Sl
 lm : Nat
 hs : Option Nat
 hp : Option Nat
 aw : Sl
 al : List Nat
 ha : Sl
 tw : Sl
 tl : List Value
 ht : Sl
 ys : List Lay
 cs : List LayC
def hdW (cf : Cf) (N : NwS) : List Value := [.slice N.tab.a N.tab.len N.tab.cap, .int .i64 (cf.pages : Int), .int .i64 (cf.arenas : Int), .int .i64 (cf.threads : Int), .int .i64 (cf.budget : Int), .int .i64 (cf.room : Int),
 .pointer (N.hp.map fun q => ⟨q, 0, none⟩), .slice N.ha.a N.ha.len N.ha.cap, .slice N.ht.a N.ht.len N.ht.cap, .map (some N.lm)]
def ArN (n room : Nat) (tb : List Cls) (y : Option Lay) : Hp -> Rg -> Prop := fun σ F => match y with
 | some Y => AHY σ F Y (newA n room tb) (traT (newA n room tb) Y)
 | none => True
def CaN (tb : List Cls) (bud : Nat) (y : Option LayC) : Hp -> Rg -> Prop := fun σ F => match y with
 | some Y => CaY σ F Y tb bud (List.replicate tb.length liN)
 | none => True
def SpN (n : Nat) (q : Option Nat) : Hp -> Rg -> Prop := fun σ F => match q with
 | some q => SpH3 σ F q (newSp n)
 | none => True
def CNW (tb : List Cls) (cf : Cf) (N : NwS) : LbH -> Hp -> Rg -> Prop
 | .hd => BlkR N.p (hdW cf N)
 | .tab => SlR N.tab 3 (tabV tb)
 | .sp => SpN cf.pages N.hs
 | .arow => RowR N.aw 1 (ptrV N.al)
 | .trow => RowR N.tw 3 N.tl
 | .live => MapR N.lm .i64 (.ag 4) []
 | .ar k => ArN cf.pages cf.room tb N.ys[k]?
 | .ca k => CaN tb cf.budget N.cs[k]?
 | .hn _ => fun _ _ => True
theorem ArN.loc (n room : Nat) (tb : List Cls) (y : Option Lay) : Lcl (ArN n room tb y) := by
 intro σ σ' F G h hz hs
 cases y with
 | some Y => exact AHY.loc _ _ _ _ h hz hs
 | none => trivial
theorem CaN.loc (tb : List Cls) (bud : Nat) (y : Option LayC) : Lcl (CaN tb bud y) := by
 intro σ σ' F G h hz hs
 cases y with
 | some Y => exact CaY.loc _ _ _ _ h hz hs
 | none => trivial
theorem SpN.loc (n : Nat) (q : Option Nat) : Lcl (SpN n q) := by
 intro σ σ' F G h hz hs
 cases q with
 | some q => exact SpH3.loc _ _ _ _ h hz hs
 | none => trivial
theorem CNW.loc {N : NwS} : ∀ i, Lcl (CNW tb cf N i)
 | .hd => BlkR.loc _ _
 | .tab => SlR.loc _ _ _
 | .sp => SpN.loc _ _
 | .arow => RowR.loc _ _ _
 | .trow => RowR.loc _ _ _
 | .live => MapR.loc _ _ _ _
 | .ar k => ArN.loc _ _ _ _
 | .ca k => CaN.loc _ _ _
 | .hn _ => fun _ _ _ _ _ _ _ => trivial
structure NK (σ : Hp) (B : Rg) (w : Hp) (P : Rg) (tb : List Cls) (cf : Cf) (N : NwS) : Prop where
 sep : Sep (CNW tb cf N) w P
 e : Ext0 σ w
 p : ∀ b, P b -> σ.size <= b /\ ¬ B b /\ b < w.size
 b : ∀ b, B b -> σ.size <= b /\ b < w.size
variable {N N' : NwS}
theorem NK.fr (K : NK σ B w P tb cf N) (e : Ext0 w w') : NK σ B w' P tb cf N :=
 ⟨(Sep.loc CNW.loc).keep0 K.sep e, K.e.trans e, fun b hb => ⟨(K.p b hb).1, (K.p b hb).2.1, by have := (K.p b hb).2.2; have := e.1; omega⟩, fun b hb => by have := K.b b hb; have := e.1; omega⟩
theorem NK.box (K : NK σ B w P tb cf N) (e : Ext0 w w') (hz : w'.size = w.size + 1) : NK σ (fun b => B b ∨ b = w.size) w' P tb cf N := by
 have h := K.fr e
 have hs := K.e.1
 exact ⟨h.sep, h.e, fun b hb => ⟨(K.p b hb).1, fun hx => hx.elim (K.p b hb).2.1 fun hy => by have := (K.p b hb).2.2; omega, (h.p b hb).2.2⟩, fun b hb => hb.elim (h.b b) fun hy => by omega⟩
theorem NK.drop (K : NK σ B w P tb cf N) {B' : Rg} (hb : ∀ b, B' b -> B b) : NK σ B' w P tb cf N := ⟨K.sep, K.e, fun b h => ⟨(K.p b h).1, fun hx => (K.p b h).2.1 (hb b hx), (K.p b h).2.2⟩, fun b h => K.b b (hb b h)⟩
theorem NK.put (K : NK σ B w P tb cf N) (e : Ext0 w w') (i : LbH) (hj : ∀ j, j ≠ i -> CNW tb cf N' j = CNW tb cf N j) (hi : CNW tb cf N' i w' (fun b => w.size <= b)) : NK σ B w' (fun b => P b ∨ w.size <= b /\ b < w'.size) tb cf N' := by
 have h := K.fr e
 have hs := K.e.1
 refine ⟨h.sep.put CNW.loc i (G := fun b => w.size <= b /\ b < w'.size) (fun b hb hp => by have := (K.p b hp).2.2; omega) hj ((CNW.loc i).mono hi fun b hb hx => ⟨hx, hb⟩) (CNW.loc i), h.e, fun b hb => ?_, h.b⟩
 rcases hb with hb | hb
 ·exact h.p b hb
 ·exact ⟨by omega, fun hx => by have := (K.b b hx).2; omega, hb.2⟩
theorem NK.step (K : NK σ B w P tb cf N) (i : LbH) : ∃ G : Rg, (∀ b, G b -> P b) /\ CNW tb cf N i w G /\ ∀ (w' : Hp) (N' : NwS) (G' : Rg), (∀ j, j ≠ i -> CNW tb cf N' j = CNW tb cf N j) -> Ext G w w' -> (∀ b, G' b -> G b ∨ w.size <= b /\ ¬ B b) -> CNW tb cf N' i w' G' -> (∀ b, B b -> b < w'.size) →
 NK σ B w' (fun b => (P b /\ ¬ G b ∨ G' b) /\ b < w'.size) tb cf N' := by
 obtain ⟨G, hG, hi, _, hput⟩ := K.sep.stepD CNW.loc i
 refine ⟨G, hG, hi, fun w' N' G' hj e hg h' hB => ⟨?_, ?_, fun b hb => ?_, fun b hb => ⟨(K.b b hb).1, hB b hb⟩⟩⟩
 ·have := hput w' (CNW tb cf N') G' hj e (fun b hb => (hg b hb).imp id fun hx => hx.1) h' (CNW.loc _)
  refine (Sep.loc CNW.loc).mono this fun b hb hx => ⟨?_, hb⟩
  exact hx.imp (fun hx => ⟨hx.1, hx.2.2⟩) id
 ·exact Ext.newT K.e e fun b hb => .inr (K.p b (hG b hb)).1
 ·have hs := K.e.1
  rcases hb.1 with h1 | h1
  ·exact ⟨(K.p b h1.1).1, (K.p b h1.1).2.1, hb.2⟩
  ·rcases hg b h1 with h2 | h2
   ·exact ⟨(K.p b (hG b h2)).1, (K.p b (hG b h2)).2.1, hb.2⟩
   ·exact ⟨by omega, h2.2, hb.2⟩
theorem jnPp {K : Fam [.p]} {body : Fam [.p] -> Prop} (P : Option Addr -> Hp -> Prop) (h1 : ∀ r w, P r w -> K r w) (h2 : ∀ J : Fam [.p], (∀ r w, P r w -> J r w) -> body J) : Jn [.p] K body := Jn.intro (h2 K h1)
def nilS : Sl := ⟨none, 0, 0⟩
def tlv (cs : List LayC) : List Value := cs.flatMap fun c => [.pointer (some ⟨c.p, 0, none⟩), .slice none 0 0, .nilIface]
def N0 (p : Nat) (tab : Sl) (lm : Nat) : NwS := ⟨p, tab, lm, none, none, nilS, [], nilS, nilS, [], nilS, [], []⟩
def NB (p : Nat) (tab : Sl) (lm q : Nat) (aw : Sl) (ys : List Lay) (tw : Sl) (cs : List LayC) : NwS := ⟨p, tab, lm, some q, some q, aw, ys.map (·.p), aw, tw, tlv cs, tw, ys, cs⟩
theorem NK0 {p lm : Nat} {tab : Sl} {D : Rg} (e : Ext0 σ w) (hz : σ.size < w.size) (hp : Blk w p (hdW cf (N0 p tab lm))) (hm : MapL w lm .i64 (.ag 4) []) (ht : SlR tab 3 (tabV tb) w D) (hD : ∀ b, D b -> σ.size < b /\ b < w.size /\ b ≠ p /\ b ≠ lm) (hpl : p ≠ lm) (h1 : σ.size < p) (h2 : σ.size < lm) :
 NK σ (· = σ.size) w (fun b => D b ∨ b = p ∨ b = lm) tb cf (N0 p tab lm) := by
 have hpw := hp.lt
 have hlw := hm.lt
 refine ⟨⟨fun b => if b = p then .hd else if b = lm then .live else .tab, fun i => ?_⟩, e, fun b hb => ?_, fun b hb => by omega⟩
 ·cases i with
  | hd => exact ⟨⟨.inr (.inl rfl), if_pos rfl⟩, hp⟩
  | live => exact ⟨⟨.inr (.inr rfl), by show (if lm = p then LbH.hd else if lm = lm then LbH.live else LbH.tab) = .live; rw [if_neg (Ne.symm hpl), if_pos rfl]⟩, hm⟩
  | tab => exact (SlR.loc _ _ _).mono ht fun b _ hb => ⟨.inl hb, by show (if b = p then LbH.hd else if b = lm then LbH.live else LbH.tab) = .tab; rw [if_neg (hD b hb).2.2.1, if_neg (hD b hb).2.2.2]⟩
  | sp => trivial
  | arow => exact RowR.nil _ _ _ _
  | trow => exact RowR.nil _ _ _ _
  | ar k => trivial
  | ca k => trivial
  | hn k => trivial
 ·rcases hb with hb | hb | hb
  ·have := hD b hb; omega
  ·omega
  ·omega
theorem NK.hdB (K : NK σ B w P tb cf N) : P N.p /\ Blk w N.p (hdW cf N) := by
 obtain ⟨G, hG, hb⟩ := K.sep.get .hd
 exact ⟨hG _ hb.1, hb.2⟩
theorem NK.hdr (K : NK σ B w P tb cf N) (N' : NwS) (hN' : ∀ j, j ≠ .hd -> CNW tb cf N' j = CNW tb cf N j) (hp : N'.p = N.p) {i : Nat} {v : Value} (hs : (hdW cf N).set i v = hdW cf N') (hi : i < 10) {Kk : Hp -> Prop} (hK : ∀ w' P', NK σ B w' P' tb cf N' -> OnlyB w w' N.p -> Kk w') : St1 (Addr.add ⟨N.p, 0, none⟩ i) v w Kk := by
 obtain ⟨G, hG, hb, hput⟩ := K.step .hd
 have hb : BlkR N.p (hdW cf N) w G := hb
 refine hb.2.s1 (by simpa [hdW] using hi) fun w' o b' => hK w' _ (hput w' N' G hN' (o.ext.sub fun x hx => by rw [hx]; exact hb.1) (fun x hx => .inl hx) ?_ fun x hx => by have := (K.b x hx).2; have := o.1; omega) o
 show BlkR N'.p (hdW cf N') w' G
 rw [Nat.zero_add, hs] at b'
 rw [hp]; exact ⟨hb.1, b'⟩
theorem CNW_ar {Y : Lay} (h : N'.ys = N.ys ++ [Y]) (hr : ∀ j, (∀ k, j ≠ .ar k) -> CNW tb cf N' j = CNW tb cf N j) : ∀ j, j ≠ LbH.ar N.ys.length -> CNW tb cf N' j = CNW tb cf N j := by
 intro j hj
 cases j with
 | ar k =>
  have hk : k ≠ N.ys.length := fun e => hj (by rw [e])
  show ArN _ _ _ N'.ys[k]? = ArN _ _ _ N.ys[k]?
  rw [h]
  congr 1
  rcases Nat.lt_or_gt_of_ne hk with h1 | h1
  ·rw [List.getElem?_append_left h1]
  ·rw [List.getElem?_eq_none (by simp; omega), List.getElem?_eq_none (by omega)]
 | _ => exact hr _ (fun k e => by cases e)
theorem CNW_ca {Y : LayC} (h : N'.cs = N.cs ++ [Y]) (hr : ∀ j, (∀ k, j ≠ .ca k) -> CNW tb cf N' j = CNW tb cf N j) : ∀ j, j ≠ LbH.ca N.cs.length -> CNW tb cf N' j = CNW tb cf N j := by
 intro j hj
 cases j with
 | ca k =>
  have hk : k ≠ N.cs.length := fun e => hj (by rw [e])
  show CaN _ _ N'.cs[k]? = CaN _ _ N.cs[k]?
  rw [h]
  congr 1
  rcases Nat.lt_or_gt_of_ne hk with h1 | h1
  ·rw [List.getElem?_append_left h1]
  ·rw [List.getElem?_eq_none (by simp; omega), List.getElem?_eq_none (by omega)]
 | _ => exact hr _ (fun k e => by cases e)
end Go.Ar
namespace Go.Ar
open Go Go.Vc Go.Proofs


variable {σ u w w' : Hp} {F B P Q : Rg} {n : Nat} {cs : List Value} {tb : List Cls} {cf : Cf} {N : NwS}
theorem cfgOk_iff (p a t b r : Int) : cfgOk p a t b r = true ↔ (32 <= p /\ p <= 1024 /\ p % 16 = 0) /\ (1 <= a /\ a <= 4) /\ (1 <= t /\ t <= 4) /\ (0 <= b /\ b <= 65536) /\ 0 <= r /\ r <= 8 := by
 simp only [cfgOk, Bool.and_eq_true, decide_eq_true_eq, beq_iff_eq]; omega
theorem newGl (g : Gl σ) (gd : Gd σ) : Off (fun b => σ.size <= b) /\ ¬ (σ.size <= 1) := by
 refine ⟨?_, fun h => by have := gdH_lt gd; omega⟩
 have h0 : Off (fun _ => False) := fun b hb => hb.elim
 exact (h0.grow g).sub fun b hb => .inr hb
theorem trV_new (cs : List LayC) (ls : List Li) : trV (cs.map fun c => ⟨c, nilS⟩) (List.replicate cs.length ⟨ls, [], none⟩) = tlv cs := by
 induction cs with
 | nil => rfl
 | cons c cs ih =>
  have e1 : trV ((c :: cs).map fun c => (⟨c, nilS⟩ : LayT)) (List.replicate (c :: cs).length ⟨ls, [], none⟩) = thV (⟨c, nilS⟩, ⟨ls, [], none⟩) ++ trV (cs.map fun c => (⟨c, nilS⟩ : LayT)) (List.replicate cs.length ⟨ls, [], none⟩) := rfl
  rw [e1, ih]; rfl
theorem tlv_len (cs : List LayC) : (tlv cs).length = cs.length * 3 := by
 induction cs with
 | nil => rfl
 | cons c cs ih => simp only [tlv, List.flatMap_cons, List.length_append, List.length_cons, List.length_nil] at *; omega
set_option maxRecDepth 8000 in
theorem HNew_ok {s : Sl} {xs : List (Int × Int × Int)} (ha : Acts σ s xs) (g : Gl σ) (gd : Gd σ) (p a t b r : Int) {R : Option Addr -> Int -> Hp -> Prop}
 (h2 : validT xs = false -> ∀ σ', Ext0 σ σ' -> R none 2 σ')
 (h1 : validT xs = true -> cfgOk p a t b r = false -> ∀ σ', Ext0 σ σ' -> R none 1 σ')
 (h0 : validT xs = true -> cfgOk p a t b r = true -> ∀ σ' L, Ext0 σ σ' -> HH σ' (fun q => σ.size <= q) L (newHw (xs.map toCls) ⟨p.toNat, a.toNat, t.toNat, b.toNat, r.toNat⟩) -> R (some ⟨L.p, 0, none⟩) 0 σ') :
 heap_New.call s p a t b r σ R := by
 refine heap_New.of_vc ?_
 unfold heap_New.vc
 refine nw (cs := [.int .i64 p, .int .i64 a, .int .i64 t, .int .i64 b, .int .i64 r]) fun v hz e hb => ?_
 refine Valid_ok (acts_keep0 ha e) fun v1 e1 => ?_
 cases hv : validT xs with
 | false => exact ifT rfl (h2 hv v1 (e.trans e1))
 | true =>
 have hb1 := e1.blk hb id
 refine ifF rfl (hb1.rI rfl (hb1.rI rfl (hb1.rI rfl (hb1.rI rfl (hb1.rI rfl (hvalid_ok p a t b r fun v2 e2 => ?_))))))
 have e02 := (e.trans e1).trans e2
 cases hc : cfgOk p a t b r with
 | false => exact ifT rfl (h1 hv hc v2 e02)
 | true =>
 have hcf := (cfgOk_iff p a t b r).1 hc
 obtain ⟨p, rfl⟩ : ∃ n : Nat, p = (n : Int) := ⟨p.toNat, by omega⟩
 obtain ⟨a, rfl⟩ : ∃ n : Nat, a = (n : Int) := ⟨a.toNat, by omega⟩
 obtain ⟨t, rfl⟩ : ∃ n : Nat, t = (n : Int) := ⟨t.toNat, by omega⟩
 obtain ⟨b, rfl⟩ : ∃ n : Nat, b = (n : Int) := ⟨b.toNat, by omega⟩
 obtain ⟨r, rfl⟩ : ∃ n : Nat, r = (n : Int) := ⟨r.toNat, by omega⟩
 simp only [Int.toNat_natCast] at h0
 have h0 := h0 hv hc
 have hb2 := e2.blk hb1 id
 have hxl := (validT_iff xs).1 hv
 have hz2 := e02.1
 have hz02 : σ.size < v2.size := hb2.lt
 generalize hcfd : (⟨p, a, t, b, r⟩ : Cf) = cf at h0
 generalize htbd : xs.map toCls = tb at h0
 have hdE : ∀ (q : Nat) (tab : Sl) (lm : Nat), hdW cf (N0 q tab lm) = [.slice tab.a tab.len tab.cap, .int .i64 (p : Int), .int .i64 (a : Int), .int .i64 (t : Int), .int .i64 (b : Int), .int .i64 (r : Int), .pointer none, .slice none 0 0, .slice none 0 0, .map (some lm)] := fun q tab lm => by rw [← hcfd]; rfl
 refine ifF rfl (jnPp (fun vh w => ∃ P q tab lm, vh = some ⟨q, 0, none⟩ /\ NK σ (· = σ.size) w P tb cf (N0 q tab lm) /\ Blk w σ.size [.int .i64 (p : Int), .int .i64 (a : Int), .int .i64 (t : Int), .int .i64 (b : Int), .int .i64 (r : Int)]) (fun vh w ⟨P, q, tab, lm, hvh, K, hbw⟩ => ?_) fun J hJ => ?_)
 ·subst hvh
  refine hbw.rI rfl (SpcNew_ok (n := p) (by omega) (by omega) fun v4 sp e4 _ hS => ?_)
  have hp : cf.pages = p := by rw [← hcfd]
  have hroom : cf.room = r := by rw [← hcfd]
  have hbud : cf.budget = b := by rw [← hcfd]
  have K1 : NK σ (· = σ.size) v4 _ tb cf { N0 q tab lm with hs := some sp } := K.put e4 .sp (fun j hj => by cases j <;> first | rfl | exact absurd rfl hj) (by
   show SpH3 v4 _ sp (newSp cf.pages)
   rw [hp]; exact hS)
  have hbw4 := e4.blk hbw id
  refine nilP (K1.hdr (NB q tab lm sp nilS [] nilS []) (fun j hj => by cases j <;> first | rfl | exact absurd rfl hj) rfl (i := 6) rfl (by omega) fun v5 P5 K5 o5 => ?_)
  have hnep : ∀ {w : Hp} {P : Rg} {N : NwS}, NK σ (· = σ.size) w P tb cf N -> σ.size ≠ N.p := fun K e => (K.p _ K.hdB.1).2.1 e.symm
  have hbw5 := only_blk o5 hbw4 (hnep K1)
  refine hbw5.rI rfl ?_
  refine loop1 (a := .i .i64) (fun (z : Int) w => ∃ (P : Rg) (aw : Sl) (ys : List Lay), z = (ys.length : Int) /\ ys.length <= a /\ (∀ Y ∈ ys, Y.hs = sp) /\ NK σ (· = σ.size) w P tb cf (NB q tab lm sp aw ys nilS []) /\ Blk w σ.size [.int .i64 (p : Int), .int .i64 (a : Int), .int .i64 (t : Int), .int .i64 (b : Int), .int .i64 (r : Int)]) (fun z _ => a - z.toNat) ⟨P5, nilS, [], rfl, by simp, by simp, K5, hbw5⟩ ?_
  rintro (z : Int) w6 ⟨P6, aw, ys, rfl, hyl, hys, K6, hbw6⟩
  refine ifD (fun hlt => ?_) fun hge => ?_
  ·refine ⟨fun u => u = w6, rfl, nilP ⟨some ⟨sp, 0, none⟩, fun u hu => by cases hu; rw [add_lit]; exact (Blk.cell (b := q) K6.hdB.2).trans rfl, ⟨(r : Int), fun u hu => by cases hu; rw [add_lit, hbw6.cell]; rfl, ?_⟩⟩⟩
   obtain ⟨GS, hGS, hSp⟩ := K6.sep.get .sp
   have hSp : SpH3 w6 GS sp (newSp cf.pages) := hSp
   have hnl : (newSp cf.pages).st.length = p := by rw [hp]; simp [newSp]
   have hnE : newE xs (newSp cf.pages).st.length (r : Int) = 0 := by
    unfold newE
    rw [if_pos hv, hnl, if_pos (by omega)]
   refine ANew_ok (acts_keep0 ha K6.e) hSp (r : Int) (fun hne => absurd hnE hne) fun _ v7 Y e7 hYh hA => ?_
   rw [hnl, Int.toNat_natCast, htbd] at hA
   have K7 : NK σ (· = σ.size) v7 _ tb cf { NB q tab lm sp aw ys nilS [] with ys := ys ++ [Y] } := K6.put e7 (.ar ys.length) (CNW_ar (N := NB q tab lm sp aw ys nilS []) rfl (fun j hj => by
    cases j with
    | ar k => exact absurd rfl (hj k)
    | _ => rfl)) (by
    show ArN cf.pages cf.room tb (ys ++ [Y])[ys.length]? v7 _
    rw [List.getElem?_append_right (Nat.le_refl _), Nat.sub_self, hp, hroom]
    exact hA)
   have hbw7 := e7.blk hbw6 id
   refine nilP (K7.hdB.2.rS (a := aw.a) (n := aw.len) (c := aw.cap) rfl (nw (cs := [.pointer (some ⟨Y.p, 0, none⟩)]) fun v8 hz8 e8 hb8 => ?_))
   have K8 := K7.box e8 hz8
   obtain ⟨G, hG, hrow, hput⟩ := K8.step .arow
   have hrow : RowR aw 1 (ptrV (ys.map (·.p))) v8 G := hrow
   have hal : aw.len = ys.length := by have := hrow.1; simp [ptrV] at this; omega
   refine hrow.app (ys := [.pointer (some ⟨Y.p, 0, none⟩)]) rfl rfl ?_ (by simp [one1]) ?_ ?_ Nat.zero_lt_one fun s' v9 _ e9 hr9 => ?_
   ·intro j u hu
    rw [add_lit, Nat.zero_add, hb8.cell]; exact hu
   ·simp only; omega
   ·simp only; omega
   have hz9 := e9.1
   have hbw9 : Blk v9 σ.size _ := e9.blk (e8.blk hbw7 id) fun hx => (K8.p _ (hG _ hx)).2.1 (.inl rfl)
   have K9 := (hput v9 { NB q tab lm sp aw ys nilS [] with ys := ys ++ [Y], aw := s', al := (ys ++ [Y]).map (·.p) } (fun b => Grow G v8 b /\ b < v9.size) (fun j hj => by cases j <;> first | rfl | exact absurd rfl hj) e9 (fun b hb => hb.1.imp id fun hx => ⟨hx, fun hB => by have := (K8.b b hB).2; omega⟩) (by
    show RowR s' 1 (ptrV ((ys ++ [Y]).map (·.p))) v9 _
    have : ptrV ((ys ++ [Y]).map (·.p)) = ptrV (ys.map (·.p)) ++ [.pointer (some ⟨Y.p, 0, none⟩)] := by simp [ptrV]
    rw [this]
    exact (RowR.loc _ _ _).mono hr9 fun b hb hx => ⟨hx, hb⟩) fun b hB => by have := (K8.b b hB).2; omega).drop (B' := (· = σ.size)) fun b hb => .inl hb
   refine nilP (K9.hdr (NB q tab lm sp s' (ys ++ [Y]) nilS []) (fun j hj => by cases j <;> first | rfl | exact absurd rfl hj) rfl (i := 7) rfl (by omega) fun v10 P10 K10 o10 => ?_)
   have hbw10 := only_blk o10 hbw9 (hnep K9)
   exact arN (m := ys.length + 1) (by omega) (by omega) ⟨⟨P10, s', ys ++ [Y], by simp, by simp; omega, fun Z hZ => (List.mem_append.1 hZ).elim (hys Z) fun h => by
    rw [List.mem_singleton] at h; rw [h]; exact hYh, K10, hbw10⟩, by omega⟩
  ·have hya : ys.length = a := by omega
   refine hbw6.rI rfl ?_
   refine loop1 (a := .i .i64) (fun (z : Int) w => ∃ (P : Rg) (tw : Sl) (cs : List LayC), z = (cs.length : Int) /\ cs.length <= t /\ NK σ (· = σ.size) w P tb cf (NB q tab lm sp aw ys tw cs) /\ Blk w σ.size [.int .i64 (p : Int), .int .i64 (a : Int), .int .i64 (t : Int), .int .i64 (b : Int), .int .i64 (r : Int)]) (fun z _ => t - z.toNat) ⟨P6, nilS, [], rfl, by simp, K6, hbw6⟩ ?_
   rintro (z : Int) w7 ⟨P7, tw, cs, rfl, hcsl, K7, hbw7⟩
   refine ifD (fun hlt => ?_) fun hge2 => ?_
   ·refine hbw7.rI rfl (KNew_ok (acts_keep0 ha K7.e) (b : Int) (fun hvf => by rw [hv] at hvf; cases hvf) (fun _ hn => absurd ⟨by omega, by omega⟩ hn) fun _ _ _ v8 Y e8 hC => ?_)
    rw [Int.toNat_natCast, htbd] at hC
    have K8 : NK σ (· = σ.size) v8 _ tb cf { NB q tab lm sp aw ys tw cs with cs := cs ++ [Y] } := K7.put e8 (.ca cs.length) (CNW_ca (N := NB q tab lm sp aw ys tw cs) rfl (fun j hj => by
     cases j with
     | ca k => exact absurd rfl (hj k)
     | _ => rfl)) (by
     show CaN tb cf.budget (cs ++ [Y])[cs.length]? v8 _
     rw [List.getElem?_append_right (Nat.le_refl _), Nat.sub_self, hbud]
     exact hC)
    have hbw8 := e8.blk hbw7 id
    refine nilP (K8.hdB.2.rS (a := tw.a) (n := tw.len) (c := tw.cap) rfl (nw (cs := [.pointer (some ⟨Y.p, 0, none⟩), .slice none 0 0, .nilIface]) fun v9 hz9 e9 hb9 => ?_))
    have K9 := K8.box e9 hz9
    obtain ⟨G, hG, hrow, hput⟩ := K9.step .trow
    have hrow : RowR tw 3 (tlv cs) v9 G := hrow
    have hal : tw.len = cs.length := by have := hrow.1; rw [tlv_len] at this; omega
    refine hrow.app (ys := [.pointer (some ⟨Y.p, 0, none⟩), .slice none 0 0, .nilIface]) rfl rfl ?_ (by simp [one1]) ?_ ?_ Nat.zero_lt_one fun s' v10 _ e10 hr10 => ?_
    ·intro j u hu
     rw [add_lit, Nat.zero_add, hb9.cell]; exact hu
    ·simp only; omega
    ·simp only; omega
    have hz10 := e10.1
    have hbw10 : Blk v10 σ.size _ := e10.blk (e9.blk hbw8 id) fun hx => (K9.p _ (hG _ hx)).2.1 (.inl rfl)
    have K10 := (hput v10 { NB q tab lm sp aw ys tw cs with cs := cs ++ [Y], tw := s', tl := tlv (cs ++ [Y]) } (fun b => Grow G v9 b /\ b < v10.size) (fun j hj => by cases j <;> first | rfl | exact absurd rfl hj) e10 (fun b hb => hb.1.imp id fun hx => ⟨hx, fun hB => by have := (K9.b b hB).2; omega⟩) (by
     show RowR s' 3 (tlv (cs ++ [Y])) v10 _
     have : tlv (cs ++ [Y]) = tlv cs ++ [.pointer (some ⟨Y.p, 0, none⟩), .slice none 0 0, .nilIface] := by simp [tlv]
     rw [this]
     exact (RowR.loc _ _ _).mono hr10 fun b hb hx => ⟨hx, hb⟩) fun b hB => by have := (K9.b b hB).2; omega).drop (B' := (· = σ.size)) fun b hb => .inl hb
    refine nilP (K10.hdr (NB q tab lm sp aw ys s' (cs ++ [Y])) (fun j hj => by cases j <;> first | rfl | exact absurd rfl hj) rfl (i := 8) rfl (by omega) fun v11 P11 K11 o11 => ?_)
    have hbw11 := only_blk o11 hbw10 (hnep K10)
    exact arN (m := cs.length + 1) (by omega) (by omega) ⟨⟨P11, s', cs ++ [Y], by simp, by simp; omega, K11, hbw11⟩, by omega⟩
   ·have hct : cs.length = t := by omega
    have hct' : cf.threads = cs.length := by rw [← hcfd, hct]
    have hya' : cf.arenas = ys.length := by rw [← hcfd, hya]
    have hN := newGl g gd
    refine h0 w7 ⟨q, sp, lm, tab, aw, tw, ys, cs.map fun c => ⟨c, nilS⟩⟩ K7.e ⟨⟨?_, hys, ?_, ?_, ?_, ?_, ?_, ?_⟩, ?_, g.keep0 K7.e, gd.keep0 K7.e, hN.1, hN.2⟩
    ·simp [newHw, hya']
    ·simp [newHw, hct']
    ·simp [newHw, hya']; omega
    ·simp [newHw, hya']; omega
    ·simp [newHw, hct']; omega
    ·simp [newHw, hct']; omega
    ·intro B hB
     have := List.eq_of_mem_replicate hB
     rw [this]; rfl
    ·refine (Sep.loc CH.loc).mono (G := fun q => σ.size <= q) ?_ fun b _ hb => hb
     obtain ⟨ρ, hs⟩ := (Sep.loc CNW.loc).mono K7.sep (G := fun q => σ.size <= q) fun b _ hb => (K7.p b hb).1
     refine ⟨ρ, fun i => ?_⟩
     have hi := hs i
     cases i with
     | hd => exact hi
     | tab => exact hi
     | sp => exact hi
     | arow => exact RowR.slR hi
     | trow =>
      show RowR tw 3 (trV (cs.map fun c => ⟨c, nilS⟩) (List.replicate cf.threads ⟨List.replicate tb.length liN, [], none⟩)) w7 _
      rw [hct', trV_new]; exact hi
     | live => exact hi
     | ar k =>
      show ArH ys[k]? (List.replicate cf.arenas (newA cf.pages cf.room tb))[k]? w7 _
      have hi : ArN cf.pages cf.room tb ys[k]? w7 _ := hi
      unfold ArH
      by_cases hk : k < ys.length
      ·rw [List.getElem?_replicate, if_pos (by omega), List.getElem?_eq_getElem hk]
       rw [List.getElem?_eq_getElem hk] at hi
       exact hi
      ·rw [List.getElem?_eq_none (by omega)]; trivial
     | ca k =>
      show CaH (cs.map fun c => (⟨c, nilS⟩ : LayT))[k]? (List.replicate cf.threads (⟨List.replicate tb.length liN, [], none⟩ : Th))[k]? tb cf.budget w7 _
      have hi : CaN tb cf.budget cs[k]? w7 _ := hi
      unfold CaH
      by_cases hk : k < cs.length
      ·rw [List.getElem?_replicate, if_pos (by omega), List.getElem?_map, List.getElem?_eq_getElem hk]
       rw [List.getElem?_eq_getElem hk] at hi
       exact hi
      ·rw [List.getElem?_map, List.getElem?_eq_none (by omega)]; trivial
     | hn k =>
      show HnH (cs.map fun c => (⟨c, nilS⟩ : LayT))[k]? (List.replicate cf.threads (⟨List.replicate tb.length liN, [], none⟩ : Th))[k]? w7 _
      unfold HnH
      by_cases hk : k < cs.length
      ·rw [List.getElem?_replicate, if_pos (by omega), List.getElem?_map, List.getElem?_eq_getElem hk]
       exact BtR.nil _ _ _
      ·rw [List.getElem?_map, List.getElem?_eq_none (by omega)]; trivial
 ·have rd : ∀ (i : Nat) (x : Int), [Value.int .i64 (p : Int), .int .i64 (a : Int), .int .i64 (t : Int), .int .i64 (b : Int), .int .i64 (r : Int)][i]? = some (.int .i64 x) -> ∀ m, Blk m σ.size [.int .i64 (p : Int), .int .i64 (a : Int), .int .i64 (t : Int), .int .i64 (b : Int), .int .i64 (r : Int)] -> cell m (Addr.add ⟨σ.size, 0, none⟩ i) = some (.int .i64 x) := fun i x hx m hm => by
   rw [add_lit, hm.cell, Nat.zero_add]; exact hx
  refine ⟨fun m => Blk m σ.size [.int .i64 (p : Int), .int .i64 (a : Int), .int .i64 (t : Int), .int .i64 (b : Int), .int .i64 (r : Int)], hb2, ⟨(p : Int), rd 0 _ rfl, ⟨(a : Int), rd 1 _ rfl, ⟨(t : Int), rd 2 _ rfl, ⟨(b : Int), rd 3 _ rfl, ⟨(r : Int), rd 4 _ rfl, ⟨?_, ?_⟩⟩⟩⟩⟩⟩⟩
  ·refine tabClone_ok (acts_keep0 ha e02) hv fun tab v16 e16 htab => ⟨e16.blk hb2 id, nwMap fun v17 z17 e17 hm => ⟨e17.blk (e16.blk hb2 id) id, ?_⟩⟩
   rw [htbd] at htab
   have hz16 := e16.1
   refine nw (cs := [.slice tab.a tab.len tab.cap, .int .i64 (p : Int), .int .i64 (a : Int), .int .i64 (t : Int), .int .i64 (b : Int), .int .i64 (r : Int), .pointer none, .slice none 0 0, .slice none 0 0, .map (some v16.size)]) fun v18 z18 e18 hb18 => ⟨e18.blk (e17.blk (e16.blk hb2 id) id) id, hJ _ _ ⟨_, v17.size, tab, v16.size, rfl, NK0 (D := fun q => v2.size <= q /\ q < v16.size) (((e02.trans e16).trans e17).trans e18) (by omega) (by rw [hdE]; exact hb18) (e18.mapL (hm .i64 (.ag 4)) id) ?_ (fun b hb => by omega) (by omega) (by omega) (by omega), e18.blk (e17.blk (e16.blk hb2 id) id) id⟩⟩
   exact (SlR.loc _ _ _).keep0 ((SlR.loc _ _ _).keep0 ((SlR.loc _ _ _).mono htab (G := fun q => v2.size <= q /\ q < v16.size) fun b hb hx => ⟨hx, hb⟩) e17) e18
  ·refine nwMap fun v19 z19 e19 hm => ⟨e19.blk hb2 id, tabClone_ok (acts_keep0 ha (e02.trans e19)) hv fun tab v20 e20 htab => ⟨e20.blk (e19.blk hb2 id) id, ?_⟩⟩
   rw [htbd] at htab
   have hz20 := e20.1
   refine nw (cs := [.slice tab.a tab.len tab.cap, .int .i64 (p : Int), .int .i64 (a : Int), .int .i64 (t : Int), .int .i64 (b : Int), .int .i64 (r : Int), .pointer none, .slice none 0 0, .slice none 0 0, .map (some v2.size)]) fun v21 z21 e21 hb21 => ⟨e21.blk (e20.blk (e19.blk hb2 id) id) id, hJ _ _ ⟨_, v20.size, tab, v2.size, rfl, NK0 (D := fun q => v19.size <= q /\ q < v20.size) (((e02.trans e19).trans e20).trans e21) (by omega) (by rw [hdE]; exact hb21) (e21.mapL (e20.mapL (hm .i64 (.ag 4)) id) id) ?_ (fun b hb => by omega) (by omega) (by omega) (by omega), e21.blk (e20.blk (e19.blk hb2 id) id) id⟩⟩
   exact (SlR.loc _ _ _).keep0 ((SlR.loc _ _ _).mono htab (G := fun q => v19.size <= q /\ q < v20.size) fun b hb hx => ⟨hx, hb⟩) e21
end Go.Ar
namespace Go.Proofs
open Go.Vc

set_option maxRecDepth 100000
def resize_Good.hint : Hn := .seq (.o 2) (.seq (.seq (.o 3) (.seq (.o 2) (.cond (.seq (.o 3) (.leaf)) (.leaf)))) (.seq (.seq (.reg (.seq [.op, .op, .op, .grd false 2 [.op, .op], .op, .grd false 2 [.op, .op], .op, .grd false 2 [.op, .op], .op, .grd false 5 [.op, .op, .op, .op, .op]])) (.cond (.seq (.o 2) (.leaf)) (.leaf))) (.seq (.o 3) (.seq (.seq (.o 9) (.seq (.o 2) (.cond (.seq (.o 7) (.leaf)) (.leaf)))) (.seq (.o 7) (.leaf))))))
def resize_Good.vc (vh : Option Addr) (size : Int) (align : Int) (σ : Hp) (R : Int -> Int -> Hp -> Prop) : Prop :=
 resize_ready.call vh ⟨none, 0, 0⟩ σ fun ve v =>
 If (ve != 0) (R 0 ve v)
 (JnB (fun r v1 =>
 JnB (fun r1 v2 =>
 JnB (fun r2 v3 =>
 JnB (fun r3 v4 =>
 If r3 (R 0 1 v4)
 (heap_Heap_Table.call vh v4 fun table v5 =>
 sizes_Class.call table size align v5 fun t44 t441 v6 =>
 If (t441 == 0) (Ix table.a table.len t44 3 fun a51 =>
 LdI .i64 (a51.add 0) v6 fun t53 =>
 R t53 0 v6)
 (Ar .i64 (size + 256) fun t55 =>
 Ar .i64 (t55 - 1) fun t56 =>
 Nz 256 <| Ar .i64 (t56.tdiv 256) fun t57 =>
 Ar .i64 (t57 * 256) fun t58 =>
 R t58 0 v6))) fun J3 =>
 If r2 (J3 true v3)
 (Ar .i64 (align - 1) fun t34 =>
 J3 ((bits .and .i64 align t34) != 0) v3)) fun J2 =>
 If r1 (J2 true v2)
 (J2 (decide (align > 256)) v2)) fun J1 =>
 If r (J1 true v1)
 (J1 (decide (align < 1)) v1)) fun J =>
 If (decide (size < 1)) (J true v)
 (J (decide (size > 16384)) v))
theorem resize_Good.of_vc {vh : Option Addr} {size : Int} {align : Int} {σ : Hp} {R : Int -> Int -> Hp -> Prop} (hv : resize_Good.vc vh size align σ R) : resize_Good.call vh size align σ R :=
 fnK_sound Tryz.func11 (x := resize_Good.hint) (args := [.pointer vh, .int .i64 size, .int .i64 align]) (rs := [.one (.i .i64), .one (.i .i64)]) (R := R) (Eq.mpr (by kernel_rfl) hv)
def resize_Realloc.hint : Hn := .seq (.o 2) (.seq (.seq (.o 5) (.seq (.o 2) (.cond (.seq (.o 3) (.leaf)) (.leaf)))) (.seq (.seq (.reg (.seq [.op, .op, .op, .grd false 2 [.op, .op]])) (.cond (.seq (.o 2) (.leaf)) (.leaf))) (.seq (.seq (.o 2) (.cond (.seq (.seq (.o 2) (.cond (.seq (.o 2) (.leaf)) (.leaf))) (.seq (.o 8) (.leaf))) (.leaf))) (.seq (.o 8) (.seq (.seq (.o 2) (.cond (.seq (.o 2) (.leaf)) (.leaf))) (.seq (.seq (.o 2) (.cond (.seq (.o 6) (.leaf)) (.leaf))) (.seq (.seq (.o 8) (.seq (.reg (.seq [.op, .op, .op, .op, .grd true 4 [.op, .op, .op, .op]])) (.cond (.seq (.o 3) (.leaf)) (.leaf)))) (.seq (.o 9) (.seq (.seq (.o 2) (.cond (.seq (.o 3) (.leaf)) (.leaf))) (.seq (.o 8) (.seq (.o 8) (.seq (.o 4) (.seq (.o 3) (.leaf))))))))))))))
def resize_Realloc.vc (vh : Option Addr) (thread : Int) (addr : Int) (size : Int) (σ : Hp) (R : Int -> Int -> Hp -> Prop) : Prop :=
 Nw (.cells #[.int .i64 thread] 3 (0, 0)) σ fun n20 v =>
 resize_ready.call vh ⟨(some n20), 1, 1⟩ v fun ve v1 =>
 If (ve != 0) (R 0 ve v1)
 (JnB (fun r v2 =>
 If r (R 0 1 v2)
 (If (addr == 0) (If (size == 0) (R 0 0 v2)
 (heap_Heap_Malloc.call vh thread size 8 v2 fun t38 t381 v3 =>
 R t38 t381 v3))
 (heap_Heap_Usable.call vh addr v2 fun t44 t441 v4 =>
 If (t441 != 0) (R 0 8 v4)
 (If (size == 0) (heap_Heap_Free.call vh thread addr v4 fun t54 v5 =>
 R 0 t54 v5)
 (resize_Good.call vh size 8 v4 fun t58 t581 v6 =>
 JnB (fun r1 v7 =>
 If r1 (R addr 0 v7)
 (heap_Heap_Malloc.call vh thread size 8 v7 fun t75 t751 v8 =>
 If (t751 != 0) (R 0 t751 v8)
 (heap_Heap_Usable.call vh t75 v8 fun t84 t841 v9 =>
 resize_words.call (if t84 < t44 then t84 else t44) v9 fun t93 v10 =>
 resize_shift.call vh t75 addr t93 v10 fun v11 =>
 heap_Heap_Free.call vh thread addr v11 fun t98 v12 =>
 R t75 0 v12))) fun J1 =>
 If (decide (size <= t44)) (Ar .i64 (2 * t58) fun t67 =>
 J1 (decide (t44 <= t67)) v6)
 (J1 false v6)))))) fun J =>
 If (decide (size < 0)) (J true v1)
 (J (decide (size > 16384)) v1))
theorem resize_Realloc.of_vc {vh : Option Addr} {thread : Int} {addr : Int} {size : Int} {σ : Hp} {R : Int -> Int -> Hp -> Prop} (hv : resize_Realloc.vc vh thread addr size σ R) : resize_Realloc.call vh thread addr size σ R :=
 fnK_sound Tryz.func12 (x := resize_Realloc.hint) (args := [.pointer vh, .int .i64 thread, .int .i64 addr, .int .i64 size]) (rs := [.one (.i .i64), .one (.i .i64)]) (R := R) (Eq.mpr (by kernel_rfl) hv)
def resize_Calloc.hint : Hn := .seq (.o 2) (.seq (.seq (.o 5) (.seq (.o 2) (.cond (.seq (.o 3) (.leaf)) (.leaf)))) (.seq (.seq (.reg (.seq [.op, .op, .op, .grd false 2 [.op, .op], .op, .grd false 2 [.op, .op], .op, .grd false 2 [.op, .op], .op, .grd false 4 [.op, .op, .op, .op]])) (.cond (.seq (.o 2) (.leaf)) (.leaf))) (.seq (.o 11) (.seq (.seq (.o 2) (.cond (.seq (.o 3) (.leaf)) (.leaf))) (.seq (.o 8) (.seq (.seq (.o 3) (.block (.loop [(63, .one (.i .i64))] (.seq (.o 1) (.seq (.cond (.leaf) (.leaf)) (.seq (.block (.seq (.o 2) (.o 6))) (.o 2))))))) (.seq (.o 3) (.leaf))))))))
def resize_Calloc.vc (vh : Option Addr) (thread : Int) (count : Int) (size : Int) (σ : Hp) (R : Int -> Int -> Hp -> Prop) : Prop :=
 Nw (.cells #[.int .i64 thread] 3 (0, 0)) σ fun n18 v =>
 resize_ready.call vh ⟨(some n18), 1, 1⟩ v fun ve v1 =>
 If (ve != 0) (R 0 ve v1)
 (JnB (fun r v2 =>
 JnB (fun r1 v3 =>
 JnB (fun r2 v4 =>
 JnB (fun r3 v5 =>
 If r3 (R 0 1 v5)
 (Ar .i64 (count * size) fun t48 =>
 heap_Heap_Malloc.call vh thread t48 8 v5 fun t49 t491 v6 =>
 If (t491 != 0) (R 0 t491 v6)
 (heap_Heap_Usable.call vh t49 v6 fun t58 t581 v7 =>
 resize_words.call t58 v7 fun t62 v8 =>
 LoopK [(.i .i64)] (fun I => I 0 v8) fun J4 (t63 : Int) v9 =>
 If (decide (t63 < t62)) (Ar .i64 (t63 * 8) fun t69 =>
 Ar .i64 (t49 + t69) fun t70 =>
 heap_Heap_Write.call vh t70 0 v9 fun t71 v10 =>
 Ar .i64 (t63 + 1) fun t72 =>
 J4 t72 v10)
 (R t49 0 v9)))) fun J3 =>
 If r2 (J3 true v4)
 (Ar .i64 (count * size) fun t40 =>
 J3 (decide (t40 > 16384)) v4)) fun J2 =>
 If r1 (J2 true v3)
 (J2 (decide (size > 16384)) v3)) fun J1 =>
 If r (J1 true v2)
 (J1 (decide (count > 16384)) v2)) fun J =>
 If (decide (count < 1)) (J true v1)
 (J (decide (size < 1)) v1))
theorem resize_Calloc.of_vc {vh : Option Addr} {thread : Int} {count : Int} {size : Int} {σ : Hp} {R : Int -> Int -> Hp -> Prop} (hv : resize_Calloc.vc vh thread count size σ R) : resize_Calloc.call vh thread count size σ R :=
 fnK_sound Tryz.func13 (x := resize_Calloc.hint) (args := [.pointer vh, .int .i64 thread, .int .i64 count, .int .i64 size]) (rs := [.one (.i .i64), .one (.i .i64)]) (R := R) (Eq.mpr (by kernel_rfl) hv)
def resize_Many.hint : Hn := .seq (.o 4) (.seq (.seq (.o 5) (.seq (.o 2) (.cond (.seq (.o 3) (.leaf)) (.leaf)))) (.seq (.seq (.o 3) (.cond (.seq (.o 2) (.leaf)) (.leaf))) (.seq (.seq (.o 3) (.block (.loop [(30, .one (.i .i64))] (.seq (.o 1) (.seq (.cond (.leaf) (.leaf)) (.seq (.block (.seq (.o 3) (.seq (.reg (.seq [.op, .op, .op, .grd false 2 [.op, .op]])) (.cond (.seq (.o 2) (.leaf)) (.leaf))))) (.o 2))))))) (.seq (.o 1) (.seq (.seq (.o 3) (.block (.loop [(11, .one .s), (43, .one (.i .i64))] (.seq (.o 1) (.seq (.cond (.leaf) (.leaf)) (.seq (.block (.seq (.o 3) (.seq (.o 9) (.seq (.seq (.o 2) (.cond (.seq (.seq (.o 2) (.block (.leaf))) (.leaf)) (.leaf))) (.o 5))))) (.o 2))))))) (.seq (.o 3) (.leaf)))))))
def resize_Many.vc (vh : Option Addr) (thread : Int) (list : Sl) (σ : Hp) (R : Sl -> Int -> Hp -> Prop) : Prop :=
 Nw (.cells #[.pointer vh] 23 (0, 0)) σ fun n3 v =>
 Nw (.cells #[.int .i64 thread] 3 (0, 0)) v fun n4 v1 =>
 LdP n3 v1 fun t18 =>
 LdI .i64 n4 v1 fun t19 =>
 Nw (.cells #[.int .i64 t19] 3 (0, 0)) v1 fun n20 v2 =>
 resize_ready.call t18 ⟨(some n20), 1, 1⟩ v2 fun ve v3 =>
 If (ve != 0) (R ⟨none, 0, 0⟩ ve v3)
 (If (decide (((list.len : Nat) : Int) > 32)) (R ⟨none, 0, 0⟩ 3 v3)
 (LoopK [(.i .i64)] (fun I => I 0 v3) fun J (t30 : Int) v4 =>
 If (decide (t30 < ((list.len : Nat) : Int))) (Ix list.a list.len t30 1 fun a32 =>
 LdI .i64 a32 v4 fun size =>
 JnB (fun r v5 =>
 If r (R ⟨none, 0, 0⟩ 1 v5)
 (Ar .i64 (t30 + 1) fun t40 =>
 J t40 v5)) fun J1 =>
 If (decide (size < 1)) (J1 true v4)
 (J1 (decide (size > 16384)) v4))
 (LoopK [.s, (.i .i64)] (fun I1 => I1 ⟨none, 0, 0⟩ 0 v4) fun J2 (out : Sl) (t43 : Int) v6 =>
 If (decide (t43 < ((list.len : Nat) : Int))) (Ix list.a list.len t43 1 fun a45 =>
 LdI .i64 a45 v6 fun size1 =>
 LdP n3 v6 fun t48 =>
 LdI .i64 n4 v6 fun t49 =>
 heap_Heap_Malloc.call t48 t49 size1 8 v6 fun t51 t511 v7 =>
 If (t511 != 0) (slices_Backward_int_int.call out v7 fun t57 v8 =>
 False)
 (Nw (.cells #[.int .i64 t51] 3 (0, 0)) v7 fun n67 v9 =>
 App out 1 8 3 [.int .i64 0] ⟨(some n67), 1, 1⟩ v9 fun out1 v10 =>
 Ar .i64 (t43 + 1) fun t69 =>
 J2 out1 t69 v10))
 (R out 0 v6))))
theorem resize_Many.of_vc {vh : Option Addr} {thread : Int} {list : Sl} {σ : Hp} {R : Sl -> Int -> Hp -> Prop} (hv : resize_Many.vc vh thread list σ R) : resize_Many.call vh thread list σ R :=
 fnK_sound Tryz.func14 (x := resize_Many.hint) (args := [.pointer vh, .int .i64 thread, .slice list.a list.len list.cap]) (rs := [.one .s, .one (.i .i64)]) (R := R) (Eq.mpr (by kernel_rfl) hv)
def resize_Put.hint : Hn := .seq (.o 2) (.seq (.seq (.o 5) (.seq (.o 2) (.cond (.seq (.o 3) (.leaf)) (.leaf)))) (.seq (.seq (.o 3) (.cond (.seq (.o 2) (.leaf)) (.leaf))) (.seq (.o 6) (.seq (.o 11) (.seq (.seq (.o 2) (.cond (.seq (.o 3) (.leaf)) (.leaf))) (.seq (.o 5) (.seq (.seq (.o 2) (.block (.loop [(49, .one (.i .i64))] (.seq (.o 1) (.seq (.cond (.leaf) (.leaf)) (.seq (.block (.seq (.o 2) (.seq (.o 1) (.seq (.seq (.o 1) (.block (.loop [(13, .one (.i .u64)), (52, .one (.i .i64))] (.seq (.o 1) (.seq (.cond (.leaf) (.leaf)) (.seq (.block (.seq (.o 2) (.seq (.o 5) (.seq (.o 4) (.cond (.o 10) (.leaf)))))) (.o 2))))))) (.o 9))))) (.o 2))))))) (.seq (.o 3) (.leaf)))))))))
def resize_Put.vc (vh : Option Addr) (thread : Int) (s : ByteArray) (σ : Hp) (R : Int -> Int -> Hp -> Prop) : Prop :=
 Nw (.cells #[.int .i64 thread] 3 (0, 0)) σ fun n18 v =>
 resize_ready.call vh ⟨(some n18), 1, 1⟩ v fun ve v1 =>
 If (ve != 0) (R 0 ve v1)
 (If (decide (((s.size : Nat) : Int) > 400)) (R 0 3 v1)
 (Ar .i64 (((s.size : Nat) : Int) + 8) fun t28 =>
 Ar .i64 (t28 - 1) fun t29 =>
 Nz 8 <| Ar .i64 (t29.tdiv 8) fun n =>
 Ar .i64 (n + 1) fun t35 =>
 Ar .i64 (t35 * 8) fun t36 =>
 heap_Heap_Malloc.call vh thread t36 8 v1 fun t37 t371 v2 =>
 If (t371 != 0) (R 0 t371 v2)
 (heap_Heap_Write.call vh t37 ((s.size : Nat) : Int) v2 fun t47 v3 =>
 LoopK [(.i .i64)] (fun I => I 0 v3) fun J (t49 : Int) v4 =>
 If (decide (t49 < n)) (LoopK [(.i .u64), (.i .i64)] (fun I1 => I1 0 0 v4) fun J1 (vw : Int) (t52 : Int) v5 =>
 If (decide (t52 < 8)) (Ar .i64 (t49 * 8) fun t56 =>
 Ar .i64 (t56 + t52) fun vat =>
 If (decide (vat < ((s.size : Nat) : Int))) (IxS s vat fun t66 =>
 Ar .u64 t66 fun t67 =>
 Ar .i64 (8 * t52) fun t69 =>
 Nn t69 <| Ar .u64 (t67 * 2 ^ (min t69.toNat IntKind.u64.bits)) fun t70 =>
 Ar .i64 (t52 + 1) fun t72 =>
 J1 (bits .or .u64 vw t70) t72 v5)
 (Ar .i64 (t52 + 1) fun t721 =>
 J1 vw t721 v5))
 (Ar .i64 (t49 + 1) fun t76 =>
 Ar .i64 (t76 * 8) fun t77 =>
 Ar .i64 (t37 + t77) fun t78 =>
 Ar .i64 vw fun t80 =>
 heap_Heap_Write.call vh t78 t80 v5 fun t81 v6 =>
 Ar .i64 (t49 + 1) fun t82 =>
 J t82 v6))
 (R t37 0 v4))))
theorem resize_Put.of_vc {vh : Option Addr} {thread : Int} {s : ByteArray} {σ : Hp} {R : Int -> Int -> Hp -> Prop} (hv : resize_Put.vc vh thread s σ R) : resize_Put.call vh thread s σ R :=
 fnK_sound Tryz.func15 (x := resize_Put.hint) (args := [.pointer vh, .int .i64 thread, .string s]) (rs := [.one (.i .i64), .one (.i .i64)]) (R := R) (Eq.mpr (by kernel_rfl) hv)
def resize_Get.hint : Hn := .seq (.o 2) (.seq (.seq (.o 3) (.seq (.o 2) (.cond (.seq (.o 3) (.leaf)) (.leaf)))) (.seq (.o 8) (.seq (.seq (.o 2) (.cond (.seq (.o 2) (.leaf)) (.leaf))) (.seq (.o 8) (.seq (.seq (.reg (.seq [.op, .op, .op, .grd false 2 [.op, .op], .op, .grd false 2 [.op, .op], .op, .grd false 8 [.op, .op, .op, .op, .op, .op, .op, .op]])) (.cond (.seq (.o 2) (.leaf)) (.leaf))) (.seq (.o 3) (.seq (.seq (.o 3) (.block (.loop [(57, .one (.i .i64))] (.seq (.o 1) (.seq (.cond (.leaf) (.leaf)) (.seq (.block (.seq (.o 2) (.seq (.o 13) (.o 11)))) (.o 2))))))) (.seq (.o 4) (.leaf)))))))))
def resize_Get.vc (vh : Option Addr) (addr : Int) (σ : Hp) (R : ByteArray -> Int -> Hp -> Prop) : Prop :=
 resize_ready.call vh ⟨none, 0, 0⟩ σ fun ve v =>
 If (ve != 0) (R (ByteArray.mk #[]) ve v)
 (heap_Heap_Usable.call vh addr v fun t22 t221 v1 =>
 If (t221 != 0) (R (ByteArray.mk #[]) 8 v1)
 (heap_Heap_Read.call vh addr v1 fun t30 t301 v2 =>
 JnB (fun r v3 =>
 JnB (fun r1 v4 =>
 JnB (fun r2 v5 =>
 If r2 (R (ByteArray.mk #[]) 2 v5)
 (Mk t30 t30 1 5 [.int .u8 0] v5 fun b v6 =>
 LoopK [(.i .i64)] (fun I => I 0 v6) fun J3 (t57 : Int) v7 =>
 If (decide (t57 < ((b.len : Nat) : Int))) (Nz 8 <| Ar .i64 (t57.tdiv 8) fun t64 =>
 Ar .i64 (t64 + 1) fun t65 =>
 Ar .i64 (t65 * 8) fun t66 =>
 Ar .i64 (addr + t66) fun t67 =>
 heap_Heap_Read.call vh t67 v7 fun t68 t681 v8 =>
 Ar .u64 t68 fun t74 =>
 Nz 8 <|
 Ar .i64 (8 * (t57.tmod 8)) fun t77 =>
 Nn t77 <|
 Ar .u8 (t74.fdiv (2 ^ (min t77.toNat IntKind.u64.bits))) fun t79 =>
 Ix b.a b.len t57 1 fun a80 =>
 St1 a80 (.int .u8 t79) v8 fun v9 =>
 Ar .i64 (t57 + 1) fun t81 =>
 J3 t81 v9)
 (BtS b v7 fun t83 =>
 R t83 0 v7))) fun J2 =>
 If r1 (J2 true v4)
 (Ar .i64 (t30 + 8) fun t45 =>
 Ar .i64 (t45 - 1) fun t46 =>
 Nz 8 <| Ar .i64 (t46.tdiv 8) fun t47 =>
 Ar .i64 (t47 + 1) fun t48 =>
 resize_words.call t22 v4 fun t50 v10 =>
 J2 (decide (t48 > t50)) v10)) fun J1 =>
 If r (J1 true v3)
 (J1 (decide (t30 > 400)) v3)) fun J =>
 If (t301 != 0) (J true v2)
 (J (decide (t30 < 0)) v2)))
theorem resize_Get.of_vc {vh : Option Addr} {addr : Int} {σ : Hp} {R : ByteArray -> Int -> Hp -> Prop} (hv : resize_Get.vc vh addr σ R) : resize_Get.call vh addr σ R :=
 fnK_sound Tryz.func16 (x := resize_Get.hint) (args := [.pointer vh, .int .i64 addr]) (rs := [.one .str, .one (.i .i64)]) (R := R) (Eq.mpr (by kernel_rfl) hv)
def resize_Move.hint : Hn := .seq (.o 1) (.seq (.seq (.o 3) (.seq (.o 2) (.cond (.seq (.o 2) (.leaf)) (.leaf)))) (.seq (.seq (.o 2) (.cond (.seq (.o 1) (.leaf)) (.leaf))) (.seq (.seq (.reg (.seq [.op, .op, .op, .op, .op, .op, .grd false 5 [.op, .op, .op, .op, .op]])) (.cond (.seq (.o 1) (.leaf)) (.leaf))) (.seq (.o 5) (.seq (.o 1) (.leaf))))))
def resize_Move.vc (vh : Option Addr) (to : Int) (vfrom : Int) (n : Int) (σ : Hp) (R : Int -> Hp -> Prop) : Prop :=
 resize_ready.call vh ⟨none, 0, 0⟩ σ fun ve v =>
 If (ve != 0) (R ve v)
 (If (decide (n < 0)) (R 1 v)
 (resize_inside.call vh to n v fun t20 v1 =>
 JnB (fun r v2 =>
 If r (R 7 v2)
 (resize_shift.call vh to vfrom n v2 fun v3 =>
 R 0 v3)) fun J =>
 If (!t20) (J true v1)
 (resize_inside.call vh vfrom n v1 fun t26 v4 =>
 J (!t26) v4)))
theorem resize_Move.of_vc {vh : Option Addr} {to : Int} {vfrom : Int} {n : Int} {σ : Hp} {R : Int -> Hp -> Prop} (hv : resize_Move.vc vh to vfrom n σ R) : resize_Move.call vh to vfrom n σ R :=
 fnK_sound Tryz.func17 (x := resize_Move.hint) (args := [.pointer vh, .int .i64 to, .int .i64 vfrom, .int .i64 n]) (rs := [.one (.i .i64)]) (R := R) (Eq.mpr (by kernel_rfl) hv)
def resize_ready.hint : Hn := .seq (.o 1) (.seq (.seq (.reg (.seq [.op, .op, .op, .grd false 4 [.op, .op, .op, .op]])) (.cond (.seq (.o 1) (.leaf)) (.leaf))) (.seq (.seq (.o 3) (.block (.loop [(17, .one (.i .i64))] (.seq (.o 1) (.seq (.cond (.leaf) (.leaf)) (.seq (.block (.seq (.o 3) (.seq (.seq (.reg (.seq [.op, .op, .op, .grd false 5 [.op, .op, .op, .op, .op]])) (.cond (.seq (.o 1) (.leaf)) (.leaf))) (.seq (.o 4) (.cond (.seq (.o 1) (.leaf)) (.leaf)))))) (.o 2))))))) (.seq (.o 1) (.leaf))))
def resize_ready.vc (vh : Option Addr) (thread : Sl) (σ : Hp) (R : Int -> Hp -> Prop) : Prop :=
 JnB (fun r v =>
 If r (R 1 v)
 (LoopK [(.i .i64)] (fun I => I 0 v) fun J1 (t17 : Int) v1 =>
 If (decide (t17 < ((thread.len : Nat) : Int))) (Ix thread.a thread.len t17 1 fun a19 =>
 LdI .i64 a19 v1 fun t =>
 JnB (fun r1 v2 =>
 If r1 (R 1 v2)
 (heap_Heap_Phase.call vh t v2 fun t32 v3 =>
 If (!(t32.toList == (ByteArray.mk #[]).toList)) (R 5 v3)
 (Ar .i64 (t17 + 1) fun t34 =>
 J1 t34 v3))) fun J2 =>
 If (decide (t < 0)) (J2 true v1)
 (heap_Heap_Config.call vh v1 fun t26 t261 t262 t263 t264 v4 =>
 J2 (decide (t ≥ t262)) v4))
 (R 0 v1))) fun J =>
 If vh.isNone (J true σ)
 (heap_Heap_Config.call vh σ fun t11 t111 t112 t113 t114 v5 =>
 J (t11 == 0) v5)
theorem resize_ready.of_vc {vh : Option Addr} {thread : Sl} {σ : Hp} {R : Int -> Hp -> Prop} (hv : resize_ready.vc vh thread σ R) : resize_ready.call vh thread σ R :=
 fnK_sound Tryz.func36 (x := resize_ready.hint) (args := [.pointer vh, .slice thread.a thread.len thread.cap]) (rs := [.one (.i .i64)]) (R := R) (Eq.mpr (by kernel_rfl) hv)
def resize_shift.hint : Hn := .seq (.o 3) (.seq (.seq (.o 2) (.block (.loop [(15, .one (.i .i64))] (.seq (.o 1) (.seq (.cond (.leaf) (.leaf)) (.seq (.block (.seq (.o 2) (.o 13))) (.o 2))))))) (.seq (.o 3) (.block (.loop [(33, .one (.i .i64))] (.seq (.o 1) (.seq (.cond (.leaf) (.leaf)) (.seq (.block (.seq (.o 5) (.o 7))) (.o 2))))))))
def resize_shift.vc (vh : Option Addr) (to : Int) (vfrom : Int) (n : Int) (σ : Hp) (R : Hp -> Prop) : Prop :=
 Mk n n 8 3 [.int .i64 0] σ fun values v =>
 LoopK [(.i .i64)] (fun I => I 0 v) fun J (t15 : Int) v1 =>
 If (decide (t15 < n)) (Ar .i64 (t15 * 8) fun t24 =>
 Ar .i64 (vfrom + t24) fun t25 =>
 heap_Heap_Read.call vh t25 v1 fun t26 t261 v2 =>
 Ix values.a values.len t15 1 fun a29 =>
 St1 a29 (.int .i64 t26) v2 fun v3 =>
 Ar .i64 (t15 + 1) fun t30 =>
 J t30 v3)
 (LoopK [(.i .i64)] (fun I1 => I1 0 v1) fun J1 (t33 : Int) v4 =>
 If (decide (t33 < ((values.len : Nat) : Int))) (Ix values.a values.len t33 1 fun a36 =>
 LdI .i64 a36 v4 fun v5 =>
 Ar .i64 (t33 * 8) fun t41 =>
 Ar .i64 (to + t41) fun t42 =>
 heap_Heap_Write.call vh t42 v5 v4 fun t44 v6 =>
 Ar .i64 (t33 + 1) fun t45 =>
 J1 t45 v6)
 (R v4))
theorem resize_shift.of_vc {vh : Option Addr} {to : Int} {vfrom : Int} {n : Int} {σ : Hp} {R : Hp -> Prop} (hv : resize_shift.vc vh to vfrom n σ R) : resize_shift.call vh to vfrom n σ R :=
 fnK_sound Tryz.func40 (x := resize_shift.hint) (args := [.pointer vh, .int .i64 to, .int .i64 vfrom, .int .i64 n]) (rs := []) (R := R) (Eq.mpr (by kernel_rfl) hv)
def resize_words.hint : Hn := .seq (.o 1) (.seq (.o 3) (.leaf))
def resize_words.vc (bytes : Int) (σ : Hp) (R : Int -> Hp -> Prop) : Prop :=
 Nz 8 <| Ar .i64 (bytes.tdiv 8) fun t4 =>
 R t4 σ
theorem resize_words.of_vc {bytes : Int} {σ : Hp} {R : Int -> Hp -> Prop} (hv : resize_words.vc bytes σ R) : resize_words.call bytes σ R :=
 fnK_sound Tryz.func41 (x := resize_words.hint) (args := [.int .i64 bytes]) (rs := [.one (.i .i64)]) (R := R) (Eq.mpr (by kernel_rfl) hv)
end Go.Proofs
namespace Go.Ar
open Go Go.Vc Go.Proofs


variable {σ u w w' : Hp} {F B P Q : Rg} {L : LayH} {H : Hw} {t : Nat} {g : Th}
theorem inv_take (u : Value) {R : ByteArray -> Hp -> Prop} (h : CallK Tryz.prog 320 #[u] [.one .str] σ R) : InvK Tryz.prog (.iface 176 u) "freehold/heap.name" [] [.one .str] σ R :=
 ⟨176, u, 320, rfl, fun w => by kernel_rfl, fun xs w => by kernel_rfl, h⟩
theorem inv_transfer (u : Value) {R : ByteArray -> Hp -> Prop} (h : CallK Tryz.prog 324 #[u] [.one .str] σ R) : InvK Tryz.prog (.iface 186 u) "freehold/heap.name" [] [.one .str] σ R :=
 ⟨186, u, 324, rfl, fun w => by kernel_rfl, fun xs w => by kernel_rfl, h⟩
theorem inv_central (u : Value) {R : ByteArray -> Hp -> Prop} (h : CallK Tryz.prog 326 #[u] [.one .str] σ R) : InvK Tryz.prog (.iface 190 u) "freehold/heap.name" [] [.one .str] σ R :=
 ⟨190, u, 326, rfl, fun w => by kernel_rfl, fun xs w => by kernel_rfl, h⟩
theorem inv_grow (u : Value) {R : ByteArray -> Hp -> Prop} (h : CallK Tryz.prog 327 #[u] [.one .str] σ R) : InvK Tryz.prog (.iface 192 u) "freehold/heap.name" [] [.one .str] σ R :=
 ⟨192, u, 327, rfl, fun w => by kernel_rfl, fun xs w => by kernel_rfl, h⟩
theorem inv_fill (u : Value) {R : ByteArray -> Hp -> Prop} (h : CallK Tryz.prog 325 #[u] [.one .str] σ R) : InvK Tryz.prog (.iface 189 u) "freehold/heap.name" [] [.one .str] σ R :=
 ⟨189, u, 325, rfl, fun w => by kernel_rfl, fun xs w => by kernel_rfl, h⟩
theorem inv_large (u : Value) {R : ByteArray -> Hp -> Prop} (h : CallK Tryz.prog 321 #[u] [.one .str] σ R) : InvK Tryz.prog (.iface 178 u) "freehold/heap.name" [] [.one .str] σ R :=
 ⟨178, u, 321, rfl, fun w => by kernel_rfl, fun xs w => by kernel_rfl, h⟩
theorem inv_find (u : Value) {R : ByteArray -> Hp -> Prop} (h : CallK Tryz.prog 322 #[u] [.one .str] σ R) : InvK Tryz.prog (.iface 180 u) "freehold/heap.name" [] [.one .str] σ R :=
 ⟨180, u, 322, rfl, fun w => by kernel_rfl, fun xs w => by kernel_rfl, h⟩
theorem inv_put (u : Value) {R : ByteArray -> Hp -> Prop} (h : CallK Tryz.prog 328 #[u] [.one .str] σ R) : InvK Tryz.prog (.iface 197 u) "freehold/heap.name" [] [.one .str] σ R :=
 ⟨197, u, 328, rfl, fun w => by kernel_rfl, fun xs w => by kernel_rfl, h⟩
theorem inv_back (u : Value) {R : ByteArray -> Hp -> Prop} (h : CallK Tryz.prog 329 #[u] [.one .str] σ R) : InvK Tryz.prog (.iface 200 u) "freehold/heap.name" [] [.one .str] σ R :=
 ⟨200, u, 329, rfl, fun w => by kernel_rfl, fun xs w => by kernel_rfl, h⟩
theorem inv_give (u : Value) {R : ByteArray -> Hp -> Prop} (h : CallK Tryz.prog 330 #[u] [.one .str] σ R) : InvK Tryz.prog (.iface 204 u) "freehold/heap.name" [] [.one .str] σ R :=
 ⟨204, u, 330, rfl, fun w => by kernel_rfl, fun xs w => by kernel_rfl, h⟩
theorem inv_drain (u : Value) {R : ByteArray -> Hp -> Prop} (h : CallK Tryz.prog 323 #[u] [.one .str] σ R) : InvK Tryz.prog (.iface 182 u) "freehold/heap.name" [] [.one .str] σ R :=
 ⟨182, u, 323, rfl, fun w => by kernel_rfl, fun xs w => by kernel_rfl, h⟩
def Txt (s : ByteArray) : Prop := (s.toList == (ByteArray.mk #[]).toList) = false
theorem inv_ph (p : Ph) {R : ByteArray -> Hp -> Prop} (hR : ∀ s σ', Ext0 σ σ' -> Txt s -> R s σ') : InvK Tryz.prog (phV (some p)) "freehold/heap.name" [] [.one .str] σ R := by
 cases p with
 | take k =>
  refine inv_take _ (heap_take_name.of_vc ?_)
  unfold heap_take_name.vc
  exact nw (cs := [.int .i64 (k : Int)]) fun v hz e hb => hR _ v e (by unfold Txt; decide +kernel)
 | transfer k w =>
  refine inv_transfer _ (heap_transfer_name.of_vc ?_)
  unfold heap_transfer_name.vc
  exact nw (cs := [.int .i64 (k : Int), .int .i64 (w : Int)]) fun v hz e hb => hR _ v e (by unfold Txt; decide +kernel)
 | central k w =>
  refine inv_central _ (heap_central_name.of_vc ?_)
  unfold heap_central_name.vc
  exact nw (cs := [.int .i64 (k : Int), .int .i64 (w : Int)]) fun v hz e hb => hR _ v e (by unfold Txt; decide +kernel)
 | grow k w =>
  refine inv_grow _ (heap_grow_name.of_vc ?_)
  unfold heap_grow_name.vc
  exact nw (cs := [.int .i64 (k : Int), .int .i64 (w : Int)]) fun v hz e hb => hR _ v e (by unfold Txt; decide +kernel)
 | fill =>
  refine inv_fill _ (heap_fill_name.of_vc ?_)
  unfold heap_fill_name.vc
  exact nw (cs := []) fun v hz e hb => hR _ v e (by unfold Txt; decide +kernel)
 | large m =>
  refine inv_large _ (heap_large_name.of_vc ?_)
  unfold heap_large_name.vc
  exact nw (cs := [.int .i64 (m : Int)]) fun v hz e hb => hR _ v e (by unfold Txt; decide +kernel)
 | find x =>
  refine inv_find _ (heap_find_name.of_vc ?_)
  unfold heap_find_name.vc
  exact nw (cs := [.int .i64 x]) fun v hz e hb => hR _ v e (by unfold Txt; decide +kernel)
 | put k x =>
  refine inv_put _ (heap_put_name.of_vc ?_)
  unfold heap_put_name.vc
  exact nw (cs := [.int .i64 (k : Int), .int .i64 x]) fun v hz e hb => hR _ v e (by unfold Txt; decide +kernel)
 | back =>
  refine inv_back _ (heap_back_name.of_vc ?_)
  unfold heap_back_name.vc
  exact nw (cs := []) fun v hz e hb => hR _ v e (by unfold Txt; decide +kernel)
 | give s a =>
  refine inv_give _ (heap_give_name.of_vc ?_)
  unfold heap_give_name.vc
  exact nw (cs := [.int .i64 s, .int .i64 a]) fun v hz e hb => hR _ v e (by unfold Txt; decide +kernel)
 | drain =>
  refine inv_drain _ (heap_drain_name.of_vc ?_)
  unfold heap_drain_name.vc
  exact nw (cs := []) fun v hz e hb => hR _ v e (by unfold Txt; decide +kernel)
def phaseH (H : Hw) (thread : Int) : Option Ph := if 0 <= thread /\ thread < (H.ths.length : Int) then (match H.ths[thread.toNat]? with
 | some g => g.ph
 | none => none) else none
theorem hPhase_ok (h : HH σ F L H) (thread : Int) {R : ByteArray -> Hp -> Prop} (hR : ∀ s σ', Ext0 σ σ' -> (s.toList == (ByteArray.mk #[]).toList) = (phaseH H thread).isNone -> R s σ') : heap_Heap_Phase.call (some ⟨L.p, 0, none⟩) thread σ R := by
 refine heap_Heap_Phase.of_vc ?_
 unfold heap_Heap_Phase.vc
 have hnone : phaseH H thread = none -> R (ByteArray.mk #[]) σ := fun hp => hR _ σ (Ext.refl _ _) (by rw [hp]; decide +kernel)
 refine hmade_ok h (jnB_p (fun r w => w = σ /\ r = !decide (0 <= thread /\ thread < (H.ths.length : Int))) (fun r w ⟨hw, hr⟩ => ?_) fun J hJ => ifF rfl (hthere_ok h thread (hJ _ _ ⟨rfl, rfl⟩)))
 subst hw
 refine jnB_p (fun r w2 => w2 = w /\ r = (phaseH H thread).isNone) (fun r w2 ⟨hw, hr2⟩ => ?_) fun J1 hJ1 => ?_
 ·rw [hw]
  cases hp : phaseH H thread with
  | none => rw [hp] at hr2; exact ifT (by rw [hr2]; rfl) (hnone hp)
  | some p =>
   rw [hp] at hr2
   have hp' := hp
   unfold phaseH at hp'
   split at hp'
   ·rename_i hth
    obtain ⟨t, rfl⟩ : ∃ t : Nat, thread = (t : Int) := ⟨thread.toNat, by omega⟩
    have ht : t < H.ths.length := by omega
    obtain ⟨x, g, hx, hg⟩ := h.th ht
    rw [Int.toNat_natCast, hg] at hp'
    simp only at hp'
    refine ifF (by rw [hr2]; rfl) (nilP (h.hd.rS rfl (h.tR hx hg ?_)))
    rw [hp']
    exact inv_ph p fun s σ' e ht => hR s σ' e (by rw [hp]; exact ht)
   ·cases hp'
 ·by_cases hth : 0 <= thread /\ thread < (H.ths.length : Int)
  ·obtain ⟨t, rfl⟩ : ∃ t : Nat, thread = (t : Int) := ⟨thread.toNat, by omega⟩
   have ht : t < H.ths.length := by omega
   obtain ⟨x, g, hx, hg⟩ := h.th ht
   refine ifF (by rw [hr, decide_eq_true hth]; rfl) (nilP (h.hd.rS rfl (h.tR hx hg ⟨phV_if _, hJ1 _ _ ⟨rfl, ?_⟩⟩)))
   rw [phV_nil]
   unfold phaseH
   rw [if_pos hth, Int.toNat_natCast, hg]
  ·refine ifT (by rw [hr, decide_eq_false hth]; rfl) (hJ1 _ _ ⟨rfl, ?_⟩)
   unfold phaseH
   rw [if_neg hth]; rfl
def CfOk (H : Hw) : Prop := 1 <= H.cf.pages /\ H.cf.threads = H.ths.length /\ TbOk H.tb
def readyE (H : Hw) (thread : Int) : Int := if 0 <= thread /\ thread < (H.ths.length : Int) then (if phaseH H thread = none then 0 else 5) else 1
theorem ready0_ok (h : HH σ F L H) (hc : CfOk H) {R : Int -> Hp -> Prop} (hR : ∀ σ', Ext0 σ σ' -> R 0 σ') : resize_ready.call (some ⟨L.p, 0, none⟩) ⟨none, 0, 0⟩ σ R := by
 refine resize_ready.of_vc ?_
 unfold resize_ready.vc
 have h1 := hc.1
 refine jnB_p (fun r w => Ext0 σ w /\ r = false) (fun r w ⟨ew, hr⟩ => ?_) fun J hJ => ifF rfl (hConfig_ok h fun σ' e => hJ _ _ ⟨e, ?_⟩)
 ·subst hr
  refine ifF rfl (loop1 (a := .i .i64) (fun (z : Int) w => z = 0 /\ Ext0 σ w) (fun _ _ => 0) ⟨rfl, ew⟩ ?_)
  rintro (z : Int) w ⟨rfl, e⟩
  exact ifDF (by simp) (hR w e)
 ·rw [beq_eq_false_iff_ne]; omega
theorem ready1_ok (h : HH σ F L H) (hc : CfOk H) {b : Nat} {thread : Int} (hb : Blk σ b [.int .i64 thread]) (hbF : ¬ F b) {R : Int -> Hp -> Prop} (hR : ∀ σ', Ext0 σ σ' -> R (readyE H thread) σ') : resize_ready.call (some ⟨L.p, 0, none⟩) ⟨some ⟨b, 0, none⟩, 1, 1⟩ σ R := by
 refine resize_ready.of_vc ?_
 unfold resize_ready.vc
 obtain ⟨h1, h2, _⟩ := hc
 refine jnB_p (fun r w => Ext0 σ w /\ r = false) (fun r w ⟨ew, hr⟩ => ?_) fun J hJ => ifF rfl (hConfig_ok h fun σ' e => hJ _ _ ⟨e, by rw [beq_eq_false_iff_ne]; omega⟩)
 subst hr
 refine ifF rfl (loop1 (a := .i .i64) (fun (z : Int) w => Ext0 σ w /\ (z = 0 ∨ z = 1 /\ readyE H thread = 0)) (fun z _ => 1 - z.toNat) ⟨ew, .inl rfl⟩ ?_)
 rintro (z : Int) w ⟨e, hz⟩
 rcases hz with rfl | ⟨rfl, h0⟩
 ·have hb' := e.blk hb id
  have h' := h.keep0 e
  refine ifDT (by simp) (ix (Int.le_refl _) (by show (0 : Int) < ((1 : Nat) : Int); decide) ?_)
  rw [add_lit]
  refine hb'.rI0 rfl ?_
  refine jnB_p (fun r w2 => Ext0 w w2 /\ r = !decide (0 <= thread /\ thread < (H.ths.length : Int))) (fun r w2 ⟨e2, hr⟩ => ?_) fun J2 hJ2 => ?_
  ·by_cases hth : 0 <= thread /\ thread < (H.ths.length : Int)
   ·rw [decide_eq_true hth] at hr
    refine ifF (by rw [hr]; rfl) (hPhase_ok (h'.keep0 e2) thread fun s v3 e3 hs => ?_)
    rw [hs]
    have hre : readyE H thread = if phaseH H thread = none then 0 else 5 := by unfold readyE; rw [if_pos hth]
    cases hp : phaseH H thread with
    | none =>
     rw [hp] at hre
     exact ifF rfl (arN (m := 1) (by omega) (by omega) ⟨⟨(e.trans e2).trans e3, .inr ⟨rfl, by rw [hre]; rfl⟩⟩, by decide⟩)
    | some p =>
     rw [hp] at hre
     have := hR v3 ((e.trans e2).trans e3)
     rw [hre] at this
     exact ifT rfl this
   ·rw [decide_eq_false hth] at hr
    have := hR w2 (e.trans e2)
    unfold readyE at this
    rw [if_neg hth] at this
    exact ifT (by rw [hr]; rfl) this
  ·refine ifD (fun hn => hJ2 _ _ ⟨Ext.refl _ _, ?_⟩) fun hn => hConfig_ok h' fun v2 e2 => hJ2 _ _ ⟨e2, ?_⟩
   ·rw [decide_eq_false (by omega)]; rfl
   ·by_cases hge : thread ≥ (H.cf.threads : Int)
    ·rw [decide_eq_true hge, decide_eq_false (by omega)]; rfl
    ·rw [decide_eq_false hge, decide_eq_true (by omega)]; rfl
 ·have := hR w e
  rw [h0] at this
  exact ifDF (by simp) this
end Go.Ar
namespace Go.Ar
open Go Go.Vc Go.Proofs
open Go.Bu (isPow)


variable {σ u w w' : Hp} {F B P Q : Rg} {L : LayH} {H H' : Hw} {t : Nat} {g : Th}
def unV : List Value := [.slice none 0 0, .int .i64 0, .int .i64 0, .int .i64 0, .int .i64 0, .int .i64 0, .pointer none, .slice none 0 0, .slice none 0 0, .map none]
def NoHeap (vh : Option Addr) (σ : Hp) : Prop := vh = none ∨ ∃ n, vh = some ⟨n, 0, none⟩ /\ Blk σ n unV
theorem NoHeap.keep0 {vh : Option Addr} (h : NoHeap vh σ) (e : Ext0 σ w) : NoHeap vh w := h.imp id fun ⟨n, h1, h2⟩ => ⟨n, h1, e.blk h2 id⟩
theorem nready_ok {vh : Option Addr} (h : NoHeap vh σ) (sl : Sl) {R : Int -> Hp -> Prop} (hR : ∀ σ', Ext0 σ σ' -> R 1 σ') : resize_ready.call vh sl σ R := by
 refine resize_ready.of_vc ?_
 unfold resize_ready.vc
 refine jnB_p (fun r w => Ext0 σ w /\ r = true) (fun r w ⟨ew, hr⟩ => ifT hr (hR w ew)) fun J hJ => ?_
 rcases h with rfl | ⟨n, rfl, hb⟩
 ·exact ifT rfl (hJ _ _ ⟨Ext.refl _ _, rfl⟩)
 ·refine ifF rfl (heap_Heap_Config.of_vc ?_)
  unfold heap_Heap_Config.vc
  refine nw (cs := [.int .i64 0, .int .i64 0, .int .i64 0, .int .i64 0, .int .i64 0]) fun v hz e hbv => heap_Heap_made.of_vc ?_
  unfold heap_Heap_made.vc
  have hb' := e.blk hb id
  refine JnB.intro (ifT rfl (nilP (hb'.rS rfl (ifT rfl ?_))))
  refine hbv.s1 (by simp) fun v1 o1 b1 => b1.s1 (by simp) fun v2 o2 b2 => b2.s1 (by simp) fun v3 o3 b3 => b3.s1 (by simp) fun v4 o4 b4 => b4.s1 (by simp) fun v5 o5 b5 => ?_
  refine b5.rI rfl (b5.rI rfl (b5.rI rfl (b5.rI rfl (b5.rI rfl (hJ _ _ ⟨?_, rfl⟩)))))
  exact ((((e.only o1 (.inr (Nat.le_refl _))).only o2 (.inr (Nat.le_refl _))).only o3 (.inr (Nat.le_refl _))).only o4 (.inr (Nat.le_refl _))).only o5 (.inr (Nat.le_refl _))
theorem nGood_ok {vh : Option Addr} (h : NoHeap vh σ) (a b : Int) {R : Int -> Int -> Hp -> Prop} (hR : ∀ σ', Ext0 σ σ' -> R 0 1 σ') : resize_Good.call vh a b σ R := by
 refine resize_Good.of_vc ?_
 unfold resize_Good.vc
 exact nready_ok h _ fun v e => ifT rfl (hR v e)
theorem nRealloc_ok {vh : Option Addr} (h : NoHeap vh σ) (a b c : Int) {R : Int -> Int -> Hp -> Prop} (hR : ∀ σ', Ext0 σ σ' -> R 0 1 σ') : resize_Realloc.call vh a b c σ R := by
 refine resize_Realloc.of_vc ?_
 unfold resize_Realloc.vc
 exact nw (cs := [.int .i64 a]) fun v hz e hb => nready_ok (h.keep0 e) _ fun v1 e1 => ifT rfl (hR v1 (e.trans e1))
theorem nCalloc_ok {vh : Option Addr} (h : NoHeap vh σ) (a b c : Int) {R : Int -> Int -> Hp -> Prop} (hR : ∀ σ', Ext0 σ σ' -> R 0 1 σ') : resize_Calloc.call vh a b c σ R := by
 refine resize_Calloc.of_vc ?_
 unfold resize_Calloc.vc
 exact nw (cs := [.int .i64 a]) fun v hz e hb => nready_ok (h.keep0 e) _ fun v1 e1 => ifT rfl (hR v1 (e.trans e1))
theorem nMany_ok {vh : Option Addr} (h : NoHeap vh σ) (a : Int) (l : Sl) {R : Sl -> Int -> Hp -> Prop} (hR : ∀ σ', Ext0 σ σ' -> R ⟨none, 0, 0⟩ 1 σ') : resize_Many.call vh a l σ R := by
 refine resize_Many.of_vc ?_
 unfold resize_Many.vc
 refine nw (cs := [.pointer vh]) fun v hz e hb => nw (cs := [.int .i64 a]) fun v1 hz1 e1 hb1 => ?_
 refine (e1.blk hb id).rP0 rfl (hb1.rI0 rfl (nw (cs := [.int .i64 a]) fun v2 hz2 e2 hb2 => nready_ok (((h.keep0 e).keep0 e1).keep0 e2) _ fun v3 e3 => ifT rfl (hR v3 (((e.trans e1).trans e2).trans e3))))
theorem nPut_ok {vh : Option Addr} (h : NoHeap vh σ) (a : Int) (s : ByteArray) {R : Int -> Int -> Hp -> Prop} (hR : ∀ σ', Ext0 σ σ' -> R 0 1 σ') : resize_Put.call vh a s σ R := by
 refine resize_Put.of_vc ?_
 unfold resize_Put.vc
 exact nw (cs := [.int .i64 a]) fun v hz e hb => nready_ok (h.keep0 e) _ fun v1 e1 => ifT rfl (hR v1 (e.trans e1))
theorem nGet_ok {vh : Option Addr} (h : NoHeap vh σ) (a : Int) {R : ByteArray -> Int -> Hp -> Prop} (hR : ∀ σ', Ext0 σ σ' -> R (ByteArray.mk #[]) 1 σ') : resize_Get.call vh a σ R := by
 refine resize_Get.of_vc ?_
 unfold resize_Get.vc
 exact nready_ok h _ fun v e => ifT rfl (hR v e)
theorem nMove_ok {vh : Option Addr} (h : NoHeap vh σ) (a b c : Int) {R : Int -> Hp -> Prop} (hR : ∀ σ', Ext0 σ σ' -> R 1 σ') : resize_Move.call vh a b c σ R := by
 refine resize_Move.of_vc ?_
 unfold resize_Move.vc
 exact nready_ok h _ fun v e => ifT rfl (hR v e)
def Whole (H : Hw) (thread kind size align addr : Int) (H' : Hw) (a e : Int) : Prop :=
 (startH H thread kind size align addr = .inl e /\ e ≠ 0 /\ H' = H /\ a = 0) ∨ ∃ t p n, startH H thread kind size align addr = .inr (t, p) /\ RunN n (setPh H t (some p)) t p H' a e
theorem hWhole_ok (hso : SortB) (h : HH σ F L H) (hv : TbOk H.tb) {thread kind size align addr : Int} {a e : Int} (hw : Whole H thread kind size align addr H' a e) {R : Int -> Int -> Hp -> Prop}
 (hR : ∀ σ' ts', Ext F σ σ' -> HH σ' (Grow F σ) { L with ts := ts' } H' -> R a e σ') : heap_Heap_whole.call (some ⟨L.p, 0, none⟩) thread kind size align addr σ R := by
 rcases hw with ⟨hs, hne, rfl, rfl⟩ | ⟨t, p, n, hs, hr⟩
 ·exact hwhole_ok hso h hv thread kind size align addr (fun e' he _ σ' ee hh => by
   rw [hs] at he; cases he
   exact hR σ' L.ts ee hh) fun t p he => by rw [hs] at he; cases he
 ·exact hwhole_ok hso h hv thread kind size align addr (fun e' he => by rw [hs] at he; cases he) fun t' p' he => by
   rw [hs] at he; cases he
   exact ⟨n, H', a, e, hr, hR⟩
theorem hMalloc_ok (hso : SortB) (h : HH σ F L H) (hv : TbOk H.tb) {thread size align : Int} {a e : Int} (hw : Whole H thread 0 size align 0 H' a e) {R : Int -> Int -> Hp -> Prop}
 (hR : ∀ σ' ts', Ext F σ σ' -> HH σ' (Grow F σ) { L with ts := ts' } H' -> R a e σ') : heap_Heap_Malloc.call (some ⟨L.p, 0, none⟩) thread size align σ R := by
 refine heap_Heap_Malloc.of_vc ?_
 unfold heap_Heap_Malloc.vc
 exact hWhole_ok hso h hv hw hR
theorem hFree_ok (hso : SortB) (h : HH σ F L H) (hv : TbOk H.tb) {thread addr : Int} {a e : Int} (hw : Whole H thread 1 0 0 addr H' a e) {R : Int -> Hp -> Prop}
 (hR : ∀ σ' ts', Ext F σ σ' -> HH σ' (Grow F σ) { L with ts := ts' } H' -> R e σ') : heap_Heap_Free.call (some ⟨L.p, 0, none⟩) thread addr σ R := by
 refine heap_Heap_Free.of_vc ?_
 unfold heap_Heap_Free.vc
 exact hWhole_ok hso h hv hw hR
def KeepH (H' H : Hw) : Prop := H'.tb = H.tb /\ H'.cf = H.cf /\ H'.ths.length = H.ths.length /\ H'.ars.length = H.ars.length
theorem KeepH.refl (H : Hw) : KeepH H H := ⟨rfl, rfl, rfl, rfl⟩
theorem KeepH.trans {H1 H2 H3 : Hw} (a : KeepH H2 H1) (b : KeepH H3 H2) : KeepH H3 H1 := ⟨b.1.trans a.1, b.2.1.trans a.2.1, b.2.2.1.trans a.2.2.1, b.2.2.2.trans a.2.2.2⟩
theorem keep_setT (H : Hw) (t : Nat) (f : Th -> Th) : KeepH (H.setT t f) H := ⟨rfl, rfl, by simp [Hw.setT], rfl⟩
theorem keep_setA (H : Hw) (k : Nat) (A : AR) (sp : Sp) : KeepH { H.setA k A with sp := sp } H := ⟨rfl, rfl, rfl, by simp [Hw.setA]⟩
theorem keep_toCens (H : Hw) (k : Nat) (part : Nat -> List Int) (j : Nat) : KeepH (toCens H k part (List.range j)) H := by
 induction j with
 | zero => exact KeepH.refl H
 | succ j ih =>
  rw [toCens_snoc]
  split
  ·split
   ·exact ih
   ·exact ih.trans (keep_setA _ _ _ _)
  ·exact ih
theorem keep_back (H : Hw) (own k : Nat) (xs : List Int) : KeepH (backH H own k xs) H := by
 unfold backH
 split
 ·split
  ·exact keep_setA _ _ _ H.sp
  ·refine KeepH.trans ?_ (keep_toCens _ _ _ _)
   split
   ·exact keep_setA _ _ _ H.sp
   ·exact KeepH.refl H
 ·exact KeepH.refl H
theorem keep_put (H : Hw) (t k : Nat) (x : Int) : KeepH (putH H t k x) H := by
 unfold putH
 simp only
 split <;> split <;> exact ⟨rfl, rfl, by simp [Hw.setT, holdH], rfl⟩
theorem keep_step (H : Hw) (t : Nat) (p : Ph) : KeepH (stepH H t p).1 H := by
 cases p with
 | take k => simp only [stepH]; split <;> exact ⟨rfl, rfl, by simp [bornH, holdH, Hw.setT, Hw.setA], by simp [bornH, holdH, Hw.setT, Hw.setA]⟩
 | transfer k w =>
  simp only [stepH]
  split
  ·split
   ·exact (keep_setA _ _ _ H.sp).trans (keep_setT _ _ _)
   ·exact KeepH.refl H
  ·exact KeepH.refl H
 | central k w =>
  simp only [stepH]
  split
  ·exact keep_setA _ _ _ H.sp
  ·exact (keep_setA _ _ _ H.sp).trans (keep_setT _ _ _)
 | grow k w => simp only [stepH]; split <;> exact keep_setA _ _ _ _
 | fill =>
  simp only [stepH]
  split
  ·exact ⟨rfl, rfl, by simp [bornH, holdH, Hw.setT, Hw.setA], by simp [bornH, holdH, Hw.setT, Hw.setA]⟩
  ·exact KeepH.refl H
 | large m => simp only [stepH]; split <;> exact ⟨rfl, rfl, by simp [bornH, holdH, Hw.setT, Hw.setA], by simp [bornH, holdH, Hw.setT, Hw.setA]⟩
 | find x =>
  simp only [stepH, findH]
  split
  ·exact KeepH.refl H
  ·split
   ·exact ⟨rfl, rfl, rfl, rfl⟩
   ·exact KeepH.trans (H2 := { H with live := Go.Vc.mdel H.live x }) ⟨rfl, rfl, rfl, rfl⟩ (keep_setT _ _ _)
 | put k x => exact keep_put H t k x
 | back =>
  simp only [stepH]
  split
  ·exact (keep_setT _ _ _).trans (keep_back _ _ _ _)
  ·exact KeepH.refl H
 | give s a =>
  simp only [stepH]
  split
  ·exact keep_setA _ _ _ H.sp
  ·exact KeepH.refl H
 | drain => exact keep_setT _ _ _
theorem keep_stepO (H : Hw) (t : Nat) (p : Ph) : KeepH (stepO H t p) H := (keep_step H t p).trans (keep_setT _ _ _)
theorem keep_run {n : Nat} {H H' : Hw} {t : Nat} {p : Ph} {a e : Int} (h : RunN n H t p H' a e) : KeepH H' H := by
 induction h with
 | done => exact keep_stepO _ _ _
 | next _ _ _ ih => exact (keep_stepO _ _ _).trans ih
theorem keep_whole {thread kind size align addr a e : Int} (h : Whole H thread kind size align addr H' a e) : KeepH H' H := by
 rcases h with ⟨_, _, rfl, _⟩ | ⟨t, p, n, _, hr⟩
 ·exact KeepH.refl _
 ·exact (keep_setT _ _ _).trans (keep_run hr)
theorem CfOk.keep (h : CfOk H) (k : KeepH H' H) : CfOk H' := ⟨by rw [k.2.1]; exact h.1, by rw [k.2.1, k.2.2.1]; exact h.2.1, by rw [k.1]; exact h.2.2⟩
end Go.Ar
namespace Go.Ar
open Go Go.Vc Go.Proofs
open Go.Bu (isPow isPow_nat pow_and)


variable {σ u w w' : Hp} {F B P Q : Rg} {L : LayH} {H H' : Hw} {t n : Nat} {g : Th}
def upPage (size : Int) : Int := (size + 255) / 256 * 256
def goodH (tb : List Cls) (size align : Int) : Int × Int :=
 if size <= 16384 /\ argOk size align = true then (match clsV tb size align with
  | some k => ((tb.getD k ⟨8, 1, 1⟩).size : Int)
  | none => upPage size, 0) else (0, 1)
theorem bits_pow {a : Int} (h1 : 1 <= a) (h2 : a <= 256) : (bits .and .i64 a (a - 1) != 0) = !isPow a := by
 obtain ⟨a, rfl⟩ := Int.eq_ofNat_of_zero_le (show 0 <= a by omega)
 rw [show (a : Int) - 1 = ((a - 1 : Nat) : Int) by omega, Go.Bu.bits_and_i64 (by omega) (by omega), isPow_nat, ← pow_and (by omega) (by omega)]
 simp only [bne, Bool.not_inj_iff]
 rw [Bool.eq_iff_iff]
 simp only [beq_iff_eq]
 omega
theorem Good_ok (h : HH σ F L H) (hc : CfOk H) (size align : Int) {R : Int -> Int -> Hp -> Prop} (hR : ∀ σ', Ext0 σ σ' -> R (goodH H.tb size align).1 (goodH H.tb size align).2 σ') : resize_Good.call (some ⟨L.p, 0, none⟩) size align σ R := by
 refine resize_Good.of_vc ?_
 unfold resize_Good.vc
 refine ready0_ok h hc fun v e => ifF rfl ?_
 have h' := h.keep0 e
 have bad : (size <= 16384 /\ argOk size align = true -> False) -> R 0 1 v := fun hn => by
  have := hR v e
  unfold goodH at this
  rw [if_neg hn] at this; exact this
 have key : ∀ r, r = !decide (size <= 16384 /\ argOk size align = true) -> (If r (R 0 1 v) (heap_Heap_Table.call (some ⟨L.p, 0, none⟩) v fun table v5 => sizes_Class.call table size align v5 fun t44 t441 v6 => If (t441 == 0) (Ix table.a table.len t44 3 fun a51 => LdI .i64 (a51.add 0) v6 fun t53 => R t53 0 v6) (Ar .i64 (size + 256) fun t55 => Ar .i64 (t55 - 1) fun t56 => Nz 256 <| Ar .i64 (t56.tdiv 256) fun t57 => Ar .i64 (t57 * 256) fun t58 => R t58 0 v6))) := by
  intro r hr
  by_cases hok : size <= 16384 /\ argOk size align = true
  ·rw [decide_eq_true hok] at hr
   have hs1 := hok.2
   simp only [argOk, Bool.and_eq_true, decide_eq_true_eq] at hs1
   refine ifF (by rw [hr]; rfl) (hTable_ok h' h.tb40 fun s v5 e5 hs => Class_ok (tab_acts hs) hc.2.2 size align fun v6 e6 => ?_)
   have hR6 := hR v6 ((e.trans e5).trans e6)
   unfold goodH at hR6
   rw [if_pos hok] at hR6
   rw [hok.2, clsT_map]
   cases hcl : clsV H.tb size align with
   | some k =>
    rw [hcl] at hR6
    have hk : k < H.tb.length := (List.findIdx?_eq_some_iff_findIdx_eq.1 hcl).1
    have hck : H.tb[k]? = some H.tb[k] := List.getElem?_eq_getElem hk
    have hcd : H.tb.getD k ⟨8, 1, 1⟩ = H.tb[k] := by rw [List.getD_eq_getElem?_getD, hck]; rfl
    simp only [hcd] at hR6
    refine ifT rfl (tab_rd ((SlR.loc _ _ _).keep0 ((SlR.loc _ _ _).cut hs) e6) hck (d := 0) (by omega) ?_)
    simp only [if_true]
    exact hR6
   | none =>
    rw [hcl] at hR6
    refine ifF rfl (ar (by omega) (by omega) (ar (by omega) (by omega) (nz (by decide) (ar (by rw [tdiv_nn (by omega)]; omega) (by rw [tdiv_nn (by omega)]; omega) ?_))))
    rw [tdiv_nn (by omega)]
    refine ar (by omega) (by omega) ?_
    have : (size + 256 - 1) / 256 * 256 = upPage size := by unfold upPage; omega
    rw [this]; exact hR6
  ·rw [decide_eq_false hok] at hr
   exact ifT (by rw [hr]; rfl) (bad hok)
 refine jnB_p (fun r w => w = v /\ r = !decide (1 <= size /\ size <= 16384)) (fun r w ⟨hw, hr⟩ => ?_) fun J hJ => ifD (fun h1 => hJ _ _ ⟨rfl, by rw [decide_eq_false (by omega)]; rfl⟩) fun h1 => hJ _ _ ⟨rfl, ?_⟩
 ·subst hw
  refine jnB_p (fun r w2 => w2 = w /\ r = !decide (1 <= size /\ size <= 16384 /\ 1 <= align)) (fun r w2 ⟨hw, hr1⟩ => ?_) fun J1 hJ1 => ?_
  ·rw [hw]
   refine jnB_p (fun r w2 => w2 = w /\ r = !decide (1 <= size /\ size <= 16384 /\ 1 <= align /\ align <= 256)) (fun r w2 ⟨hw, hr2⟩ => ?_) fun J2 hJ2 => ?_
   ·rw [hw]
    refine jnB_p (fun r w2 => w2 = w /\ r = !decide (size <= 16384 /\ argOk size align = true)) (fun r w2 ⟨hw, hr3⟩ => by rw [hw]; exact key r hr3) fun J3 hJ3 => ?_
    by_cases hb : 1 <= size /\ size <= 16384 /\ 1 <= align /\ align <= 256
    ·refine ifF (by rw [hr2, decide_eq_true hb]; rfl) (ar (by omega) (by omega) (hJ3 _ _ ⟨rfl, ?_⟩))
     rw [bits_pow hb.2.2.1 hb.2.2.2]
     have : argOk size align = isPow align := by
      unfold argOk
      rw [decide_eq_true hb.1, decide_eq_true hb.2.2.1, decide_eq_true hb.2.2.2]; rfl
     rw [this]
     cases hp : isPow align
     ·rw [decide_eq_false (by simp)]
     ·rw [decide_eq_true (by simp; omega)]
    ·refine ifT (by rw [hr2, decide_eq_false hb]; rfl) (hJ3 _ _ ⟨rfl, ?_⟩)
     rw [decide_eq_false]; rfl
     rintro ⟨q1, q2⟩
     simp only [argOk, Bool.and_eq_true, decide_eq_true_eq] at q2
     exact hb ⟨q2.1, q1, q2.2.1, q2.2.2.1⟩
   ·by_cases hb : 1 <= size /\ size <= 16384 /\ 1 <= align
    ·refine ifF (by rw [hr1, decide_eq_true hb]; rfl) (hJ2 _ _ ⟨rfl, ?_⟩)
     by_cases h3 : align > 256
     ·rw [decide_eq_true h3, decide_eq_false (by omega)]; rfl
     ·rw [decide_eq_false h3, decide_eq_true (by omega)]; rfl
    ·exact ifT (by rw [hr1, decide_eq_false hb]; rfl) (hJ2 _ _ ⟨rfl, by rw [decide_eq_false (by omega)]; rfl⟩)
  ·by_cases hb : 1 <= size /\ size <= 16384
   ·refine ifF (by rw [hr, decide_eq_true hb]; rfl) (hJ1 _ _ ⟨rfl, ?_⟩)
    by_cases h3 : align < 1
    ·rw [decide_eq_true h3, decide_eq_false (by omega)]; rfl
    ·rw [decide_eq_false h3, decide_eq_true (by omega)]; rfl
   ·exact ifT (by rw [hr, decide_eq_false hb]; rfl) (hJ1 _ _ ⟨rfl, by rw [decide_eq_false (by omega)]; rfl⟩)
 ·by_cases h3 : size > 16384
  ·rw [decide_eq_true h3, decide_eq_false (by omega)]; rfl
  ·rw [decide_eq_false h3, decide_eq_true (by omega)]; rfl
def readV (sp : Sp) (x : Int) : Int := if accE sp x = 0 then sp.wd (x.toNat / 8) else 0
def shiftS (sp : Sp) (to fr : Int) (n : Nat) : Sp := (List.range n).foldl (fun s (i : Nat) => writeS s (to + (i : Int) * 8) (readV sp (fr + (i : Int) * 8))) sp
theorem words_ok (x : Int) (h0 : 0 <= x) (h1 : x <= 1000000000000) {R : Int -> Hp -> Prop} (hR : R (x / 8) σ) : resize_words.call x σ R := by
 refine resize_words.of_vc ?_
 unfold resize_words.vc
 refine nz (by decide) (ar (by rw [tdiv_nn (by omega)]; omega) (by rw [tdiv_nn (by omega)]; omega) ?_)
 rw [tdiv_nn h0]; exact hR
theorem hRead_ok' (h : HH σ F L H) (x : Int) (hx : x <= 1000000000000) {R : Int -> Int -> Hp -> Prop} (hR : ∀ σ', Ext0 σ σ' -> R (readV H.sp x) (accE H.sp x) σ') : heap_Heap_Read.call (some ⟨L.p, 0, none⟩) x σ R := hRead_ok h x hx hR
theorem shift_ok (h : HH σ F L H) (to fr : Int) (n : Nat) (ht0 : -1000000000000 <= to) (ht : to <= 500000000000) (hf0 : -1000000000000 <= fr) (hf : fr <= 500000000000) (hn : n <= 1000000) {R : Hp -> Prop}
 (hR : ∀ σ', Ext F σ σ' -> HH σ' (Grow F σ) L { H with sp := shiftS H.sp to fr n } -> R σ') : resize_shift.call (some ⟨L.p, 0, none⟩) to fr (n : Int) σ R := by
 refine resize_shift.of_vc ?_
 unfold resize_shift.vc
 refine mk (n := n) (by omega) (by omega) fun v hz e hb => ?_
 have K1 := (HK.start h).box e hz
 refine loop1 (a := .i .i64) (fun (z : Int) w => ∃ (i : Nat) (cs : List Value), z = (i : Int) /\ i <= n /\ HK F σ (fun b => False ∨ b = σ.size) w (Cut F σ) L H /\ Blk w σ.size cs /\ cs.length = n /\ ∀ j, j < i -> cs[j]? = some (.int .i64 (readV H.sp (fr + (j : Int) * 8)))) (fun z _ => n - z.toNat) ⟨0, _, rfl, by omega, K1, hb, by simp, fun j hj => by omega⟩ ?_
 rintro (z : Int) w ⟨i, cs, rfl, hi, K, hbw, hcl, hrd⟩
 refine ifD (fun hlt => ?_) fun hge => ?_
 ·refine ar (by omega) (by omega) (ar (by omega) (by omega) (hRead_ok' K.h _ (by omega) fun w1 e1 => ?_))
  have K1 := K.fr e1
  refine ix (by omega) (by simp only; omega) ?_
  rw [add_lit, show 0 + (i : Int).toNat * 1 = i by omega]
  refine (e1.blk hbw id).s0 (by omega) fun w2 o2 hb2 => ?_
  refine arN (m := i + 1) (by omega) (by omega) ⟨⟨i + 1, _, rfl, by omega, K1.own o2 (.inr rfl), hb2, by simp [hcl], fun j hj => ?_⟩, by omega⟩
  by_cases hji : j = i
  ·subst hji; rw [List.getElem?_set_self (by omega)]
  ·rw [List.getElem?_set_ne (by omega)]; exact hrd j (by omega)
 ·have hin : i = n := by omega
  subst hin
  refine loop1 (a := .i .i64) (fun (z : Int) w => ∃ (j : Nat) (P : Rg), z = (j : Int) /\ j <= i /\ HK F σ (fun b => False ∨ b = σ.size) w P L { H with sp := shiftS H.sp to fr j } /\ Blk w σ.size cs) (fun z _ => i - z.toNat) ⟨0, _, rfl, by omega, K, hbw⟩ ?_
  rintro (z : Int) w ⟨j, P, rfl, hj, K, hbw⟩
  refine ifD (fun hlt => ?_) fun hge => ?_
  ·simp only at hlt
   refine ix (by omega) (by simp only; omega) ?_
   rw [add_lit, show 0 + (j : Int).toNat * 1 = j by omega]
   refine hbw.rI0 (hrd j (by omega)) (ar (by omega) (by omega) (ar (by omega) (by omega) (hWrite_ok K.h _ _ (by omega) fun w1 e1 h1 => ?_)))
   have K1 := K.to e1 h1 fun b _ hb => hb
   have hsn : writeS (shiftS H.sp to fr j) (to + (j : Int) * 8) (readV H.sp (fr + (j : Int) * 8)) = shiftS H.sp to fr (j + 1) := by
    unfold shiftS; rw [List.range_succ, List.foldl_append]; rfl
   simp only [hsn] at K1
   exact arN (m := j + 1) (by omega) (by omega) ⟨⟨j + 1, _, rfl, by omega, K1, K.keepB e1 hbw (.inr rfl)⟩, by omega⟩
  ·have hji : j = i := by simp only at hge; omega
   subst hji
   exact hR w K.e (K.fin h)
end Go.Ar
namespace Go.Ar
open Go Go.Vc Go.Proofs


variable {σ u w w' : Hp} {F B P Q : Rg} {L : LayH} {H H' : Hw} {t n : Nat} {g : Th}
def usableH (H : Hw) (x : Int) : Option Int := (mget H.live x).map fun b => b.2.1
inductive ReaR (H : Hw) (thread addr size : Int) : Hw -> Int -> Int -> Prop
 | notReady : readyE H thread ≠ 0 -> ReaR H thread addr size H 0 (readyE H thread)
 | bad : readyE H thread = 0 -> size < 0 ∨ 16384 < size -> ReaR H thread addr size H 0 1
 | none : readyE H thread = 0 -> addr = 0 -> size = 0 -> ReaR H thread addr size H 0 0
 | first {H' : Hw} {a e : Int} : readyE H thread = 0 -> addr = 0 -> 0 < size -> size <= 16384 -> Whole H thread 0 size 8 0 H' a e -> ReaR H thread addr size H' a e
 | wild : readyE H thread = 0 -> addr ≠ 0 -> 0 <= size -> size <= 16384 -> usableH H addr = Option.none -> ReaR H thread addr size H 0 8
 | free {H' : Hw} {a e u : Int} : readyE H thread = 0 -> addr ≠ 0 -> size = 0 -> usableH H addr = some u -> Whole H thread 1 0 0 addr H' a e -> ReaR H thread addr size H' 0 e
 | same {u : Int} : readyE H thread = 0 -> addr ≠ 0 -> 0 < size -> size <= 16384 -> usableH H addr = some u -> size <= u /\ u <= 2 * (goodH H.tb size 8).1 -> ReaR H thread addr size H addr 0
 | full {H' : Hw} {a e u : Int} : readyE H thread = 0 -> addr ≠ 0 -> 0 < size -> size <= 16384 -> usableH H addr = some u -> ¬ (size <= u /\ u <= 2 * (goodH H.tb size 8).1) -> Whole H thread 0 size 8 0 H' a e -> e ≠ 0 -> ReaR H thread addr size H' 0 e
 | moved {H1 H3 : Hw} {a u u2 a3 e3 : Int} : readyE H thread = 0 -> addr ≠ 0 -> 0 < size -> size <= 16384 -> usableH H addr = some u -> ¬ (size <= u /\ u <= 2 * (goodH H.tb size 8).1) -> Whole H thread 0 size 8 0 H1 a 0 -> usableH H1 a = some u2 -> 0 <= u -> 0 <= u2 -> (0 <= a /\ a <= 500000000000 /\ 0 <= addr /\ addr <= 500000000000 /\ u <= 1000000 /\ u2 <= 1000000) →
  Whole { H1 with sp := shiftS H1.sp a addr ((min u2 u).toNat / 8) } thread 1 0 0 addr H3 a3 e3 -> ReaR H thread addr size H3 a 0
theorem clsV_mem {tb : List Cls} {size align : Int} {k : Nat} (h : clsV tb size align = some k) : k < tb.length := (List.findIdx?_eq_some_iff_findIdx_eq.1 h).1
theorem goodH_le {tb : List Cls} (hv : TbOk tb) (size align : Int) (h : size <= 16384) : 0 <= (goodH tb size align).1 /\ (goodH tb size align).1 <= 100000 := by
 unfold goodH
 split
 ·rename_i hok
  have hs1 := hok.2
  simp only [argOk, Bool.and_eq_true, decide_eq_true_eq] at hs1
  split
  ·rename_i k hk
   have hlt := clsV_mem hk
   have hc : tb[k]? = some tb[k] := List.getElem?_eq_getElem hlt
   have hcd : tb.getD k ⟨8, 1, 1⟩ = tb[k] := by rw [List.getD_eq_getElem?_getD, hc]; rfl
   rw [hcd]
   have hx : (tb.map clsT)[k]? = some (clsT tb[k]) := by simp [hc]
   have := ((validT_iff _).1 hv).2.2.1 k _ hx
   rw [clsOk_iff] at this
   simp only [clsT] at this
   omega
  ·unfold upPage; simp only; omega
 ·simp
theorem hUsable_ok' (h : HH σ F L H) (x : Int) {R : Int -> Int -> Hp -> Prop} (hR : ∀ σ', Ext0 σ σ' -> R ((usableH H x).getD 0) (if (usableH H x).isSome then 0 else 8) σ') : heap_Heap_Usable.call (some ⟨L.p, 0, none⟩) x σ R := by
 refine hUsable_ok h x fun σ' e => ?_
 have := hR σ' e
 unfold usableH at this
 cases hm : mget H.live x with
 | none => rw [hm] at this; exact this
 | some b => rw [hm] at this; exact this
theorem Realloc_ok (hso : SortB) (h : HH σ F L H) (hc : CfOk H) {thread addr size a e : Int} (hr : ReaR H thread addr size H' a e) (hu : ∀ b, usableH H addr = some b -> 0 <= b /\ b <= 1000000000) {R : Int -> Int -> Hp -> Prop}
 (hR : ∀ σ' ts', Ext F σ σ' -> HH σ' (Grow F σ) { L with ts := ts' } H' -> R a e σ') : resize_Realloc.call (some ⟨L.p, 0, none⟩) thread addr size σ R := by
 refine resize_Realloc.of_vc ?_
 unfold resize_Realloc.vc
 refine nw (cs := [.int .i64 thread]) fun v hz e0 hb => ?_
 have K1 := (HK.start h).box e0 hz
 refine ready1_ok K1.h hc hb (fun hf => by have := hf.2; omega) fun v1 e1 => ?_
 have K2 := K1.fr e1
 have same : ∀ {w : Hp} {P B : Rg}, HK F σ B w P L H -> H' = H -> R a e w := fun K he => hR _ L.ts K.e (by rw [he]; exact K.fin h)
 have pass : readyE H thread = 0 -> ∀ {J : Bool -> Hp -> Prop}, J (decide (size < 0 ∨ 16384 < size)) v1 -> (If (readyE H thread != 0) (R 0 (readyE H thread) v1) (If (decide (size < 0)) (J true v1) (J (decide (size > 16384)) v1))) := fun h0 J hJ => by
  refine ifF (by rw [h0]; rfl) (ifD (fun h1 => ?_) fun h1 => ?_)
  ·rw [decide_eq_true (by omega : size < 0 ∨ 16384 < size)] at hJ; exact hJ
  ·by_cases h2 : size > 16384
   ·rw [decide_eq_true h2]; rw [decide_eq_true (by omega : size < 0 ∨ 16384 < size)] at hJ; exact hJ
   ·rw [decide_eq_false h2]; rw [decide_eq_false (by omega)] at hJ; exact hJ
 cases hr with
 | notReady h0 => exact ifT (by simpa using h0) (same K2 rfl)
 | bad h0 hs =>
  refine ifF (by rw [h0]; rfl) (JnB.intro ?_)
  have := pass h0 (J := fun r w => If r (R 0 1 w) True) (by rw [decide_eq_true hs]; exact same K2 rfl)
  refine ifD (fun h1 => ifT rfl (same K2 rfl)) fun h1 => ifDT (by omega) (same K2 rfl)
 | none h0 ha hs =>
  subst ha; subst hs
  exact ifF (by rw [h0]; rfl) (JnB.intro (ifDF (by omega) (ifDF (by omega) (ifT rfl (ifT rfl (same K2 rfl))))))
 | first h0 ha hs1 hs2 hw =>
  subst ha
  refine ifF (by rw [h0]; rfl) (JnB.intro (ifDF (by omega) (ifDF (by omega) (ifT rfl (ifF (by simp only [beq_eq_false_iff_ne]; omega) ?_)))))
  refine hMalloc_ok hso K2.h hc.2.2 hw fun v3 ts3 e3 h3 => ?_
  have K3 := K2.to e3 h3 fun b _ hb => hb
  exact hR v3 ts3 K3.e (K3.fin h)
 | wild h0 ha hs1 hs2 hn =>
  refine ifF (by rw [h0]; rfl) (JnB.intro (ifDF (by omega) (ifDF (by omega) (ifF (by simpa using ha) ?_))))
  refine hUsable_ok' K2.h addr fun v4 e4 => ?_
  rw [hn]
  exact ifT rfl (same (K2.fr e4) rfl)
 | free h0 ha hs hn hw =>
  subst hs
  refine ifF (by rw [h0]; rfl) (JnB.intro (ifDF (by omega) (ifDF (by omega) (ifF (by simpa using ha) ?_))))
  refine hUsable_ok' K2.h addr fun v4 e4 => ?_
  rw [hn]
  have K4 := K2.fr e4
  refine ifF rfl (ifT rfl (hFree_ok hso K4.h hc.2.2 hw fun v5 ts5 e5 h5 => ?_))
  have K5 := K4.to e5 h5 fun b _ hb => hb
  exact hR v5 ts5 K5.e (K5.fin h)
 | @same u h0 ha hs1 hs2 hn hg =>
  have hub := hu _ hn
  have hgl := goodH_le hc.2.2 size 8 hs2
  refine ifF (by rw [h0]; rfl) (JnB.intro (ifDF (by omega) (ifDF (by omega) (ifF (by simpa using ha) ?_))))
  refine hUsable_ok' K2.h addr fun v4 e4 => ?_
  rw [hn]
  have K4 := K2.fr e4
  refine ifF rfl (ifF (by simp only [beq_eq_false_iff_ne]; omega) (Good_ok K4.h hc size 8 fun v6 e6 => ?_))
  have K6 := K4.fr e6
  refine jnB_p (fun r w => w = v6 /\ r = true) (fun r w ⟨hw, hr⟩ => by subst hw; exact ifT hr (same K6 rfl)) fun J1 hJ1 => ifDT hg.1 (ar (by omega) (by omega) (hJ1 _ _ ⟨rfl, decide_eq_true hg.2⟩))
 | @full H' a' e' u h0 ha hs1 hs2 hn hg hw hne =>
  have hub := hu _ hn
  have hgl := goodH_le hc.2.2 size 8 hs2
  refine ifF (by rw [h0]; rfl) (JnB.intro (ifDF (by omega) (ifDF (by omega) (ifF (by simpa using ha) ?_))))
  refine hUsable_ok' K2.h addr fun v4 e4 => ?_
  rw [hn]
  have K4 := K2.fr e4
  refine ifF rfl (ifF (by simp only [beq_eq_false_iff_ne]; omega) (Good_ok K4.h hc size 8 fun v6 e6 => ?_))
  have K6 := K4.fr e6
  refine jnB_p (fun r w => w = v6 /\ r = false) (fun r w ⟨hw', hr⟩ => ?_) fun J1 hJ1 => ifD (fun h1 => ar (by omega) (by omega) (hJ1 _ _ ⟨rfl, decide_eq_false fun h2 => hg ⟨h1, h2⟩⟩)) fun h1 => hJ1 _ _ ⟨rfl, rfl⟩
  subst hw'
  refine ifF hr (hMalloc_ok hso K6.h hc.2.2 hw fun v8 ts8 e8 h8 => ?_)
  have K8 := K6.to e8 h8 fun b _ hb => hb
  exact ifT (by simpa using hne) (hR v8 ts8 K8.e (K8.fin h))
 | @moved H1 H3 a' u u2 a3 e3' h0 ha hs1 hs2 hn hg hw hn2 hu0 hu2 hbd hw3 =>
  have hub := hu _ hn
  have hgl := goodH_le hc.2.2 size 8 hs2
  refine ifF (by rw [h0]; rfl) (JnB.intro (ifDF (by omega) (ifDF (by omega) (ifF (by simpa using ha) ?_))))
  refine hUsable_ok' K2.h addr fun v4 e4 => ?_
  rw [hn]
  have K4 := K2.fr e4
  refine ifF rfl (ifF (by simp only [beq_eq_false_iff_ne]; omega) (Good_ok K4.h hc size 8 fun v6 e6 => ?_))
  have K6 := K4.fr e6
  refine jnB_p (fun r w => w = v6 /\ r = false) (fun r w ⟨hw', hr⟩ => ?_) fun J1 hJ1 => ifD (fun h1 => ar (by omega) (by omega) (hJ1 _ _ ⟨rfl, decide_eq_false fun h2 => hg ⟨h1, h2⟩⟩)) fun h1 => hJ1 _ _ ⟨rfl, rfl⟩
  subst hw'
  refine ifF hr (hMalloc_ok hso K6.h hc.2.2 hw fun v8 ts8 e8 h8 => ?_)
  have K8 := K6.to e8 h8 fun b _ hb => hb
  refine ifF rfl (hUsable_ok' K8.h a fun v9 e9 => ?_)
  have K9 := K8.fr e9
  rw [hn2]
  simp only [Option.getD_some]
  have hmin : (if u2 < u then u2 else u) = min u2 u := by omega
  rw [hmin]
  refine words_ok _ (by omega) (by omega) ?_
  have hdiv : (min u2 u) / 8 = (((min u2 u).toNat / 8 : Nat) : Int) := by omega
  rw [hdiv]
  refine shift_ok K9.h a addr _ (by omega) (by omega) (by omega) (by omega) (by omega) fun v11 e11 h11 => ?_
  have K11 := K9.to e11 h11 fun b _ hb => hb
  have hk1 := keep_whole hw
  refine hFree_ok hso K11.h (by show TbOk H1.tb; rw [hk1.1]; exact hc.2.2) hw3 fun v12 ts12 e12 h12 => ?_
  have K12 := K11.to e12 h12 fun b _ hb => hb
  exact hR v12 ts12 K12.e (K12.fin h)
end Go.Ar
namespace Go.Ar
open Go Go.Vc Go.Proofs


variable {σ u w w' : Hp} {F B P Q : Rg} {L : LayH} {H H' : Hw} {t n : Nat} {g : Th}
def putK (s : ByteArray) (i k : Nat) (w : Int) : Int := match s[i * 8 + k]? with
 | some b => bits .or .u64 w (IntKind.u64.wrap (IntKind.u64.wrap (b.toNat : Int) * 2 ^ (min (8 * k) 64)))
 | none => w
def putF (s : ByteArray) (i n : Nat) : Int := (List.range n).foldl (fun w k => putK s i k w) 0
def putWd (s : ByteArray) (i : Nat) : Int := IntKind.i64.wrap (putF s i 8)
def putS (sp : Sp) (a : Int) (s : ByteArray) (n : Nat) : Sp := (List.range n).foldl (fun sp (i : Nat) => writeS sp (a + ((i : Int) + 1) * 8) (putWd s i)) (writeS sp a (s.size : Int))
inductive PutR (H : Hw) (thread : Int) (s : ByteArray) : Hw -> Int -> Int -> Prop
 | notReady : readyE H thread ≠ 0 -> PutR H thread s H 0 (readyE H thread)
 | long : readyE H thread = 0 -> 400 < s.size -> PutR H thread s H 0 3
 | full {H' : Hw} {a e : Int} : readyE H thread = 0 -> s.size <= 400 -> Whole H thread 0 ((((s.size + 7) / 8 + 1) * 8 : Nat) : Int) 8 0 H' a e -> e ≠ 0 -> PutR H thread s H' 0 e
 | ok {H1 : Hw} {a : Int} : readyE H thread = 0 -> s.size <= 400 -> Whole H thread 0 ((((s.size + 7) / 8 + 1) * 8 : Nat) : Int) 8 0 H1 a 0 -> 0 <= a -> a <= 500000000000 -> PutR H thread s { H1 with sp := putS H1.sp a s ((s.size + 7) / 8) } a 0
theorem size_get {s : ByteArray} {i : Nat} : s[i]? = if h : i < s.size then some s[i] else none := by
 by_cases h : i < s.size
 ·rw [dif_pos h]; exact getElem?_pos s i h
 ·rw [dif_neg h]; exact getElem?_neg s i h
theorem RPut_ok (hso : SortB) (h : HH σ F L H) (hc : CfOk H) {thread a e : Int} {s : ByteArray} (hr : PutR H thread s H' a e) {R : Int -> Int -> Hp -> Prop}
 (hR : ∀ σ' ts', Ext F σ σ' -> HH σ' (Grow F σ) { L with ts := ts' } H' -> R a e σ') : resize_Put.call (some ⟨L.p, 0, none⟩) thread s σ R := by
 refine resize_Put.of_vc ?_
 unfold resize_Put.vc
 refine nw (cs := [.int .i64 thread]) fun v hz e0 hb => ?_
 have K1 := (HK.start h).box e0 hz
 refine ready1_ok K1.h hc hb (fun hf => by have := hf.2; omega) fun v1 e1 => ?_
 have K2 := K1.fr e1
 have siz : s.size <= 400 -> ∀ {K : Int -> Prop}, K (((((s.size + 7) / 8 + 1) * 8 : Nat)) : Int) -> Ar .i64 (((s.size : Nat) : Int) + 8) fun t28 => Ar .i64 (t28 - 1) fun t29 => Nz 8 <| Ar .i64 (t29.tdiv 8) fun n => Ar .i64 (n + 1) fun t35 => Ar .i64 (t35 * 8) fun t36 => K t36 := fun hs K hK => by
  refine arN (m := s.size + 8) (by omega) (by omega) (arN (m := s.size + 7) (by omega) (by omega) (nz (by decide) (arN (m := (s.size + 7) / 8) (by rw [tdiv_nn (by omega)]; omega) (by omega) (arN (m := (s.size + 7) / 8 + 1) (by omega) (by omega) (arN (m := ((s.size + 7) / 8 + 1) * 8) (by omega) (by omega) hK)))))
 cases hr with
 | notReady h0 => exact ifT (by simpa using h0) (hR _ L.ts K2.e (K2.fin h))
 | long h0 hs => exact ifF (by rw [h0]; rfl) (ifDT (by omega) (hR _ L.ts K2.e (K2.fin h)))
 | @full H' a' e' h0 hs hw hne =>
  refine ifF (by rw [h0]; rfl) (ifDF (by omega) ?_)
  refine arN (m := s.size + 8) (by omega) (by omega) (arN (m := s.size + 7) (by omega) (by omega) (nz (by decide) (arN (m := (s.size + 7) / 8) (by rw [tdiv_nn (by omega)]; omega) (by omega) (arN (m := (s.size + 7) / 8 + 1) (by omega) (by omega) (arN (m := ((s.size + 7) / 8 + 1) * 8) (by omega) (by omega) ?_)))))
  refine hMalloc_ok hso K2.h hc.2.2 hw fun v3 ts3 e3 h3 => ?_
  have K3 := K2.to e3 h3 fun b _ hb => hb
  exact ifT (by simpa using hne) (hR v3 ts3 K3.e (K3.fin h))
 | @ok H1 a' h0 hs hw ha0 ha1 =>
  refine ifF (by rw [h0]; rfl) (ifDF (by omega) ?_)
  refine arN (m := s.size + 8) (by omega) (by omega) (arN (m := s.size + 7) (by omega) (by omega) (nz (by decide) (arN (m := (s.size + 7) / 8) (by rw [tdiv_nn (by omega)]; omega) (by omega) (arN (m := (s.size + 7) / 8 + 1) (by omega) (by omega) (arN (m := ((s.size + 7) / 8 + 1) * 8) (by omega) (by omega) ?_)))))
  refine hMalloc_ok hso K2.h hc.2.2 hw fun v3 ts3 e3 h3 => ?_
  have K3 := K2.to e3 h3 fun b _ hb => hb
  refine ifF rfl (hWrite_ok K3.h a _ (by omega) fun v4 e4 h4 => ?_)
  have K4 := K3.to e4 h4 fun b _ hb => hb
  generalize hn : (s.size + 7) / 8 = n at hR
  refine loop1 (a := .i .i64) (fun (z : Int) w => ∃ (i : Nat) (B P : Rg), z = (i : Int) /\ i <= n /\ HK F σ B w P { L with ts := ts3 } { H1 with sp := putS H1.sp a s i }) (fun z _ => n - z.toNat) ⟨0, _, _, rfl, by omega, K4⟩ ?_
  rintro (z : Int) w ⟨i, B, P, rfl, hi, K⟩
  refine ifD (fun hlt => ?_) fun hge => ?_
  ·refine loop2 (a := .i .u64) (bb := .i .i64) (fun (x z : Int) w' => w' = w /\ ∃ k : Nat, z = (k : Int) /\ k <= 8 /\ x = putF s i k) (fun _ z _ => 8 - z.toNat) ⟨rfl, 0, rfl, by omega, rfl⟩ ?_
   rintro (x : Int) (z : Int) w' ⟨rfl, k, rfl, hk, rfl⟩
   refine ifD (fun hlt2 => ?_) fun hge2 => ?_
   ·have hsn : putK s i k (putF s i k) = putF s i (k + 1) := by unfold putF; rw [List.range_succ, List.foldl_append]; rfl
    refine arN (m := i * 8) (by omega) (by omega) (arN (m := i * 8 + k) (by omega) (by omega) (ifD (fun hb => ?_) fun hb => ?_))
    ·have hlt3 : i * 8 + k < s.size := by omega
     have hgb : s[i * 8 + k]? = some s[i * 8 + k] := by rw [size_get, dif_pos hlt3]
     refine ⟨s[i * 8 + k], by omega, by rw [Int.toNat_natCast]; exact hgb, arW (arN (m := 8 * k) (by omega) (by omega) (nn (by omega) (arW (arN (m := k + 1) (by omega) (by omega) ⟨⟨rfl, k + 1, rfl, by omega, ?_⟩, by omega⟩))))⟩
     rw [← hsn]
     unfold putK
     rw [hgb]
     have : min ((8 * k : Nat) : Int).toNat IntKind.u64.bits = min (8 * k) 64 := rfl
     rw [this]
    ·have hgb : s[i * 8 + k]? = none := by rw [size_get, dif_neg (by omega)]
     refine arN (m := k + 1) (by omega) (by omega) ⟨⟨rfl, k + 1, rfl, by omega, ?_⟩, by omega⟩
     rw [← hsn]
     unfold putK
     rw [hgb]
   ·have hk8 : k = 8 := by omega
    subst hk8
    refine arN (m := i + 1) (by omega) (by omega) (arN (m := (i + 1) * 8) (by omega) (by omega) (ar (by omega) (by omega) (arW (hWrite_ok K.h _ _ (by omega) fun w1 e1 h1 => ?_))))
    have K1 := K.to e1 h1 fun b _ hb => hb
    have hsn : writeS (putS H1.sp a s i) (a + (((i + 1) * 8 : Nat) : Int)) (IntKind.i64.wrap (putF s i 8)) = putS H1.sp a s (i + 1) := by
     unfold putS
     rw [List.range_succ, List.foldl_append]
     have : a + (((i + 1) * 8 : Nat) : Int) = a + ((i : Int) + 1) * 8 := by omega
     rw [this]; rfl
    simp only [hsn] at K1
    exact arN (m := i + 1) (by omega) (by omega) ⟨⟨i + 1, _, _, rfl, by omega, K1⟩, by omega⟩
  ·have hin : i = n := by omega
   subst hin
   exact hR w ts3 K.e (K.fin h)
def getB (sp : Sp) (a : Int) (j : Nat) : Int := IntKind.u8.wrap ((IntKind.u64.wrap (readV sp (a + (((j / 8 + 1) * 8 : Nat) : Int)))).fdiv (2 ^ (min (8 * (j % 8)) 64)))
def getBs (sp : Sp) (a : Int) (n : Nat) : ByteArray := ⟨(((List.range n).map (getB sp a)).map fun x => UInt8.ofNat x.toNat).toArray⟩
def getBad (H : Hw) (a u : Int) : Bool := accE H.sp a != 0 || (decide (readV H.sp a < 0) || (decide (400 < readV H.sp a) || decide (u / 8 < (readV H.sp a + 7) / 8 + 1)))
def getV (H : Hw) (a : Int) : ByteArray := match usableH H a with
 | none => ByteArray.mk #[]
 | some u => if getBad H a u then ByteArray.mk #[] else getBs H.sp a (readV H.sp a).toNat
def getE (H : Hw) (a : Int) : Int := match usableH H a with
 | none => 8
 | some u => if getBad H a u then 2 else 0
theorem RGet_ok (h : HH σ F L H) (hc : CfOk H) (a : Int) (ha : a <= 500000000000) (hu : ∀ u, usableH H a = some u -> 0 <= u /\ u <= 1000000000) (ha0 : (usableH H a).isSome = true -> 0 <= a) {R : ByteArray -> Int -> Hp -> Prop}
 (hR : ∀ σ', Ext0 σ σ' -> R (getV H a) (getE H a) σ') : resize_Get.call (some ⟨L.p, 0, none⟩) a σ R := by
 refine resize_Get.of_vc ?_
 unfold resize_Get.vc
 refine ready0_ok h hc fun v e => ifF rfl (hUsable_ok' (h.keep0 e) a fun v1 e1 => ?_)
 have e01 := e.trans e1
 cases hus : usableH H a with
 | none =>
  have := hR v1 e01
  unfold getV getE at this
  rw [hus] at this
  exact ifT rfl this
 | some u =>
  have hub := hu u hus
  have ha0 := ha0 (by rw [hus]; rfl)
  have hV : getV H a = if getBad H a u then ByteArray.mk #[] else getBs H.sp a (readV H.sp a).toNat := by unfold getV; rw [hus]
  have hE : getE H a = if getBad H a u then 2 else 0 := by unfold getE; rw [hus]
  rw [hV, hE] at hR
  simp only [Option.getD_some, Option.isSome_some, if_true]
  refine ifF rfl (hRead_ok' (h.keep0 e01) a (by omega) fun v2 e2 => ?_)
  have e02 := e01.trans e2
  refine jnB_p (fun r w => w = v2 /\ r = (accE H.sp a != 0 || decide (readV H.sp a < 0))) (fun r w ⟨hw, hr⟩ => ?_) fun J hJ => ?_
  ·subst hw
   refine jnB_p (fun r w2 => w2 = w /\ r = (accE H.sp a != 0 || (decide (readV H.sp a < 0) || decide (400 < readV H.sp a)))) (fun r w2 ⟨hw, hr1⟩ => ?_) fun J1 hJ1 => ?_
   ·rw [hw]
    refine jnB_p (fun r w2 => w2 = w /\ r = getBad H a u) (fun r w2 ⟨hw, hr2⟩ => ?_) fun J2 hJ2 => ?_
    ·rw [hw]
     refine iff_ (fun h1 => ?_) fun h0 => ?_
     ·have := hR w e02
      rw [← hr2, h1] at this; exact this
     ·rw [← hr2, h0] at hR
      have hb := hr2.symm.trans h0
      simp only [getBad, Bool.or_eq_false_iff, decide_eq_false_iff_not] at hb
      obtain ⟨_, hb1, hb2, hb3⟩ := hb
      generalize hn : (readV H.sp a).toNat = m at hR
      have hm : readV H.sp a = (m : Int) := by omega
      rw [hm]
      refine mk (n := m) (by omega) (by omega) fun v6 hz6 e6 hb6 => ?_
      have hw6 := h.keep0 (e02.trans e6)
      have K0 := (HK.start (h.keep0 e02)).box e6 hz6
      refine loop1 (a := .i .i64) (fun (z : Int) w' => ∃ (i : Nat) (cs : List Value), z = (i : Int) /\ i <= m /\ HK F w (fun b => False ∨ b = w.size) w' (Cut F w) L H /\ Ext0 w w' /\ Blk w' w.size cs /\ cs.length = m /\ ∀ j, j < i -> cs[j]? = some (.int .u8 (getB H.sp a j))) (fun z _ => m - z.toNat) ⟨0, _, rfl, by omega, K0, e6, hb6, by simp, fun j hj => by omega⟩ ?_
      rintro (z : Int) w' ⟨i, cs, rfl, hi, K, ew, hbw, hcl, hrd⟩
      refine ifD (fun hlt => ?_) fun hge => ?_
      ·simp only at hlt
       refine nz (by decide) (arN (m := i / 8) (by rw [tdiv_nn (by omega)]; omega) (by omega) (arN (m := i / 8 + 1) (by omega) (by omega) (arN (m := (i / 8 + 1) * 8) (by omega) (by omega) (ar (by omega) (by omega) (hRead_ok' K.h _ (by omega) fun w1 e1 => ?_)))))
       refine arW (nz (by decide) (arN (m := 8 * (i % 8)) (by rw [tmod_nn (by omega)]; omega) (by omega) (nn (by omega) (arW ?_))))
       refine ix (by omega) (by simp only; omega) ?_
       rw [add_lit, show 0 + (i : Int).toNat * 1 = i by omega]
       have K1 := K.fr e1
       refine (e1.blk hbw id).s0 (by omega) fun w2 o2 hb2 => ?_
       refine arN (m := i + 1) (by omega) (by omega) ⟨⟨i + 1, _, rfl, by omega, K1.own o2 (.inr rfl), (ew.trans e1).only o2 (.inr (Nat.le_refl _)), hb2, by simp [hcl], fun j hj => ?_⟩, by omega⟩
       by_cases hji : j = i
       ·subst hji; rw [List.getElem?_set_self (by omega)]; rfl
       ·rw [List.getElem?_set_ne (by omega)]; exact hrd j (by omega)
      ·have hin : i = m := by simp only at hge; omega
       subst hin
       have hcs : cs = ((List.range i).map (getB H.sp a)).map (.int .u8) := by
        apply List.ext_getElem?
        intro j
        by_cases hj : j < i
        ·rw [hrd j hj]; simp [hj]
        ·rw [List.getElem?_eq_none (by omega), List.getElem?_eq_none (by simp; omega)]
       refine ⟨(List.range i).map (getB H.sp a), by simp, ?_, hR w' (e02.trans ew)⟩
       intro j v' hv'
       rw [add_lit, hbw.cell, hcs]
       simpa using hv'
    ·refine iff_ (fun h1 => hJ2 _ _ ⟨rfl, ?_⟩) fun h0 => ?_
     ·rw [hr1] at h1
      simp only [getBad, Bool.or_eq_true] at h1 ⊢
      rcases h1 with h1 | h1 | h1
      ·rw [h1]; simp
      ·rw [h1]; simp
      ·rw [h1]; simp
     ·rw [hr1] at h0
      simp only [Bool.or_eq_false_iff, decide_eq_false_iff_not] at h0
      obtain ⟨q1, q2, q3⟩ := h0
      refine ar (by omega) (by omega) (ar (by omega) (by omega) (nz (by decide) (ar (by rw [tdiv_nn (by omega)]; omega) (by rw [tdiv_nn (by omega)]; omega) ?_)))
      rw [tdiv_nn (by omega)]
      refine ar (by omega) (by omega) (words_ok u hub.1 (by omega) (hJ2 _ _ ⟨rfl, ?_⟩))
      unfold getBad
      rw [q1, decide_eq_false q2, decide_eq_false q3, Bool.false_or, Bool.false_or, Bool.false_or]
      rw [decide_eq_decide]; omega
   ·refine iff_ (fun h1 => hJ1 _ _ ⟨rfl, ?_⟩) fun h0 => hJ1 _ _ ⟨rfl, ?_⟩
    ·rw [hr] at h1
     simp only [Bool.or_eq_true] at h1
     rcases h1 with h1 | h1
     ·rw [h1]; simp
     ·rw [h1]; simp
    ·rw [hr] at h0
     simp only [Bool.or_eq_false_iff] at h0
     rw [h0.1, h0.2, Bool.false_or, Bool.false_or]
  ·refine iff_ (fun h1 => hJ _ _ ⟨rfl, by rw [h1]; rfl⟩) fun h0 => hJ _ _ ⟨rfl, by rw [h0]; rfl⟩
end Go.Ar
namespace Go.Proofs
open Go.Vc

set_option maxRecDepth 100000
def freeholdref01_Make.hint : Hn := .seq (.o 2) (.seq (.seq (.reg (.seq [.op, .op, .op, .grd false 2 [.op, .op]])) (.cond (.seq (.o 2) (.leaf)) (.leaf))) (.seq (.o 1) (.seq (.o 1) (.seq (.block (.loop [(4, .one .s), (5, .one (.i .i64))] (.seq (.seq (.o 2) (.cond (.leaf) (.leaf))) (.block (.seq (.o 7) (.o 6)))))) (.seq (.o 6) (.seq (.o 1) (.seq (.seq (.o 1) (.block (.loop [(6, .one .s), (7, .one (.i .i64))] (.seq (.seq (.o 4) (.cond (.leaf) (.leaf))) (.seq (.block (.seq (.reg (.heldJ true [] [(70, .one .b)] (.take 0 (.take 1 (.take 2 (.take 3 (.take 4 (.take 5 (.split 43 (.take 6 (.take 7 (.take 8 (.take 9 (.take 10 (.take 11 (.take 12 (.take 13 (.take 14 (.take 15 (.take 16 (.take 17 (.take 18 (.take 19 (.take 20 (.take 21 (.take 22 (.take 23 (.take 24 (.take 25 (.take 26 (.take 27 (.take 28 (.take 29 (.take 30 (.take 31 (.take 32 (.done)))))))))))))))))))))))))))) (.take 6 (.take 7 (.take 8 (.take 9 (.take 10 (.take 11 (.take 12 (.take 13 (.take 14 (.take 15 (.take 16 (.take 17 (.take 18 (.take 19 (.split 57 (.take 20 (.take 21 (.take 22 (.take 23 (.take 24 (.take 25 (.take 26 (.take 27 (.take 28 (.take 29 (.take 30 (.take 31 (.take 32 (.done)))))))))))))) (.take 20 (.take 21 (.take 22 (.take 23 (.take 25 (.take 26 (.take 27 (.take 28 (.take 29 (.all [(24, .all [(30, .take 31 (.take 32 (.done)))])])))))))))))))))))))))))))))))))))) (.cond (.o 8) (.leaf)))) (.o 3)))))) (.seq (.o 3) (.leaf)))))))))
def freeholdref01_Make.vc (waste : Int) (σ : Hp) (R : Sl -> Int -> Hp -> Prop) : Prop :=
 JnB (fun r v =>
 If r (R ⟨none, 0, 0⟩ 1 v)
 (LoopK [.s, (.i .i64)] (fun I => I ⟨none, 0, 0⟩ 8 v) fun J1 (all : Sl) (s : Int) v1 =>
 If (decide (s < 512)) (freeholdref01_class.call s waste v1 fun t19 t191 t192 v2 =>
 Nw (.cells #[.int .i64 t19, .int .i64 t191, .int .i64 t192] 79 (0, 0)) v2 fun n20 v3 =>
 App all 3 24 79 [.int .i64 0, .int .i64 0, .int .i64 0] ⟨(some n20), 1, 1⟩ v3 fun all1 v4 =>
 freeholdref01_step.call s waste v4 fun t25 v5 =>
 Ar .i64 (s + t25) fun s1 =>
 J1 all1 s1 v5)
 (freeholdref01_class.call 512 waste v1 fun t29 t291 t292 v6 =>
 Nw (.cells #[.int .i64 t29, .int .i64 t291, .int .i64 t292] 79 (0, 0)) v6 fun n30 v7 =>
 App all 3 24 79 [.int .i64 0, .int .i64 0, .int .i64 0] ⟨(some n30), 1, 1⟩ v7 fun all2 v8 =>
 LoopK [.s, (.i .i64)] (fun I1 => I1 ⟨none, 0, 0⟩ 0 v8) fun J2 (out : Sl) (i : Int) v9 =>
 If (decide (i < ((all2.len : Nat) : Int))) (Jn [.b] (fun (t70 : Bool) v10 =>
 If t70 (Ix all2.a all2.len i 3 fun a74 =>
 LdI .i64 (a74.add 0) v10 fun t75 =>
 LdI .i64 (a74.add 1) v10 fun t751 =>
 LdI .i64 (a74.add 2) v10 fun t752 =>
 Nw (.cells #[.int .i64 t75, .int .i64 t751, .int .i64 t752] 79 (0, 0)) v10 fun n76 v11 =>
 App out 3 24 79 [.int .i64 0, .int .i64 0, .int .i64 0] ⟨(some n76), 1, 1⟩ v11 fun out1 v12 =>
 Ar .i64 (i + 1) fun i1 =>
 J2 out1 i1 v12)
 (Ar .i64 (i + 1) fun i2 =>
 J2 out i2 v10)) fun J3 =>
 Held v9 fun S =>
 Ar .i64 (((all2.len : Nat) : Int) - 1) fun t41 =>
 If (i == t41) (J3 true v9)
 (Ix all2.a all2.len i 3 fun a46 =>
 LdH S (.i .i64) (a46.add 1) fun (t48 : Int) =>
 Ar .i64 (i + 1) fun t51 =>
 Ix all2.a all2.len t51 3 fun a52 =>
 LdH S (.i .i64) (a52.add 1) fun (t54 : Int) =>
 If (t48 != t54) (J3 true v9)
 (Ix all2.a all2.len i 3 fun a60 =>
 LdH S (.i .i64) (a60.add 0) fun (t61 : Int) =>
 LdH S (.i .i64) (a60.add 1) fun (t611 : Int) =>
 LdH S (.i .i64) (a60.add 2) fun (t612 : Int) =>
 Ar .i64 (i + 1) fun t65 =>
 Ix all2.a all2.len t65 3 fun a66 =>
 LdH S (.i .i64) (a66.add 0) fun (t67 : Int) =>
 LdH S (.i .i64) (a66.add 1) fun (t671 : Int) =>
 LdH S (.i .i64) (a66.add 2) fun (t672 : Int) =>
 freeholdref01_Objects.call t61 t611 t612 v9 fun t62 v13 =>
 And (S v13) <|
 freeholdref01_Objects.call t67 t671 t672 v13 fun t68 v14 =>
 And (S v14) <|
 J3 (t62 != t68) v14)))
 (R out 0 v9)))) fun J =>
 If (decide (waste < 2)) (J true σ)
 (J (decide (waste > 16)) σ)
theorem freeholdref01_Make.of_vc {waste : Int} {σ : Hp} {R : Sl -> Int -> Hp -> Prop} (hv : freeholdref01_Make.vc waste σ R) : freeholdref01_Make.call waste σ R :=
 fnK_sound Tryz.func75 (x := freeholdref01_Make.hint) (args := [.int .i64 waste]) (rs := [.one .s, .one (.i .i64)]) (R := R) (Eq.mpr (by kernel_rfl) hv)
def freeholdref01_class.hint : Hn := .seq (.o 1) (.seq (.o 8) (.seq (.seq (.o 1) (.block (.loop [(6, .one (.i .i64))] (.seq (.seq (.o 2) (.cond (.leaf) (.leaf))) (.seq (.block (.seq (.reg (.seq [.op, .op, .op, .op, .op, .grd true 9 [.op, .op, .op, .op, .op, .op, .op, .op, .op]])) (.cond (.o 3) (.leaf)))) (.o 3)))))) (.seq (.o 2) (.leaf))))
def freeholdref01_class.vc (s : Int) (waste : Int) (σ : Hp) (R : Int -> Int -> Int -> Hp -> Prop) : Prop :=
 Nw (.cells #[.int .i64 0, .int .i64 0, .int .i64 0] 79 (0, 0)) σ fun n4 v =>
 Nz s <| Ar .i64 ((512 : Int).tdiv s) fun t9 =>
 Nw (.cells #[.int .i64 0, .int .i64 0, .int .i64 0] 79 (0, 0)) v fun n5 v1 =>
 St1 (n5.add 0) (.int .i64 s) v1 fun v2 =>
 St1 (n5.add 1) (.int .i64 4) v2 fun v3 =>
 St1 (n5.add 2) (.int .i64 (if 32 < (if 2 > t9 then 2 else t9) then 32 else (if 2 > t9 then 2 else t9))) v3 fun v4 =>
 LoopK [(.i .i64)] (fun I => I 4 v4) fun J (p : Int) v5 =>
 If (decide (p ≥ 1)) (Ar .i64 (p * 256) fun t18 =>
 JnB (fun r v6 =>
 If r (St1 (n5.add 1) (.int .i64 p) v6 fun v7 =>
 Ar .i64 (p - 1) fun p1 =>
 J p1 v7)
 (Ar .i64 (p - 1) fun p2 =>
 J p2 v6)) fun J1 =>
 If (decide (t18 ≥ s)) (Ar .i64 (p * 256) fun t24 =>
 Nz s <|
 Ar .i64 (waste * (t24.tmod s)) fun t27 =>
 Ar .i64 (p * 256) fun t29 =>
 J1 (decide (t27 <= t29)) v5)
 (J1 false v5))
 (LdI .i64 (n5.add 0) v5 fun t34 =>
 LdI .i64 (n5.add 1) v5 fun t341 =>
 LdI .i64 (n5.add 2) v5 fun t342 =>
 St1 (n4.add 0) (.int .i64 t34) v5 fun v8 =>
 St1 (n4.add 1) (.int .i64 t341) v8 fun v9 =>
 St1 (n4.add 2) (.int .i64 t342) v9 fun v10 =>
 LdI .i64 (n4.add 0) v10 fun res =>
 LdI .i64 (n4.add 1) v10 fun res1 =>
 LdI .i64 (n4.add 2) v10 fun res2 =>
 R res res1 res2 v10)
theorem freeholdref01_class.of_vc {s : Int} {waste : Int} {σ : Hp} {R : Int -> Int -> Int -> Hp -> Prop} (hv : freeholdref01_class.vc s waste σ R) : freeholdref01_class.call s waste σ R :=
 fnK_sound Tryz.func102 (x := freeholdref01_class.hint) (args := [.int .i64 s, .int .i64 waste]) (rs := [.agg [(.i .i64), (.i .i64), (.i .i64)]]) (R := R) (Eq.mpr (by kernel_rfl) hv)
def freeholdref01_step.hint : Hn := .seq (.o 1) (.seq (.o 1) (.seq (.block (.loop [(5, .one (.i .i64))] (.seq (.seq (.o 6) (.cond (.leaf) (.leaf))) (.block (.o 3))))) (.seq (.o 2) (.leaf))))
def freeholdref01_step.vc (s : Int) (waste : Int) (σ : Hp) (R : Int -> Hp -> Prop) : Prop :=
 LoopK [(.i .i64)] (fun I => I 8 σ) fun J (d : Int) v =>
 Ar .i64 (2 * d) fun t7 =>
 Nz waste <| Ar .i64 (s.tdiv waste) fun t10 =>
 If (decide (t7 <= t10)) (Ar .i64 (2 * d) fun d1 =>
 J d1 v)
 (R d v)
theorem freeholdref01_step.of_vc {s : Int} {waste : Int} {σ : Hp} {R : Int -> Hp -> Prop} (hv : freeholdref01_step.vc s waste σ R) : freeholdref01_step.call s waste σ R :=
 fnK_sound Tryz.func103 (x := freeholdref01_step.hint) (args := [.int .i64 s, .int .i64 waste]) (rs := [.one (.i .i64)]) (R := R) (Eq.mpr (by kernel_rfl) hv)
def freeholdref01_Objects.hint : Hn := .seq (.o 2) (.seq (.o 1) (.seq (.block (.loop [(3, .one (.i .i64))] (.seq (.seq (.o 9) (.cond (.leaf) (.leaf))) (.block (.o 3))))) (.seq (.o 2) (.leaf))))
def freeholdref01_Objects.vc (c : Int) (c1 : Int) (c2 : Int) (σ : Hp) (R : Int -> Hp -> Prop) : Prop :=
 Nw (.cells #[.int .i64 c, .int .i64 c1, .int .i64 c2] 79 (0, 0)) σ fun n1 v =>
 LoopK [(.i .i64)] (fun I => I 0 v) fun J (n : Int) v1 =>
 Ar .i64 (n + 1) fun t5 =>
 LdI .i64 (n1.add 0) v1 fun t7 =>
 Ar .i64 (t5 * t7) fun t8 =>
 LdI .i64 (n1.add 1) v1 fun t10 =>
 Ar .i64 (t10 * 256) fun t11 =>
 If (decide (t8 <= t11)) (Ar .i64 (n + 1) fun n2 =>
 J n2 v1)
 (R n v1)
theorem freeholdref01_Objects.of_vc {c : Int} {c1 : Int} {c2 : Int} {σ : Hp} {R : Int -> Hp -> Prop} (hv : freeholdref01_Objects.vc c c1 c2 σ R) : freeholdref01_Objects.call c c1 c2 σ R :=
 fnK_sound Tryz.func104 (x := freeholdref01_Objects.hint) (args := [.agg #[.int .i64 c, .int .i64 c1, .int .i64 c2]]) (rs := [.one (.i .i64)]) (R := R) (Eq.mpr (by kernel_rfl) hv)
end Go.Proofs