/- Texts joined. -/
import Derived.Test.YtmjjhknmbflfhaaGreatDoorRows
import Derived.ChangeVars
import Derived.JoinedOf
import Derived.RowKit
import Derived.WalkKit
import Derived.ProofKit
import Derived.OpenShut
import Derived.ChangeOld
import Derived.Carry
import Derived.Test.YtmjjhknmbflfhaaGreatDoorW5
set_option linter.unusedVariables false
set_option linter.unusedSimpArgs false
namespace Go.Ar
open Go Go.Vc Go.Proofs
open Go.Bu (XV YZ Xu cnt)


variable {U : Hp} {F : Rg} {L : LayW} {W : Wd} {k : Nat} {A : AR} {xs : List (Int × Int × Int)}
def CWp (W : Wd) (L : LayW) (cs : List Value) (ps : List Nat) : LbW -> Hp -> Rg -> Prop
 | .arow => RowR L.arow 1 (ptrV ps)
 | i => CW W L cs i
theorem CWp.loc {cs : List Value} {ps : List Nat} : ∀ i, Lcl (CWp W L cs ps i)
 | .hd => CW.loc (W := W) (L := L) .hd
 | .sp => CW.loc (W := W) (L := L) (cs := cs) .sp
 | .arow => RowR.loc _ _ _
 | .held => CW.loc (W := W) (L := L) (cs := cs) .held
 | .ar k => CW.loc (W := W) (L := L) (cs := cs) (.ar k)
theorem WbK {cs : List Value} : CWp W L cs (L.ys.map (·.p)) = CW W L cs := by
 funext i; cases i <;> rfl
theorem WH.putA (h : WH U F L W) {Y : Lay} {A : AR} {G : Rg} (hA : AHY U G Y A (traT A Y)) (hG : ∀ b, G b -> ¬ F b) : Sep (CWp { W with ars := W.ars ++ [A] } { L with ys := L.ys ++ [Y] } (hdW L) (L.ys.map (·.p))) U fun b => F b ∨ G b := by
 have h1 : Sep (CWp W L (hdW L) (L.ys.map (·.p))) U F := by rw [WbK]; exact h.sep
 refine h1.put CWp.loc (.ar W.ars.length) hG (fun j hj => ?_) ?_ (CWp.loc _)
 ·cases j <;> try rfl
  rename_i m
  have hm : m ≠ W.ars.length := fun e => hj (by rw [e])
  show ArR (L.ys ++ [Y])[m]? (W.ars ++ [A])[m]? = ArR L.ys[m]? W.ars[m]?
  rcases Nat.lt_or_ge m W.ars.length with h1 | h1
  ·rw [List.getElem?_append_left h1, List.getElem?_append_left (by rw [h.len]; exact h1)]
  ·have e1 : (W.ars ++ [A])[m]? = none := List.getElem?_eq_none (by simp; omega)
   have e2 : W.ars[m]? = none := List.getElem?_eq_none h1
   have e3 : (L.ys ++ [Y])[m]? = none := List.getElem?_eq_none (by simp [h.len]; omega)
   have e4 : L.ys[m]? = none := List.getElem?_eq_none (by rw [h.len]; exact h1)
   rw [e1, e2, e3, e4]
 ·show ArR (L.ys ++ [Y])[W.ars.length]? (W.ars ++ [A])[W.ars.length]? U G
  have e1 : (W.ars ++ [A])[W.ars.length]? = some A := by simp
  have e3 : (L.ys ++ [Y])[W.ars.length]? = some Y := by rw [← h.len]; simp
  rw [e1, e3]; exact hA
theorem We1 {cs : List Value} {ps : List Nat} {ty q vb : Nat} (h : Sep (CWp W L cs ps) U F) (hl : ps.length <= 1000) (hb : Blk U vb [.pointer (some ⟨q, 0, none⟩)]) (hvb : ¬ F vb) {K : Sl -> Hp -> Prop}
 (hK : ∀ s' σ', Ext F U σ' -> Sep (CWp W { L with arow := s' } cs (ps ++ [q])) σ' (Grow F U) -> K s' σ') : App L.arow 1 8 ty [.pointer none] ⟨some ⟨vb, 0, none⟩, 1, 1⟩ U K := by
 obtain ⟨G, hG, hi, _, hput⟩ := h.stepD CWp.loc .arow
 have hi : RowR L.arow 1 (ptrV ps) U G := hi
 have hlc : L.arow.len = ps.length := by have := hi.1; simp [ptrV] at this; omega
 refine hi.app (ys := [.pointer (some ⟨q, 0, none⟩)]) rfl rfl ?_ (by simp [one1]) (by simp only; omega) (by simp only; omega) Nat.zero_lt_one fun s' σ' hl' e hr => hK s' σ' (e.sub hG) ?_
 ·intro j u hu
  rw [add_lit, Nat.zero_add, hb.cell]; exact hu
 refine (Sep.loc CWp.loc).mono (hput σ' (CWp W { L with arow := s' } cs (ps ++ [q])) (Grow G U) (fun j hj => ?_) e (fun b hb => hb) ?_ (CWp.loc _)) fun b _ hb => QM hG (fun b hb => hb) b hb
 ·cases j <;> first | rfl | exact absurd rfl hj
 ·show RowR s' 1 (ptrV (ps ++ [q])) σ' (Grow G U)
  have : ptrV (ps ++ [q]) = ptrV ps ++ [.pointer (some ⟨q, 0, none⟩)] := by simp [ptrV]
  rw [this]; exact hr
def WbX (W : Wd) (us : List Act) : Wd := us.foldl (fun W x => (doW W x).1) W
theorem Wb7 (sp : Sp) (x v : Int) : (Qi sp x v).st.length = sp.st.length := by
 unfold Qi; split
 ·show (sp.st.set _ _).length = _; rw [List.length_set]
 ·rfl
theorem WcN (h : WI W) (x : Act) : (doW W x).1.tb = W.tb /\ (doW W x).1.ars.length = W.ars.length /\ (doW W x).1.sp.st.length = W.sp.st.length := by
 unfold doW
 split
 ·rename_i A hA
  have ga := h.ga _ A hA
  have ow := h.ow _ A hA
  have put : ∀ (B : AR) (sp : Sp) (hl : List Pc), sp.st.length = W.sp.st.length -> (W.put (numW W.ars.length x.ar) B sp hl).tb = W.tb /\ (W.put (numW W.ars.length x.ar) B sp hl).ars.length = W.ars.length /\ (W.put (numW W.ars.length x.ar) B sp hl).sp.st.length = W.sp.st.length := fun B sp hl hs => ⟨rfl, by show (W.ars.set _ B).length = _; rw [List.length_set], hs⟩
  have stl : ∀ {B : AR} {sp' : Sp}, St A B W.sp sp' -> sp'.st.length = W.sp.st.length := fun s => by rw [s.ow.l, s.n, ow.l]
  have same : W.tb = W.tb /\ W.ars.length = W.ars.length /\ W.sp.st.length = W.sp.st.length := ⟨rfl, rfl, rfl⟩
  unfold actW
  by_cases h0 : x.kd = 0
  ·rw [if_pos h0]; exact put _ _ _ (stl (HZ ga ow _).1)
  rw [if_neg h0]
  by_cases h1 : x.kd = 1
  ·rw [if_pos h1]; exact put _ _ _ rfl
  rw [if_neg h1]
  by_cases h2 : x.kd = 2
  ·rw [if_pos h2]
   by_cases ho : ownW W.held (numW W.ars.length x.ar) x.cl x.l = true
   ·rw [if_pos ho]; exact put _ _ _ rfl
   ·rw [if_neg ho]; exact same
  rw [if_neg h2]
  by_cases h3 : x.kd = 3
  ·rw [if_pos h3]; exact put _ _ _ rfl
  rw [if_neg h3]
  by_cases h4 : x.kd = 4
  ·rw [if_pos h4]
   by_cases ho : ownW W.held (numW W.ars.length x.ar) x.cl x.l = true
   ·rw [if_pos ho]; exact put _ _ _ rfl
   ·rw [if_neg ho]; exact same
  rw [if_neg h4]
  by_cases h5 : x.kd = 5
  ·rw [if_pos h5]
   refine put _ _ _ ?_
   rcases QE ga ow x.a x.b with ⟨e, _⟩ | ⟨y, A1, sp1, _, _, _, _, _, _, s, _⟩
   ·rw [e]
   ·exact stl s
  rw [if_neg h5]
  by_cases h6 : x.kd = 6
  ·rw [if_pos h6]; exact put _ _ _ rfl
  rw [if_neg h6]
  by_cases h7 : x.kd = 7
  ·rw [if_pos h7]; exact same
  rw [if_neg h7]
  by_cases h10 : x.kd = 10
  ·rw [if_pos h10]; exact put _ _ _ (stl (UI ga ow _).1)
  rw [if_neg h10]
  by_cases h11 : x.kd = 11
  ·rw [if_pos h11]; exact put _ _ _ (stl (H2 ga ow).st)
  rw [if_neg h11]
  by_cases h12 : x.kd = 12
  ·rw [if_pos h12]; exact put _ _ _ rfl
  rw [if_neg h12]
  by_cases h13 : x.kd = 13
  ·rw [if_pos h13]
   by_cases hi : Z9 W.held x.a = true
   ·rw [if_pos hi]; exact ⟨rfl, rfl, Wb7 _ _ _⟩
   ·rw [if_neg hi]; exact same
  rw [if_neg h13]; exact same
 ·exact ⟨rfl, rfl, rfl⟩
structure WOk (U : Hp) (N : Nat) (L : LayW) (W : Wd) (table : Sl) (xs : List (Int × Int × Int)) : Prop where
 d : DoOk U (fun b => N <= b) L W xs
 t : L.table = table
theorem DoOk.next {N : Nat} (d : DoOk U (fun b => N <= b) L W xs) (hN : N <= U.size) {W' : Wd} {σ' : Hp} {s' : Sl} (e : Ext (fun b => N <= b) U σ') (h' : WH σ' (Grow (fun b => N <= b) U) { L with held := s' } W') (wi : WI W') (f : W'.tb = W.tb /\ W'.ars.length = W.ars.length /\ W'.sp.st.length = W.sp.st.length) : DoOk σ' (fun b => N <= b) { L with held := s' } W' xs := by
 refine ⟨h'.mono (fun b _ hb => ?_) d.h.o d.h.o2, wi, by rw [f.2.2]; exact d.n, by rw [f.2.1]; exact d.k1, by rw [f.2.1]; exact d.k2, Ve d.ht e fun b hb o ho => (d.htF b o ho).2 hb, fun b o ho => ⟨Nat.lt_of_lt_of_le (d.htF b o ho).1 e.1, (d.htF b o ho).2⟩, by rw [f.1]; exact d.tb, d.hv⟩
 rcases hb with hb | hb
 ·exact hb
 ·omega
theorem WfR (g : Gl U) (gd : Gd U) {N : Nat} (hN : N <= U.size) (hgl : Off fun b => N <= b) (hgd : ¬ N <= 2) {table : Sl} (ht : Acts U table xs) (htN : xs ≠ [] -> ∀ b o, table.a = some ⟨b, o, none⟩ -> b < N) {pages many room : Int} (hp : 0 <= pages /\ pages <= 255) (hm : 0 <= many /\ many <= 255) (hr : 0 <= room /\ room <= 255)
 {l : Sl} {us : List Act} (hl : Acts6 U N l us) (h40 : us.length <= 40) (hl40 : ∀ x ∈ us, x.l.length <= 40) {R : Option Addr -> Bool -> Hp -> Prop} (h0 : Zp xs = false -> ∀ σ', Ext0 U σ' -> R none false σ')
 (h1 : Zp xs = true -> ∀ σ' L, Ext (fun b => N <= b) U σ' -> WOk σ' N L (WbX (newW (xs.map ZT) (nW pages) (Gh room) (Ke many)) us) table xs -> R (some ⟨L.w, 0, none⟩) true σ') : W8.call table pages many room l U R := by
 refine W8.of_vc ?_
 unfold W8.vc
 have htl := ht.1
 refine ifD (fun hbig => ?_) fun hbig => ?_
 ·have : Zp xs = false := by
   apply Bool.eq_false_iff.2; intro hv
   unfold Zp at hv
   simp only [Bool.and_eq_true, decide_eq_true_eq] at hv
   omega
  exact h0 this U (Ext.refl _ _)
 refine ar (by omega) (by omega) (nz (by decide) ?_)
 have hn32 : 32 <= nW pages /\ nW pages <= 208 /\ nW pages % 16 = 0 := by unfold nW; omega
 have e1 : pages.tmod 12 + 2 = (((pages % 12).toNat + 2 : Nat) : Int) := by rw [Zy hp.1]; omega
 rw [e1]
 refine ar (by omega) (by omega) ?_
 have e2 : (16 : Int) * (((pages % 12).toNat + 2 : Nat) : Int) = ((nW pages : Nat) : Int) := by unfold nW; omega
 rw [e2]
 refine ar (by omega) (by omega) ?_
 refine G5 (n := nW pages) (by omega) (by omega) fun v hs e hph hS => ifF rfl ?_
 refine nw (cs := [.pointer (some ⟨hs, 0, none⟩), .slice none 0 0, .slice table.a table.len table.cap, .slice none 0 0]) fun v1 z1 ez1 b1 => ?_
 have hzv := e.1
 have hmN : Ke many <= 3 := by unfold Ke; omega
 have hroom : newE xs (nW pages) (room.tmod 9) = if Zp xs then 0 else 2 := by
  unfold newE
  have h1 : 0 <= room.tmod 9 := by rw [Zy hr.1]; omega
  have h2 : room.tmod 9 <= 8 := by rw [Zy hr.1]; omega
  by_cases hv : Zp xs = true
  ·rw [if_pos hv, if_pos hv, if_pos ⟨hn32.1, hn32.2.2, h1, h2⟩]
  ·rw [if_neg hv, if_neg hv]
 have eroom : (room.tmod 9).toNat = Gh room := by unfold Gh; rw [Zy hr.1]
 have hlenS : (QV (nW pages)).st.length = nW pages := by simp [QV]
 let L0 : LayW := ⟨v.size, hs, ⟨none, 0, 0⟩, ⟨none, 0, 0⟩, table, []⟩
 let Wi : Nat -> Wd := fun i => newW (xs.map ZT) (nW pages) (Gh room) i
 have oS : Off fun b => U.size <= b := WaU g
 have oS2 : ¬ U.size <= 2 := by have := Wca gd; omega
 have h00 : WH v1 (fun b => U.size <= b) L0 (Wi 0) := by
  have E := Ext.trans e ez1
  have hd : BlkR v.size (hdW L0) v1 (fun b => v.size <= b /\ b < v1.size) := ⟨⟨Nat.le_refl _, by omega⟩, b1⟩
  have hsp : SpH3 v1 (fun b => U.size <= b /\ b < v.size) hs (QV (nW pages)) := Lcl.keep0 SpH3.loc (V2 SpH3.loc hS) ez1
  refine ⟨rfl, by simp [L0], ⟨fun b => if b < v.size then .sp else .hd, fun i => ?_⟩, g.keep0 E, gd.keep0 E, oS, oS2⟩
  cases i with
  | hd =>
   show BlkR v.size (hdW L0) v1 fun b => U.size <= b /\ (if b < v.size then LbW.sp else LbW.hd) = LbW.hd
   exact Lcl.mono (BlkR.loc _ _) hd fun b _ hb => ⟨by omega, if_neg (by omega)⟩
  | sp =>
   show SpH3 v1 (fun b => U.size <= b /\ (if b < v.size then LbW.sp else LbW.hd) = LbW.sp) hs (QV (nW pages))
   exact Lcl.mono SpH3.loc hsp fun b _ hb => ⟨hb.1, if_pos hb.2⟩
  | arow => exact RowR.nil _ _ _ _
  | held => exact RowR.nil _ _ _ _
  | ar k => trivial
 refine YY (a := .i .i64) (fun (t : Int) w => ∃ i : Nat, t = (i : Int) /\ i <= Ke many /\ (1 <= i -> Zp xs = true) /\ Ext0 U w /\ ∃ Li : LayW, Li.w = v.size /\ Li.hs = hs /\ Li.table = table /\ WH w (fun b => U.size <= b) Li (Wi i)) (fun t _ => Ke many - t.toNat)
  ⟨0, rfl, by omega, fun h => by omega, Ext.trans e ez1, L0, rfl, rfl, rfl, h00⟩ ?_
 rintro t w ⟨i, rfl, hi, hval, ew, Li, hLw, hLh, hLt, hw⟩
 have hzw := ew.1
 refine Whs hm.1 hm.2 (ifD (fun hlt => ?_) fun hge => ?_)
 ·refine ar (by omega) (by omega) (nz (by decide) ?_)
  have htw := Zl ht ew
  have hspw : SpH3 w (fun b => U.size <= b) hs (QV (nW pages)) := by have := hw.sp; rw [hLh] at this; exact this
  refine WdI htw hspw _ (fun hne v4 e4 => ?_) fun he v4 Y e4 hYh hA => ?_
  ·rw [hlenS, hroom] at hne ⊢
   by_cases hv : Zp xs = true
   ·rw [if_pos hv] at hne; exact (hne rfl).elim
   ·rw [if_neg hv]
    exact ifT rfl (h0 (by simpa using hv) v4 (Ext.trans ew e4))
  ·rw [hlenS] at hA he
   rw [eroom] at hA
   have hv : Zp xs = true := by
    rw [hroom] at he
    apply Classical.byContradiction; intro hn
    rw [if_neg hn] at he; cases he
   have h4 := hw.cut.keep0 e4
   have hA' : AHY v4 (fun b => w.size <= b /\ b < v4.size) Y (newA (nW pages) (Gh room) (xs.map ZT)) (traT (newA (nW pages) (Gh room) (xs.map ZT)) Y) := V2 AHY.loc hA
   have hz4 := e4.1
   have hp4 := h4.putA hA' fun b hb hc => by have := hc.2; omega
   have hd4 : Blk v4 v.size (hdW Li) := by have := h4.hd; rw [hLw] at this; exact this
   refine ifF rfl (nilP (hd4.rS rfl ?_))
   refine nw (cs := [.pointer (some ⟨Y.p, 0, none⟩)]) fun v5 z5 e5 b5 => ?_
   have hp5 := (Sep.loc CWp.loc).keep0 hp4 e5
   have hlys : (Li.ys.map (·.p)).length <= 1000 := by rw [List.length_map, hw.len]; simp [Wi, newW]; omega
   refine We1 (L := { Li with ys := Li.ys ++ [Y] }) hp5 hlys b5 (fun hc => by
    rcases hc with hc | hc
    ·have := hc.2; omega
    ·omega) fun s6 v6 e6 hp6 => nilP ?_
   obtain ⟨G, hG, hh, _, hput⟩ := hp6.stepD CWp.loc .hd
   have hh : BlkR Li.w (hdW Li) v6 G := hh
   rw [← hLw]
   refine hh.2.s1 (o := 0) (i := 1) (by simp [hdW]) fun v7 o7 b7 => ?_
   let Ln : LayW := { Li with arow := s6, ys := Li.ys ++ [Y] }
   have hz5 := e5.1; have hz6 := e6.1
   have e7 : Ext G v6 v7 := o7.ext.sub fun b hb => by subst hb; exact hh.1
   have hs7 := hput v7 (CWp { Wi i with ars := (Wi i).ars ++ [newA (nW pages) (Gh room) (xs.map ZT)] } Ln (hdW Ln) (Li.ys.map (·.p) ++ [Y.p])) G (fun j hj => by cases j <;> first | rfl | exact absurd rfl hj) e7 (fun b hb => .inl hb) ⟨hh.1, by rw [Nat.zero_add] at b7; exact b7⟩ (CWp.loc _)
   have eps : Li.ys.map (·.p) ++ [Y.p] = Ln.ys.map (·.p) := by show _ = (Li.ys ++ [Y]).map (·.p); simp
   rw [eps, WbK] at hs7
   have eW : ({ Wi i with ars := (Wi i).ars ++ [newA (nW pages) (Gh room) (xs.map ZT)] } : Wd) = Wi (i + 1) := by
    show ({ tb := _, sp := _, ars := List.replicate i _ ++ [_], held := _ } : Wd) = _
    rw [← List.replicate_succ']; rfl
   rw [eW] at hs7
   have e47 : Ext0 U v7 := by
    have a5 : Ext0 U v5 := Ext.trans (Ext.trans ew e4) e5
    have a6 : Ext0 U v6 := Ext.fresh a5 e6 fun b hb => by
     rcases hb with hb | hb
     ·exact hb.1
     ·omega
    exact Ext.fresh a6 e7 fun b hb => by
     have := hG b hb
     rcases this with (hx | hx) | hx
     ·exact hx.1
     ·omega
     ·omega
   have h7 : WH v7 (fun b => U.size <= b) Ln (Wi (i + 1)) := by
    refine ⟨by show (Li.ys ++ [Y]).length = (List.replicate (i + 1) _).length; have := hw.len; simp [Wi, newW] at this ⊢; exact this, fun Z hZ => ?_, (Sep.loc CW.loc).mono hs7 fun b _ hb => ?_, g.keep0 e47, gd.keep0 e47, oS, oS2⟩
    ·show Z.hs = Li.hs
     rcases List.mem_append.1 hZ with hZ | hZ
     ·exact hw.hs Z hZ
     ·simp only [List.mem_singleton] at hZ; subst hZ; rw [hYh, hLh]
    ·have : ∀ b, ((Cut (fun b => U.size <= b) w b ∨ w.size <= b /\ b < v4.size) ∨ v5.size <= b) -> U.size <= b := fun b hb => by
      rcases hb with (hx | hx) | hx
      ·exact hx.1
      ·omega
      ·omega
     rcases hb with hb | hb
     ·exact this b hb.1
     ·exact this b (hG b hb)
   refine arN (m := i + 1) (by omega) (by omega) ⟨⟨i + 1, rfl, by omega, fun _ => hv, e47, Ln, rfl, hLh, hLt, h7⟩, by omega⟩
 ·have hii : i = Ke many := by omega
  subst hii
  have hv := hval (by unfold Ke; omega)
  have hcl : ∀ c ∈ xs.map ZT, c.ok := fun c hc => by
   obtain ⟨j, hj⟩ := List.getElem?_of_mem hc
   exact (Vm ht hv hj).2
  have hxl : xs.length <= 40 := by
   have h2 := hv
   unfold Zp at h2
   simp only [Bool.and_eq_true, decide_eq_true_eq] at h2
   exact h2.2.1
  have wi0 : WI (Wi (Ke many)) := Wg4 (by omega) (by omega) hn32.2.2 (by rw [List.length_map]; exact hxl) hcl
  have eN : Ext (fun b => N <= b) U w := ew.to
  have d0 : DoOk w (fun b => N <= b) Li (Wi (Ke many)) xs := by
   refine ⟨hw.mono (fun b _ hb => by have hb : U.size <= b := hb; omega) hgl hgd, wi0, by show (QV (nW pages)).st.length <= 208; rw [hlenS]; omega, by show 1 <= (List.replicate _ _).length; rw [List.length_replicate]; unfold Ke; omega, by show (List.replicate _ _).length <= 3; rw [List.length_replicate]; exact hmN, ?_, fun b o ho => ?_, rfl, hv⟩
   ·rw [hLt]; exact Zl ht ew
   ·rw [hLt] at ho
    have hne : xs ≠ [] := by
     rintro rfl
     unfold Zp at hv
     simp at hv
    have := htN hne b o ho
    exact ⟨by omega, by omega⟩
  have hlx := hl.keep eN
  have hlen := hl.len
  rw [← hLw]
  refine YY (a := .i .i64) (fun (t : Int) u => ∃ j : Nat, t = (j : Int) /\ j <= us.length /\ Ext (fun b => N <= b) U u /\ ∃ Lj : LayW, Lj.w = Li.w /\ Lj.table = table /\ DoOk u (fun b => N <= b) Lj (WbX (Wi (Ke many)) (us.take j)) xs) (fun t _ => us.length - t.toNat)
   ⟨0, rfl, by omega, eN, Li, rfl, hLt, d0⟩ ?_
  rintro t u ⟨j, rfl, hj, eu, Lj, hLj, hLjt, dj⟩
  have hlu := hl.keep eu
  refine ifD (fun hlt => ?_) fun hge2 => ?_
  ·have hj' : j < us.length := by omega
   have hx : us[j]? = some us[j] := List.getElem?_eq_getElem hj'
   generalize us[j] = x at hx
   have hxm := List.mem_of_getElem? hx
   refine hlu.rd hx fun s hs hcap => ?_
   rw [← hLj]
   have hzu := eu.1
   refine Wij dj x ⟨⟨_, hs, fun b hb => ⟨by omega, by omega⟩⟩, hcap, hl40 x hxm, (hl.i x hxm).2⟩ (hl.i x hxm).1 fun u2 s' e2 h2 => ?_
   have htake : us.take (j + 1) = us.take j ++ [x] := by rw [List.take_add_one, hx]; rfl
   have epl : WbX (Wi (Ke many)) (us.take (j + 1)) = (doW (WbX (Wi (Ke many)) (us.take j)) x).1 := by unfold WbX; rw [htake, List.foldl_append]; rfl
   refine arN (m := j + 1) (by omega) (by omega) ⟨⟨j + 1, rfl, by omega, eu.trans e2, { Lj with held := s' }, rfl, hLjt, ?_⟩, by omega⟩
   rw [epl]
   exact dj.next (by omega) e2 h2 (Wif dj.wi x) (WcN dj.wi x)
  ·have hjj : j = us.length := by omega
   subst hjj
   rw [List.take_length] at dj
   rw [← hLj]
   exact h1 hv u Lj eu ⟨dj, hLjt⟩
end Go.Ar
namespace Go.Proofs
open Go.Vc

set_option maxRecDepth 100000
end Go.Proofs
namespace Go.Ar
open Go Go.Vc Go.Proofs


variable {U : Hp} {a : Option Addr}
end Go.Ar
namespace Go.Proofs
open Go.Vc

set_option maxRecDepth 100000
end Go.Proofs
namespace Go.Ar
open Go Go.Vc Go.Proofs


variable {U : Hp} {a : Option Addr} {F H : Rg} {A : AR} {sp : Sp} {Y : Lay}
theorem WeZ (x y z : Int) {R : Bool -> Hp -> Prop} (hR : ∀ σ', Ext0 U σ' -> R (Ql x y z) σ') : Xx.call x y z U R := by
 refine Xx.of_vc ?_
 unfold Xx.vc
 refine nw (cs := [.int .i64 x, .int .i64 y, .int .i64 z]) fun v hz e hb => ?_
 have no : ¬ (8 <= x /\ x <= 512 /\ x % 8 = 0 /\ 1 <= y /\ y <= 4 /\ x <= y * 256 /\ 1 <= z /\ z <= 32) -> R false v := fun hn => by
  have := hR v e
  have hf : Ql x y z = false := by rw [← Bool.not_eq_true, Q2]; exact hn
  rw [hf] at this; exact this
 refine hb.rI rfl (JnB.intro (ifD (fun c1 => hb.rI rfl ?_) fun c1 => JnB.intro (ifF rfl (JnB.intro (ifF rfl (JnB.intro (ifF rfl (JnB.intro (ifF rfl (JnB.intro (ifF rfl (JnB.intro (ifF rfl (no (by omega)))))))))))))))
 refine JnB.intro (ifD (fun c2 => hb.rI rfl (nz (by decide) ?_)) fun c2 => JnB.intro (ifF rfl (JnB.intro (ifF rfl (JnB.intro (ifF rfl (JnB.intro (ifF rfl (JnB.intro (ifF rfl (no (by omega))))))))))))
 have tm : x.tmod 8 = x % 8 := Zy (by omega)
 rw [tm]
 refine JnB.intro (iff_ (fun c3 => hb.rI rfl ?_) fun c3 => JnB.intro (ifF rfl (JnB.intro (ifF rfl (JnB.intro (ifF rfl (JnB.intro (ifF rfl (no (fun hh => by simp [hh.2.2.1] at c3))))))))))
 have c3' : x % 8 = 0 := by simpa using c3
 refine JnB.intro (ifD (fun c4 => hb.rI rfl ?_) fun c4 => JnB.intro (ifF rfl (JnB.intro (ifF rfl (JnB.intro (ifF rfl (no (by omega))))))))
 refine JnB.intro (ifD (fun c5 => hb.rI rfl (ar (by omega) (by omega) (hb.rI rfl ?_))) fun c5 => JnB.intro (ifF rfl (JnB.intro (ifF rfl (no (by omega))))))
 refine JnB.intro (ifD (fun c6 => hb.rI rfl ?_) fun c6 => JnB.intro (ifF rfl (no (by omega))))
 refine JnB.intro (ifD (fun c7 => hb.rI rfl ?_) fun c7 => no (by omega))
 by_cases c8 : z <= 32
 ·rw [decide_eq_true c8]
  have := hR v e
  rw [(Q2 x y z).2 ⟨by omega, by omega, c3', by omega, by omega, by omega, by omega, c8⟩] at this
  exact this
 ·rw [decide_eq_false c8]
  exact no (by omega)
theorem Wc3 {s : Sl} {xs : List (Int × Int × Int)} (ha : Acts U s xs) {R : Bool -> Hp -> Prop} (hR : ∀ σ', Ext0 U σ' -> R (Zp xs) σ') : W6.call s U R := by
 refine W6.of_vc ?_
 unfold W6.vc
 have no : ∀ σ', Ext0 U σ' -> ¬ (1 <= xs.length /\ xs.length <= 40 /\ (∀ (i : Nat) t, xs[i]? = some t -> Ql t.1 t.2.1 t.2.2 = true) /\ ∀ (i : Nat) a b, xs[i]? = some a -> xs[i + 1]? = some b -> a.1 < b.1) -> R false σ' := fun σ' e hn => by
  have := hR σ' e
  have hf : Zp xs = false := by rw [← Bool.not_eq_true, Qd]; exact hn
  rw [hf] at this; exact this
 have hlen := ha.1
 refine JnB.intro (ifD (fun c1 => ifT rfl (no U (Ext.refl _ _) fun h => by omega)) fun c1 => ?_)
 refine ifD (fun c2 => no U (Ext.refl _ _) fun h => by omega) fun c2 => ?_
 refine YY (a := .i .i64) (fun (t : Int) v => ∃ i : Nat, t = (i : Int) /\ i <= xs.length /\ Ext0 U v /\ (∀ (j : Nat) t, j < i -> xs[j]? = some t -> Ql t.1 t.2.1 t.2.2 = true) /\ ∀ (j : Nat) a b, j + 1 < i -> xs[j]? = some a -> xs[j + 1]? = some b -> a.1 < b.1) (fun t _ => xs.length - t.toNat)
  ⟨0, rfl, by omega, Ext.refl _ _, fun j t h => by omega, fun j a b h => by omega⟩ ?_
 rintro t v ⟨i, rfl, hi, e, h1, h2⟩
 have hav := Zl ha e
 refine ifD (fun hlt => ?_) fun hge => ?_
 ·have hi' : i < xs.length := by omega
  have hx : xs[i]? = some xs[i] := List.getElem?_eq_getElem hi'
  generalize xs[i] = r at hx
  obtain ⟨x, y, z⟩ := r
  obtain ⟨b, o, g1, g2, g3, g4, g5⟩ := hav.2 i x y z hx
  have k3 : cell v ⟨b, o + (i : Int).toNat * 3 + 0, none⟩ = some (.int .i64 x) := by simpa using g3
  have k4 : cell v ⟨b, o + (i : Int).toNat * 3 + 1, none⟩ = some (.int .i64 y) := by simpa using g4
  have k5 : cell v ⟨b, o + (i : Int).toNat * 3 + 2, none⟩ = some (.int .i64 z) := by simpa using g5
  refine Jn.intro ⟨(· = v), rfl, ?_⟩
  rw [g1]
  refine ix (by omega) (by omega) ?_
  rw [add_lit b o]
  refine ⟨x, fun m hm => by rw [hm, add_lit]; exact k3, ⟨y, fun m hm => by rw [hm, add_lit]; exact k4, ⟨z, fun m hm => by rw [hm, add_lit]; exact k5, ?_⟩⟩⟩
  refine WeZ x y z fun v7 e7 => ?_
  have e07 := Ext.trans e e7
  have bad : (Ql x y z = false ∨ ∃ a, 0 < i /\ xs[i - 1]? = some a /\ x <= a.1) -> R false v7 := fun hb => no v7 e07 fun hv => by
   rcases hb with hb | ⟨a, hp, hb1, hb2⟩
   ·have := hv.2.2.1 i _ hx; simp only at this; rw [hb] at this; cases this
   ·have := hv.2.2.2 (i - 1) a (x, y, z) hb1 (by rw [show i - 1 + 1 = i by omega]; exact hx)
    simp only at this; omega
  cases hc : Ql x y z
  ·exact ifT rfl (ifT rfl (bad (.inl hc)))
  ·have next : (∀ a, 0 < i -> xs[i - 1]? = some a -> a.1 < x) -> Ar .i64 ((i : Int) + 1) fun t38 => (∃ i : Nat, t38 = (i : Int) /\ i <= xs.length /\ Ext0 U v7 /\ (∀ (j : Nat) t, j < i -> xs[j]? = some t -> Ql t.1 t.2.1 t.2.2 = true) /\ ∀ (j : Nat) a b, j + 1 < i -> xs[j]? = some a -> xs[j + 1]? = some b -> a.1 < b.1) /\ xs.length - t38.toNat < xs.length - (i : Int).toNat := by
    intro hp
    refine arN (m := i + 1) (by omega) (by omega) ⟨⟨i + 1, rfl, by omega, e07, fun j t hj ht => ?_, fun j a b hj hja hjb => ?_⟩, by omega⟩
    ·by_cases hji : j = i
     ·subst hji; rw [hx] at ht; cases ht; exact hc
     ·exact h1 j t (by omega) ht
    ·by_cases hji : j + 1 = i
     ·subst hji
      rw [hx] at hjb; cases hjb
      exact hp a (by omega) hja
     ·exact h2 j a b (by omega) hja hjb
   refine ifF rfl (ifD (fun hp => ?_) fun hp => ifF rfl (next fun a hp2 => by omega))
   have hxp : xs[i - 1]? = some (xs[i - 1]'(by omega)) := List.getElem?_eq_getElem _
   generalize xs[i - 1]'(by omega) = r at hxp
   obtain ⟨x', y', z'⟩ := r
   have hav7 := Zl ha e07
   obtain ⟨b', o', q1, q2, q3, q4, q5⟩ := hav7.2 (i - 1) x' y' z' hxp
   rw [g1] at q1; cases q1
   have p3 : cell v7 ⟨b, o + (((i - 1 : Nat) : Int)).toNat * 3 + 0, none⟩ = some (.int .i64 x') := by simpa using q3
   have p4 : cell v7 ⟨b, o + (i : Int).toNat * 3 + 0, none⟩ = some (.int .i64 x) := (ZL e7 (ZG k3) id).trans k3
   refine arN (m := i - 1) (by omega) (by omega) (ix (by omega) (by omega) (ix (by omega) (by omega) ?_))
   have fin : If (decide (x' ≥ x)) (R false v7) (Ar .i64 ((i : Int) + 1) fun t38 => (∃ i : Nat, t38 = (i : Int) /\ i <= xs.length /\ Ext0 U v7 /\ (∀ (j : Nat) t, j < i -> xs[j]? = some t -> Ql t.1 t.2.1 t.2.2 = true) /\ ∀ (j : Nat) a b, j + 1 < i -> xs[j]? = some a -> xs[j + 1]? = some b -> a.1 < b.1) /\ xs.length - t38.toNat < xs.length - (i : Int).toNat) := by
    refine ifD (fun hle => bad (.inr ⟨_, by omega, hxp, hle⟩)) fun hgt => next fun a _ ha2 => ?_
    rw [hxp] at ha2; cases ha2
    simp only; omega
   rw [add_lit b o, add_lit b o]
   exact ⟨ldI0 p3 (ldI0 p4 fin), ldI0 p4 (ldI0 p3 fin)⟩
 ·have : i = xs.length := by omega
  subst this
  have hv : Zp xs = true := (Qd xs).2 ⟨by omega, by omega, fun i t ht => h1 i t (List.getElem?_eq_some_iff.1 ht).1 ht, fun i a b hja hjb => h2 i a b (List.getElem?_eq_some_iff.1 hjb).1 hja hjb⟩
  have := hR v e
  rw [hv] at this; exact this
end Go.Ar
namespace Go.Ar
open Go.Bu (cnt)


variable {W : Wd} {k : Nat} {A : AR}
def at2 {α : Type} (f : Cls -> α -> Nat) (tb : List Cls) (l : List α) (j : Nat) : Nat := match tb[j]?, l[j]? with
 | some c, some a => f c a
 | _, _ => 0
theorem Wig {α : Type} {f : Cls -> α -> Nat} {tb : List Cls} {l : List α} {j : Nat} {c : Cls} {a : α} (h1 : tb[j]? = some c) (h2 : l[j]? = some a) : at2 f tb l j = f c a := by unfold at2; rw [h1, h2]
theorem WdZ {α : Type} (f : Cls -> α -> Nat) : ∀ (tb : List Cls) (l : List α), l.length = tb.length -> ((tb.zip l).map fun x => f x.1 x.2).sum = ((List.range tb.length).map (at2 f tb l)).sum
 | [], l, h => by simp
 | c :: tb, [], h => by simp at h
 | c :: tb, a :: l, h => by
  have ih := WdZ f tb l (by simpa using h)
  rw [List.zip_cons_cons, List.map_cons, List.sum_cons, ih, List.length_cons, List.range_succ_eq_map, List.map_cons, List.sum_cons, List.map_map]
  rfl
def pgL (c : Cls) (ss : List SpA) : List Nat := ss.flatMap fun s => (List.range c.pages).map (s.st + ·)
theorem WgY (c : Cls) (ss : List SpA) : (pgL c ss).length = ss.length * c.pages := by
 induction ss with
 | nil => simp [pgL]
 | cons s ss ih =>
  have e : pgL c (s :: ss) = (List.range c.pages).map (s.st + ·) ++ pgL c ss := rfl
  rw [e, List.length_append, ih]; simp [Nat.add_mul]; omega
theorem WaK {c : Cls} {ss : List SpA} {p : Nat} : p ∈ pgL c ss ↔ Cov c ss p := by
 simp only [pgL, List.mem_flatMap, List.mem_map, List.mem_range, Cov]
 constructor
 ·rintro ⟨s, hs, i, hi, rfl⟩; exact ⟨s, hs, by omega, by omega⟩
 ·rintro ⟨s, hs, h1, h2⟩; exact ⟨s, hs, p - s.st, by omega, by omega⟩
theorem Wdg {c : Cls} {ss : List SpA} (h : ss.Pairwise fun a b => a.st + c.pages <= b.st) : (pgL c ss).Nodup := by
 induction ss with
 | nil => exact List.nodup_nil
 | cons s ss ih =>
  have hp := List.pairwise_cons.1 h
  have e : pgL c (s :: ss) = (List.range c.pages).map (s.st + ·) ++ pgL c ss := rfl
  rw [e, List.nodup_append]
  refine ⟨?_, ih hp.2, fun a ha b hb e => ?_⟩
  ·exact List.Pairwise.map (R := (· ≠ ·)) _ (fun a b hab e => hab (by omega)) List.nodup_range
  ·subst e
   obtain ⟨i, hi, rfl⟩ := List.mem_map.1 ha
   obtain ⟨t, ht, h1, h2⟩ := WaK.1 hb
   have := hp.1 t ht
   have := List.mem_range.1 hi
   omega
def rnL (l : List (Nat × Nat)) : List Nat := l.flatMap fun r => (List.range r.2).map (r.1 + ·)
theorem WgG (l : List (Nat × Nat)) : (rnL l).length = (l.map (·.2)).sum := by
 induction l with
 | nil => rfl
 | cons r l ih =>
  have e : rnL (r :: l) = (List.range r.2).map (r.1 + ·) ++ rnL l := rfl
  rw [e, List.length_append, ih]; simp
theorem Wbc {l : List (Nat × Nat)} {p : Nat} : p ∈ rnL l ↔ inR l p := by
 simp only [rnL, List.mem_flatMap, List.mem_map, List.mem_range, inR]
 constructor
 ·rintro ⟨s, hs, i, hi, rfl⟩; exact ⟨s, hs, by omega, by omega⟩
 ·rintro ⟨s, hs, h1, h2⟩; exact ⟨s, hs, p - s.1, by omega, by omega⟩
theorem Weh {l : List (Nat × Nat)} (h : l.Pairwise fun a b => a.1 + a.2 <= b.1 ∨ b.1 + b.2 <= a.1) : (rnL l).Nodup := by
 induction l with
 | nil => exact List.nodup_nil
 | cons s ss ih =>
  have hp := List.pairwise_cons.1 h
  have e : rnL (s :: ss) = (List.range s.2).map (s.1 + ·) ++ rnL ss := rfl
  rw [e, List.nodup_append]
  refine ⟨?_, ih hp.2, fun a ha b hb e => ?_⟩
  ·exact List.Pairwise.map (R := (· ≠ ·)) _ (fun a b hab e => hab (by omega)) List.nodup_range
  ·subst e
   obtain ⟨i, hi, rfl⟩ := List.mem_map.1 ha
   obtain ⟨t, ht, h1, h2⟩ := Wbc.1 hb
   have := hp.1 t ht
   have := List.mem_range.1 hi
   omega
theorem Hm {n : Nat} {l : List Nat} (hn : l.Nodup) (hl : ∀ x ∈ l, x < n) {f : Nat -> Bool} (hf : ∀ p, p < n -> (f p = true ↔ p ∈ l)) : (List.range n).countP f = l.length := by
 rw [List.countP_eq_length_filter]
 refine List.Perm.length_eq ?_
 rw [List.perm_ext_iff_of_nodup (List.nodup_range.filter _) hn]
 intro x
 rw [List.mem_filter, List.mem_range]
 exact ⟨fun ⟨a, b⟩ => (hf x a).1 b, fun hx => ⟨hl x hx, (hf x (hl x hx)).2 hx⟩⟩
theorem Ut (ga : GA A) : V0 A + VQ A + cnt A.n A.S = (List.range A.n).countP fun (p : Nat) => Qx A (p : Int) := by
 have key : ∀ m, m <= A.tb.length -> (List.range A.n).countP (fun p => A.ow p != 0 && decide (A.ow p <= m)) = ((List.range m).map (at2 (fun c ss => ss.length * c.pages) A.tb A.cen)).sum := by
  intro m
  induction m with
  | zero =>
   intro _
   simp
  | succ m ih =>
   intro hm
   rw [List.range_succ, List.map_append, List.sum_append, ← ih (by omega), List.map_singleton, List.sum_singleton]
   obtain ⟨c, ss, t, hc, _⟩ := ga.cl (k := m) (by omega)
   have hC := ga.cen m c ss hc
   rw [Wig hc.1 hc.2, ← WgY c ss, ← Hm (n := A.n) (Wdg hC.far) (fun x hx => by
    obtain ⟨s, hs, h1, h2⟩ := WaK.1 hx
    exact ga.pg.lt (by rw [(ga.used hc hs h1 h2).1]; omega)) (f := fun p => A.ow p == m + 1) (fun p _ => by rw [WaK, ← ga.ow m c ss hc p]; simp)]
   symm
   apply Go.Bu.countP_add
   intro p _
   by_cases h1 : A.ow p = m + 1
   ·simp [h1]
   ·by_cases h2 : A.ow p <= m
    ·have : (A.ow p == m + 1) = false := by simpa using h1
     have h3 : decide (A.ow p <= m + 1) = true := by simp; omega
     simp [this, h2, h3]
    ·have : (A.ow p == m + 1) = false := by simpa using h1
     have h3 : ¬ A.ow p <= m + 1 := by omega
     simp [this, h2, h3]
 have k1 := key A.tb.length (Nat.le_refl _)
 have e1 : V0 A = (List.range A.n).countP (fun p => A.ow p != 0 && decide (A.ow p <= A.tb.length)) := by
  rw [k1]; unfold V0
  rw [WdZ (fun c ss => ss.length * c.pages) A.tb A.cen ga.lc]
 have e2 : VQ A = (List.range A.n).countP (fun p => A.ow p == 41) := by
  unfold VQ
  rw [← WgG, Hm (Weh ga.rdis) (fun x hx => by
   obtain ⟨r, hr, h1, h2⟩ := Wbc.1 hx
   exact ga.pg.lt (by rw [(ga.usedR hr h1 h2).1]; omega)) (f := fun p => A.ow p == 41) (fun p _ => by rw [Wbc, ← ga.ow41]; simp)]
 have htb := ga.tb
 have e3 : (List.range A.n).countP (fun p => A.ow p != 0 && decide (A.ow p <= A.tb.length)) + (List.range A.n).countP (fun p => A.ow p == 41) = (List.range A.n).countP (fun p => A.ow p != 0) := by
  apply Go.Bu.countP_add
  intro p _
  rcases ga.owb p with h1 | h1
  ·have : ¬ A.ow p <= A.tb.length := by omega
   simp [h1]; omega
  ·have : (A.ow p == 41) = false := by simp; omega
   simp [this, h1]
 have e4 : (List.range A.n).countP (fun p => A.ow p != 0) + (List.range A.n).countP A.S = (List.range A.n).countP fun (p : Nat) => Qx A (p : Int) := by
  apply Go.Bu.countP_add
  intro p _
  have hu := ga.pg.us p
  have hs := ga.pg.fr p
  have ho : Qx A (p : Int) = decide (A.f p ≠ 0) := by
   unfold Qx AR.f gf
   rw [decide_eq_true (show (0 : Int) <= p by omega), Bool.true_and, Int.toNat_natCast]
  rw [ho]
  have hle := ga.pg.le p
  by_cases h0 : A.f p = 0
  ·have : A.ow p = 0 := Classical.byContradiction fun hn => by have := hu.2 hn; omega
   have hS : A.S p = false := by apply Bool.eq_false_iff.2; intro hx; have := hs.1 hx; omega
   simp [h0, this, hS]
  ·by_cases h1 : A.f p = 1
   ·have hw := hu.1 h1
    have hS : A.S p = false := by apply Bool.eq_false_iff.2; intro hx; have := hs.1 hx; omega
    simp [h1, hw, hS]
   ·have : A.ow p = 0 := Classical.byContradiction fun hn => h1 (hu.2 hn)
    have hS : A.S p = true := hs.2 (by omega)
    simp [h0, this, hS]
 unfold cnt
 rw [e1, e2, e3, e4]
theorem WeA (ga : GA A) : VQ A <= 1024 := by
 have h1 := Ut ga
 have h2 : (List.range A.n).countP (fun (p : Nat) => Qx A (p : Int)) <= A.n := by
  refine Nat.le_trans List.countP_le_length ?_
  rw [List.length_range]; exact Nat.le_refl _
 have := ga.pg.n2
 omega
end Go.Ar
namespace Go.Ar
open Go Go.Vc Go.Proofs
open Go.Bu (XV YZ Xu cnt)


variable {U : Hp} {F : Rg} {L : LayW} {W : Wd} {k : Nat} {A : AR} {xs : List (Int × Int × Int)}
def theW (xs : List (Int × Int × Int)) (pages many room : Int) (us : List Act) : Wd := WbX (newW (xs.map ZT) (nW pages) (Gh room) (Ke many)) us
theorem WbZ {table : Sl} (ht : Acts U table xs) : xs ≠ [] -> ∀ b o, table.a = some ⟨b, o, none⟩ -> b < U.size := by
 intro hne b o ho
 cases xs with
 | nil => exact (hne rfl).elim
 | cons x l =>
  obtain ⟨b', o', h1, h2, _⟩ := ht.2 0 x.1 x.2.1 x.2.2 rfl
  rw [ho] at h1; cases h1; exact h2
theorem WeX (g : Gl U) (gd : Gd U) {N : Nat} (hN : N <= U.size) (hgl : Off fun b => N <= b) (hgd : ¬ N <= 2) {table : Sl} (ht : Acts U table xs) (htN : xs ≠ [] -> ∀ b o, table.a = some ⟨b, o, none⟩ -> b < N) {pages many room : Int} (hp : 0 <= pages /\ pages <= 255) (hm : 0 <= many /\ many <= 255) (hr : 0 <= room /\ room <= 255)
 {l : Sl} {us : List Act} (hl : Acts6 U N l us) (hgr : U3 us = false) {R : Bool -> Hp -> Prop} (hR : ∀ σ', Ext0 U σ' -> R true σ') {K : Option Addr -> Hp -> Prop}
 (hK : Zp xs = true -> ∀ σ' L, Ext (fun b => N <= b) U σ' -> WOk σ' N L (theW xs pages many room us) table xs -> K (some ⟨L.w, 0, none⟩) σ') :
 W8.call table pages many room l U fun t34 t341 v2 =>
  If (!t341) (W6.call table v2 fun t40 v3 =>
   JnB (fun r v4 =>
    R r v4) fun J =>
   If (!t40) (Wv.call v3 fun t43 v5 =>
    J t43 v5)
    (J false v3))
   (K t34 v2) := by
 obtain ⟨h40, hl40⟩ := Wef hgr
 refine WfR g gd hN hgl hgd ht htN hp hm hr hl h40 hl40 (fun hv v2 e2 => ?_) fun hv v2 L e2 hw => ?_
 ·refine ifT rfl (Wc3 (Zl ht e2) fun v3 e3 => JnB.intro ?_)
  have E := Ext.trans e2 e3
  rw [hv]
  exact ifT rfl (H0 (g.keep0 E) fun v5 e5 => hR v5 (Ext.trans E e5))
 ·exact ifF rfl (hK hv v2 L e2 hw)
theorem Wfa (g : Gl U) (gd : Gd U) {table : Sl} (ht : Acts U table xs) {pages many room : Int} (hp : 0 <= pages /\ pages <= 255) (hm : 0 <= many /\ many <= 255) (hr : 0 <= room /\ room <= 255)
 {l : Sl} {us : List Act} (hl : Acts6 U U.size l us) (hll : us.length <= 9223372036854775807) {R : Bool -> Hp -> Prop} (hR : ∀ σ', Ext0 U σ' -> R true σ') {K : Option Addr -> Hp -> Prop}
 (hK : Zp xs = true -> ∀ σ' L, Ext0 U σ' -> WOk σ' U.size L (theW xs pages many room us) table xs -> K (some ⟨L.w, 0, none⟩) σ') :
 Xk.call l U fun t26 v =>
  If t26 (Wv.call v fun t27 v1 =>
   R t27 v1)
   (W8.call table pages many room l v fun t34 t341 v2 =>
   If (!t341) (W6.call table v2 fun t40 v3 =>
    JnB (fun r v4 =>
     R r v4) fun J =>
    If (!t40) (Wv.call v3 fun t43 v5 =>
     J t43 v5)
     (J false v3))
    (K t34 v2)) := by
 refine Wfo hl hll (iff_ (fun hgr => H0 g hR) fun hgr => ?_)
 exact WeX g gd (Nat.le_refl _) (WaU g) (by have := Wca gd; omega) ht (WbZ ht) hp hm hr hl hgr hR fun hv v2 L e2 hw => hK hv v2 L (e2.mono fun b hb hc => by omega) hw
theorem WOk.keep0 {N : Nat} {table : Sl} (h : WOk U N L W table xs) {σ' : Hp} (e : Ext0 U σ') : WOk σ' N L W table xs := ⟨h.d.keep0 e, h.t⟩
theorem Wic {s : Sl} {l : List Pc} (h : SlR s 5 (pcV l) U F) {i ty : Nat} {p : Pc} (hp : l[i]? = some p) {K : Addr -> Hp -> Prop} (hK : ∀ w, Ext0 U w -> Blk w U.size (pc1 p) -> K ⟨U.size, 0, none⟩ w) :
 Ix s.a s.len (i : Int) 5 fun a => LdI .i64 (a.add 0) U fun x0 => LdI .i64 (a.add 1) U fun x1 => LdI .i64 (a.add 2) U fun x2 => LdI .i64 (a.add 3) U fun x3 => LdB (a.add 4) U fun x4 =>
  Nw (.cells #[.int .i64 0, .int .i64 0, .int .i64 0, .int .i64 0, .bool false] ty (0, 0)) U fun n4 v1 =>
  St1 (n4.add 0) (.int .i64 x0) v1 fun v2 =>
  St1 (n4.add 1) (.int .i64 x1) v2 fun v3 =>
  St1 (n4.add 2) (.int .i64 x2) v3 fun v4 =>
  St1 (n4.add 3) (.int .i64 x3) v4 fun v5 =>
  St1 (n4.add 4) (.bool x4) v5 fun v6 => K n4 v6 := by
 refine WfW h hp ?_
 refine nw (cs := [.int .i64 0, .int .i64 0, .int .i64 0, .int .i64 0, .bool false]) fun v1 z1 e1 b1 => ?_
 refine b1.s1 (o := 0) (i := 0) (by simp) fun v2 o2 b2 => b2.s1 (o := 0) (i := 1) (by simp) fun v3 o3 b3 => b3.s1 (o := 0) (i := 2) (by simp) fun v4 o4 b4 => b4.s1 (o := 0) (i := 3) (by simp) fun v5 o5 b5 => b5.s1 (o := 0) (i := 4) (by simp) fun v6 o6 b6 => ?_
 have e16 : Ext (· = U.size) v1 v6 := (((o2.ext.trans o3.ext).trans o4.ext).trans o5.ext).trans o6.ext
 exact hK v6 (Ext.fresh e1 e16 fun b hb => by omega) b6
theorem GV (h : WH U F L W) {R : Int -> Hp -> Prop} (hR : R (W.sp.st.length : Int) U) : WO.call (some ⟨L.hs, 0, none⟩) U R := Ud h.sp hR
def WdF (A : AR) (n : Nat) : Nat := (List.range n).countP fun (p : Nat) => Qx A (p : Int)
theorem WdU (A : AR) (n : Nat) : WdF A n <= n := by
 unfold WdF
 refine Nat.le_trans List.countP_le_length ?_
 rw [List.length_range]; exact Nat.le_refl _
end Go.Ar
namespace Go.Proofs
open Go.Vc

set_option maxRecDepth 100000
end Go.Proofs
namespace Go.Ar
open Go Go.Vc Go.Proofs
open Go.Bu (XV YZ Xu cnt)


variable {U : Hp} {xs : List (Int × Int × Int)}
theorem Kz {A : AR} {p : Nat} : Qx A (p : Int) = true ↔ A.f p ≠ 0 := by
 unfold Qx AR.f gf
 rw [decide_eq_true (show (0 : Int) <= (p : Int) by omega), Bool.true_and, Int.toNat_natCast, decide_eq_true_eq]
end Go.Ar
namespace Go.Proofs
open Go.Vc

set_option maxRecDepth 100000
end Go.Proofs
namespace Go.Ar
open Go Go.Vc Go.Proofs
open Go.Bu (XV YZ Xu cnt)


variable {U : Hp} {xs : List (Int × Int × Int)} {W : Wd} {F : Rg} {L : LayW}
theorem WI.addr8 (h : WI W) {p : Pc} (hp : p ∈ W.held) : p.addr % 8 = 0 /\ 256 <= p.addr /\ p.addr + p.size <= W.sp.st.length * 256 := by
 obtain ⟨A, hA, hh⟩ := h.hf p hp
 have ga := h.ga _ A hA
 have hs := h.size_pos hp
 have e1 := h.page hp hA (x := p.addr) (Nat.le_refl _) (by omega)
 have e2 := h.page hp hA (x := p.addr + p.size - 1) (by omega) (by omega)
 have hl : ¬ p.addr / 256 < 16 := fun hx => by have := h.low _ A hA _ hx; omega
 have hn : (p.addr + p.size - 1) / 256 < A.n := ga.pg.lt (by omega)
 have hAn : A.n = W.sp.st.length := (h.ow _ A hA).l.symm
 refine ⟨?_, by omega, by omega⟩
 rcases hh with ⟨_, _, r, hr, h1, h2⟩ | ⟨j, c, _, hc, h2, h3, _⟩
 ·omega
 ·obtain ⟨c', ss, hcl, ht⟩ := h3
  have : c' = c := Option.some.inj (hcl.1.symm.trans hc)
  subst this
  have hC := ga.cen j _ ss hcl
  have hok := hC.ok
  unfold Cls.ok at hok
  obtain ⟨l, s, i, _, _, e, _⟩ := (Kn hC).1 ht
  have e' : p.addr = at_ c' s i := Int.ofNat.inj e
  unfold at_ at e'
  obtain ⟨m, hm⟩ : ∃ m, c'.size = 8 * m := ⟨c'.size / 8, by omega⟩
  rw [hm, show i * (8 * m) = 8 * (i * m) by rw [Nat.mul_left_comm]] at e'
  omega
theorem QO {p : Nat} {sp : Sp} (h : SpH3 U F p sp) (g : Gl U) {y : Nat} (hy : y < sp.st.length) {R : Int -> Hp -> Prop} (hR : ∀ σ', Ext0 U σ' -> R (gf sp.st y : Int) σ') : WP.call (some ⟨p, 0, none⟩) (y : Int) U R := by
 refine WdW h g _ fun σ' e => ?_
 rw [if_pos (by omega)]
 exact hR σ' e
end Go.Ar
namespace Go.Proofs
open Go.Vc

set_option maxRecDepth 100000
def WE.hint : Hn := .seq (.o 1) (.seq (.seq (.o 2) (.cond (.seq (.o 2) (.leaf)) (.leaf))) (.seq (.o 11) (.seq (.seq (.o 2) (.cond (.seq (.reg (.seq [.op, .op, .op, .op, .grd true 1 [.op], .op])) (.leaf)) (.leaf))) (.seq (.o 5) (.seq (.reg (.held true [] (.take 0 (.take 1 (.take 2 (.take 3 (.take 5 (.take 6 (.take 7 (.take 8 (.all [(4, .all [(9, .take 10 (.take 11 (.done)))])]))))))))))) (.seq (.o 14) (.seq (.seq (.reg (.seq [.op, .op, .op, .grd true 2 [.op, .op], .op, .grd false 6 [.op, .op, .op, .grd true 2 [.op, .op]], .op, .grd false 2 [.op, .op]])) (.cond (.seq (.o 1) (.leaf)) (.leaf))) (.seq (.seq (.o 1) (.block (.loop [(22, .one (.i .i64))] (.seq (.seq (.o 7) (.cond (.leaf) (.leaf))) (.seq (.block (.seq (.reg (.seq [.op, .op, .op, .op, .op, .op, .op, .op, .op, .op, .op, .grd true 25 [.op, .op, .op, .op, .op, .grd false 7 [.op, .op, .op, .op, .op, .op, .op], .op, .grd false 10 [.op, .op, .op, .op, .op, .op, .op, .op, .op, .op]]])) (.cond (.seq (.o 1) (.leaf)) (.leaf)))) (.o 3)))))) (.seq (.o 6) (.seq (.seq (.o 1) (.block (.loop [(24, .one (.i .i64))] (.seq (.seq (.o 7) (.cond (.leaf) (.leaf))) (.seq (.block (.seq (.o 9) (.seq (.o 4) (.block (.loop [(26, .one (.i .i64))] (.seq (.seq (.o 8) (.cond (.leaf) (.leaf))) (.seq (.block (.seq (.reg (.quiet [.op, .op, .op, .grd false 4 [.op, .op, .op, .op], .op, .grd false 9 [.op, .op, .op, .op, .op, .op, .op, .op, .op]])) (.cond (.seq (.o 1) (.leaf)) (.leaf)))) (.o 3)))))))) (.o 3)))))) (.seq (.o 8) (.seq (.o 21) (.seq (.o 1) (.seq (.seq (.o 1) (.block (.loop [(33, .one (.i .i64)), (34, .one (.i .i64))] (.seq (.seq (.o 7) (.cond (.leaf) (.leaf))) (.seq (.block (.seq (.reg (.seq [.op, .op, .op, .op, .op, .op, .op, .op, .op, .op, .grd true 7 [.op, .op, .op, .op, .op, .op, .op]])) (.cond (.o 3) (.leaf)))) (.o 3)))))) (.seq (.reg (.seq [.op, .op, .op, .op, .op, .op, .grd true 1 [.op], .op])) (.leaf))))))))))))))))
def WE.vc (table : Sl) (pages : Int) (many : Int) (room : Int) (l : Sl) (k : Int) (want : Int) (U : Hp) (R : Bool -> Hp -> Prop) : Prop :=
 Xk.call l U fun t36 v =>
 If t36 (Wv.call v fun t37 v1 =>
 R t37 v1)
 (W8.call table pages many room l v fun t44 t441 v2 =>
 If (!t441) (W6.call table v2 fun t50 v3 =>
 JnB (fun r v4 =>
 R r v4) fun J =>
 If (!t50) (Wv.call v3 fun t53 v5 =>
 J t53 v5)
 (J false v3))
 (Wq.call t44 0 k 0 0 0 ⟨none, 0, 0⟩ v2 fun n v6 =>
 Held v6 fun S =>
 NilP t44 fun a60 =>
 LdH S .p (a60.add 0) fun (t62 : Option Addr) =>
 NilP t44 fun a65 =>
 LdH S .p (a65.add 0) fun (t67 : Option Addr) =>
 Yd.call t62 v6 fun old v7 =>
 And (S v7) <|
 Xg.call t67 v7 fun KE v8 =>
 And (S v8) <|
 NilP t44 fun a71 =>
 LdS (a71.add 1) v8 fun t73 =>
 Ix t73.a t73.len n 1 fun a75 =>
 LdP a75 v8 fun t76 =>
 W5.call t76 want v8 fun t78 t781 v9 =>
 JnB (fun r1 v10 =>
 JnB (fun r2 v11 =>
 JnB (fun r3 v12 =>
 If r3 (R false v12)
 (Xn [(.i .i64)] (fun I => I 0 v12) fun J4 (p : Int) v13 =>
 NilP t44 fun a101 =>
 LdP (a101.add 0) v13 fun t103 =>
 WO.call t103 v13 fun t104 v14 =>
 If (decide (p < t104)) (NilP t44 fun a109 =>
 LdP (a109.add 0) v14 fun t111 =>
 WP.call t111 p v14 fun t113 v15 =>
 WP.call old p v15 fun t116 v16 =>
 JnB (fun r4 v17 =>
 If r4 (R false v17)
 (Ar .i64 (p + 1) fun p1 =>
 J4 p1 v17)) fun J5 =>
 If (t113 != t116) (WP.call old p v16 fun t121 v18 =>
 JnB (fun r5 v19 =>
 JnB (fun r6 v20 =>
 J5 r6 v20) fun J7 =>
 If r5 (J7 true v19)
 (NilP t44 fun a134 =>
 LdS (a134.add 1) v19 fun t136 =>
 Ix t136.a t136.len n 1 fun a138 =>
 LdP a138 v19 fun t139 =>
 Xm.call t139 p v19 fun t141 v21 =>
 J7 (!t141) v21)) fun J6 =>
 If (t121 != 2) (J6 true v18)
 (NilP t44 fun a125 =>
 LdP (a125.add 0) v18 fun t127 =>
 WP.call t127 p v18 fun t129 v22 =>
 J6 (t129 != 1) v22))
 (J5 false v16))
 (NilP t44 fun a146 =>
 LdP (a146.add 0) v14 fun t148 =>
 Xg.call t148 v14 fun after v23 =>
 Xn [(.i .i64)] (fun I1 => I1 0 v23) fun J8 (i : Int) v24 =>
 NilP t44 fun a152 =>
 LdS (a152.add 3) v24 fun t154 =>
 If (decide (i < ((t154.len : Nat) : Int))) (NilP t44 fun a160 =>
 LdS (a160.add 3) v24 fun t162 =>
 Ix t162.a t162.len i 5 fun a164 =>
 LdI .i64 (a164.add 0) v24 fun t165 =>
 LdI .i64 (a164.add 1) v24 fun t1651 =>
 LdI .i64 (a164.add 2) v24 fun t1652 =>
 LdI .i64 (a164.add 3) v24 fun t1653 =>
 LdB (a164.add 4) v24 fun t1654 =>
 Nw (.cells #[.int .i64 0, .int .i64 0, .int .i64 0, .int .i64 0, .bool false] 39 (0, 0)) v24 fun n25 v25 =>
 St1 (n25.add 0) (.int .i64 t165) v25 fun v26 =>
 St1 (n25.add 1) (.int .i64 t1651) v26 fun v27 =>
 St1 (n25.add 2) (.int .i64 t1652) v27 fun v28 =>
 St1 (n25.add 3) (.int .i64 t1653) v28 fun v29 =>
 St1 (n25.add 4) (.bool t1654) v29 fun v30 =>
 LdI .i64 (n25.add 2) v30 fun t167 =>
 Nz 8 <| Ar .i64 (t167.tdiv 8) fun a =>
 Xn [(.i .i64)] (fun I2 => I2 a v30) fun J9 (a1 : Int) v31 =>
 LdI .i64 (n25.add 2) v31 fun t171 =>
 LdI .i64 (n25.add 3) v31 fun t173 =>
 Ar .i64 (t171 + t173) fun t174 =>
 Nz 8 <| Ar .i64 (t174.tdiv 8) fun t175 =>
 If (decide (a1 < t175)) (JnB (fun r7 v32 =>
 JnB (fun r8 v33 =>
 If r8 (R false v33)
 (Ar .i64 (a1 + 1) fun a2 =>
 J9 a2 v33)) fun J11 =>
 If r7 (J11 true v32)
 (Ix after.a after.len a1 1 fun a190 =>
 LdI .i64 a190 v32 fun t191 =>
 Ix KE.a KE.len a1 1 fun a194 =>
 LdI .i64 a194 v32 fun t195 =>
 J11 (t191 != t195) v32)) fun J10 =>
 If (decide (a1 < 0)) (J10 true v31)
 (J10 (decide (a1 ≥ ((after.len : Nat) : Int))) v31))
 (Ar .i64 (i + 1) fun i1 =>
 J8 i1 v31))
 (NilP t44 fun a199 =>
 LdS (a199.add 1) v24 fun t201 =>
 Ix t201.a t201.len n 1 fun a203 =>
 LdP a203 v24 fun t204 =>
 W5.call t204 1024 v24 fun t205 t2051 v34 =>
 NilP t44 fun a208 =>
 LdS (a208.add 1) v34 fun t210 =>
 Ix t210.a t210.len n 1 fun a212 =>
 LdP a212 v34 fun t213 =>
 Xp.call t213 v34 fun t214 t2141 t2142 t2143 t2144 t2145 v35 =>
 Xn [(.i .i64), (.i .i64)] (fun I3 => I3 0 0 v35) fun J12 (dirty : Int) (p2 : Int) v36 =>
 NilP t44 fun a223 =>
 LdP (a223.add 0) v36 fun t225 =>
 WO.call t225 v36 fun t226 v37 =>
 If (decide (p2 < t226)) (NilP t44 fun a231 =>
 LdS (a231.add 1) v37 fun t233 =>
 Ix t233.a t233.len n 1 fun a235 =>
 LdP a235 v37 fun t236 =>
 Xm.call t236 p2 v37 fun t238 v38 =>
 JnB (fun r9 v39 =>
 If r9 (Ar .i64 (dirty + 1) fun dirty1 =>
 Ar .i64 (p2 + 1) fun p3 =>
 J12 dirty1 p3 v39)
 (Ar .i64 (p2 + 1) fun p4 =>
 J12 dirty p4 v39)) fun J13 =>
 If t238 (NilP t44 fun a241 =>
 LdP (a241.add 0) v38 fun t243 =>
 WP.call t243 p2 v38 fun t245 v40 =>
 J13 (t245 == 2) v40)
 (J13 false v38))
 (Ar .i64 (t2143 + t2144) fun t253 =>
 JnB (fun r10 v41 =>
 R r10 v41) fun J14 =>
 If (decide (dirty <= t253)) (Wv.call v37 fun t256 v42 =>
 J14 t256 v42)
 (J14 false v37)))))) fun J3 =>
 If r2 (J3 true v11)
 (J3 (decide (t78 < 0)) v11)) fun J2 =>
 If r1 (J2 true v10)
 (JnB (fun r11 v43 =>
 J2 r11 v43) fun J15 =>
 If (decide (want ≥ 0)) (J15 (t781 != 0) v10)
 (J15 false v10))) fun J1 =>
 If (decide (want < 0)) (J1 (t781 != 1) v9)
 (J1 false v9)))
theorem WE.of_vc {table pages many room l k want U R} (hv : WE.vc table pages many room l k want U R) : WE.call table pages many room l k want U R :=
 Wa Tryz.func9 (x := WE.hint) (Eq.mpr (by kernel_rfl) hv)
end Go.Proofs
namespace Go.Ar
open Go Go.Vc Go.Proofs
open Go.Bu (XV YZ Xu cnt)


variable {U : Hp} {xs : List (Int × Int × Int)} {W : Wd} {F : Rg} {L : LayW} {k : Nat} {A : AR}
def rdW (sp : Sp) (w : Nat) : Int := if accE sp ((8 * w : Nat) : Int) = 0 then sp.wd w else 0
def V9 (sp : Sp) : List Int := (List.range (sp.st.length * 32)).map (rdW sp)
theorem GR (sp : Sp) : (V9 sp).length = sp.st.length * 32 := by simp [V9]
theorem Ha {sp : Sp} {w : Nat} (h : w < sp.st.length * 32) : (V9 sp)[w]? = some (rdW sp w) := by
 unfold V9; rw [List.getElem?_map, List.getElem?_range h]; rfl
theorem WbH {p : Nat} {sp : Sp} (h : SpH3 U F p sp) (g : Gl U) (hn : sp.st.length <= 1000) {R : Sl -> Hp -> Prop} (hR : ∀ s' σ', Ext0 U σ' -> RowR s' 1 (Yu (V9 sp)) σ' (fun b => U.size <= b) -> R s' σ') : Xg.call (some ⟨p, 0, none⟩) U R := by
 refine Xg.of_vc ?_
 unfold Xg.vc
 refine Kb (a := .s) (bb := .i .i64) (fun (s : Sl) (t : Int) v => ∃ i : Nat, t = ((8 * i : Nat) : Int) /\ i <= sp.st.length * 32 /\ Ext0 U v /\ RowR s 1 (Yu ((V9 sp).take i)) v (fun b => U.size <= b)) (fun _ t _ => sp.st.length * 256 - t.toNat)
  ⟨0, rfl, by omega, Ext.refl _ _, by rw [List.take_zero]; exact RowR.nil _ _ _ _⟩ ?_
 rintro (s : Sl) (t : Int) v ⟨i, rfl, hi, e, hr⟩
 have hv := Lcl.keep0 SpH3.loc h e
 have hl := hr.1
 have hwl := GR sp
 have hlen : s.len = i := by simp only [Yu, List.length_map, List.length_take] at hl; omega
 refine Ud hv (arN (m := sp.st.length * 256) (by simp) (by omega) (ifD (fun hlt => ?_) fun hge => ?_))
 ·have hi' : i < sp.st.length * 32 := by omega
  refine Wgw hv (g.keep0 e) _ (by omega) fun v2 e2 => ?_
  have hval : (if accE sp ((8 * i : Nat) : Int) = 0 then sp.wd (((8 * i : Nat) : Int).toNat / 8) else 0) = rdW sp i := by
   unfold rdW; rw [show ((8 * i : Nat) : Int).toNat / 8 = i by omega]
  rw [hval]
  refine ((RowR.loc _ _ _).keep0 hr e2).push (vs := [.int .i64 (rdW sp i)]) (fun b hb => Nat.le_trans (Ext.trans e e2).1 hb) rfl rfl (by simp [one1]) (by omega) (by omega) fun s' v' hl' e' hr' => ?_
  have E := Ext.fresh (Ext.trans e e2) e' fun b hb => hb
  refine arN (m := 8 * (i + 1)) (by omega) (by omega) ⟨⟨i + 1, rfl, by omega, ?_, ?_⟩, by omega⟩
  ·exact E
  ·rw [List.take_add_one, Ha hi', Option.toList_some, show Yu ((V9 sp).take i ++ [rdW sp i]) = Yu ((V9 sp).take i) ++ [.int .i64 (rdW sp i)] by simp [Yu]]
   exact hr'
 ·have hii : i = sp.st.length * 32 := by omega
  subst hii
  rw [← hwl, List.take_length] at hr
  exact hR s v e hr
theorem Wf9 {sp : Sp} {w : Nat} (h : gf sp.st (w / 32) ≠ 0) : accE sp ((8 * w : Nat) : Int) = 0 := by
 unfold accE
 rw [if_neg (by omega), show ((8 * w : Nat) : Int).toNat / 256 = w / 32 by omega]
 exact if_neg h
theorem Wid (h : WI W) (hk : W.ars[k]? = some A) (want : Int) : WI (W.put k (relS A W.sp want).1 (relS A W.sp want).2 W.held) := Wdw h hk ⟨10, 0, 0, want, 0, []⟩
theorem WgO (h : WI W) (hk : W.ars[k]? = some A) (want : Int) :
 (∀ p, gf (relS A W.sp want).2.st p = gf W.sp.st p ∨ (gf W.sp.st p = 2 /\ gf (relS A W.sp want).2.st p = 1 /\ (relS A W.sp want).1.f p ≠ 0)) ∧
 ∀ q ∈ W.held, ∀ w, q.addr <= 8 * w -> 8 * w < q.addr + q.size -> rdW (relS A W.sp want).2 w = rdW W.sp w := by
 have hW := Wid h hk want
 have ga := h.ga k A hk
 have ow := h.ow k A hk
 have hkl := (List.getElem?_eq_some_iff.1 hk).1
 by_cases hneg : want < 0
 ·have e : relS A W.sp want = (A, W.sp) := by unfold relS; rw [if_pos hneg]
  rw [e]; exact ⟨fun p => .inl rfl, fun _ _ _ _ _ => rfl⟩
 obtain ⟨z, _⟩ := WaJ ga ow (want := want) (by omega)
 have ows : Ow (Y8 A) W.sp := ow.kp (Vk ga).1.kp
 generalize relS A W.sp want = rB at *
 obtain ⟨B, sp'⟩ := rB
 generalize KD A want = rs at z
 simp only at *
 constructor
 ·intro p
  by_cases hp : inR rs p
  ·obtain ⟨z1, z2, z3⟩ := z.i p hp
   by_cases h0 : gf W.sp.st p = 1
   ·left; omega
   ·have h2 : gf W.sp.st p ≠ 0 := ows.own p (by omega)
    have h3 : gf W.sp.st p <= 2 := ow.le p
    right; exact ⟨by omega, z3, by omega⟩
  ·left; exact (z.o p hp).2
 ·intro q hq w h1 h2
  obtain ⟨C, hC, _⟩ := h.hf q hq
  obtain ⟨D, hD, _⟩ := hW.hf q hq
  have e1 := h.page hq hC h1 h2
  have e2 := hW.page (p := q) hq hD h1 h2
  rw [show 8 * w / 256 = w / 32 by omega] at e1 e2
  have hnr : ¬ inR rs (w / 32) := fun hr => by
   obtain ⟨_, z2, _⟩ := z.i _ hr
   have hB : (W.put k B sp' W.held).ars[k]? = some B := List.getElem?_set_self hkl
   have hqk := hW.one (w / 32) q.k k D B hD hB (by omega) (by omega)
   rw [hqk, hB] at hD; cases hD
   omega
  have g1 : gf W.sp.st (w / 32) ≠ 0 := (h.ow _ C hC).own _ (by omega)
  have g2 : gf sp'.st (w / 32) ≠ 0 := by rw [(z.o _ hnr).2]; exact g1
  unfold rdW
  rw [if_pos (Wf9 g1), if_pos (Wf9 g2)]
  exact z.wd w hnr
def QJ (C : AR) (sp : Sp) (n : Nat) : Nat := (List.range n).countP fun (p : Nat) => Qx C (p : Int) && gf sp.st p == 2
theorem War (C : AR) (sp : Sp) (n : Nat) : QJ C sp (n + 1) = QJ C sp n + if (Qx C (n : Int) && gf sp.st n == 2) = true then 1 else 0 := by
 unfold QJ
 rw [List.range_succ, List.countP_append]
 cases h : (Qx C (n : Int) && gf sp.st n == 2) <;> simp [h]
theorem Weg (C : AR) (sp : Sp) (n : Nat) : QJ C sp n <= n := by
 unfold QJ
 refine Nat.le_trans List.countP_le_length ?_
 rw [List.length_range]; exact Nat.le_refl _
theorem Wdi {C : AR} {sp : Sp} (ga : GA C) (ow : Ow C sp) (h2 : ∀ p, C.f p ≠ 2) : QJ C sp C.n <= V0 C + VQ C := by
 have q1 := Ut ga
 have e : (List.range C.n).countP (fun (p : Nat) => Qx C (p : Int)) = (List.range C.n).countP (fun p => decide (C.f p = 1)) + cnt C.n C.S := by
  unfold cnt
  refine (Go.Bu.countP_add (List.range C.n) (fun p => decide (C.f p = 1)) C.S (fun (p : Nat) => Qx C (p : Int)) fun p _ => ?_).symm
  have hf := ga.pg.fr p
  by_cases h1 : C.f p = 1
  ·have hs : C.S p = false := by apply Bool.eq_false_iff.2; intro hx; have := hf.1 hx; omega
   have ho : Qx C (p : Int) = true := Kz.2 (by omega)
   rw [decide_eq_true h1, hs, ho]; rfl
  ·rw [decide_eq_false h1]
   by_cases h0 : C.f p = 0
   ·have hs : C.S p = false := by apply Bool.eq_false_iff.2; intro hx; have := hf.1 hx; omega
    have ho : Qx C (p : Int) = false := by apply Bool.eq_false_iff.2; intro hx; exact Kz.1 hx h0
    rw [hs, ho]; rfl
   ·have hs : C.S p = true := hf.2 (by omega)
    have ho : Qx C (p : Int) = true := Kz.2 h0
    rw [hs, ho]; rfl
 have hm : QJ C sp C.n <= (List.range C.n).countP (fun p => decide (C.f p = 1)) := by
  unfold QJ
  refine List.countP_mono_left fun p _ hp => ?_
  simp only [Bool.and_eq_true, beq_iff_eq] at hp
  have h0 := Kz.1 hp.1
  have hle := ga.pg.le p
  have h3 : C.f p ≠ 3 := fun h => by have := ow.cl p h; omega
  have := h2 p
  exact decide_eq_true (by omega)
 omega
theorem WfV {b c : Bool} {K : Bool -> Hp -> Prop} {v : Hp} (h : b = true -> c = false) (hk : K false v) : JnB K fun J => If b (J c v) (J false v) := JnB.intro (iff_ (fun hb => by rw [h hb]; exact hk) fun _ => hk)
set_option maxRecDepth 8000 in
theorem Wal (g : Gl U) (gd : Gd U) {table : Sl} (ht : Acts U table xs) {pages many room k0 want : Int} (hp : 0 <= pages /\ pages <= 255) (hm : 0 <= many /\ many <= 255) (hr : 0 <= room /\ room <= 255)
 {l : Sl} {us : List Act} (hl : Acts6 U U.size l us) (hll : us.length <= 9223372036854775807) {R : Bool -> Hp -> Prop} (hR : ∀ σ', Ext0 U σ' -> R true σ') : WE.call table pages many room l k0 want U R := by
 refine WE.of_vc ?_
 unfold WE.vc
 refine Wfa g gd ht hp hm hr hl hll hR fun hv v2 L e2 hw => ?_
 generalize theW xs pages many room us = W at hw
 have hk1 := hw.d.k1; have hk2 := hw.d.k2
 have hn := hw.d.n
 have wi := hw.d.wi
 have hlen := wi.len
 refine Wak hw.d.h (by omega) (by omega) _ _ _ _ _ _ fun v6 e6 => ?_
 have hw6 := hw.keep0 e6
 have h6 := hw6.d.h
 have hkl := (WcD k0 (n := W.ars.length) (by omega)).1
 have hA : W.ars[numW W.ars.length k0]? = some (W.ars[numW W.ars.length k0]'hkl) := List.getElem?_eq_getElem _
 generalize (W.ars[numW W.ars.length k0]'hkl) = A at hA
 generalize numW W.ars.length k0 = k at hA
 have hkl := (List.getElem?_eq_some_iff.1 hA).1
 have ga := wi.ga k A hA
 have ow := wi.ow k A hA
 have hAn : A.n = W.sp.st.length := ow.l.symm
 have E6 : Ext0 U v6 := Ext.trans e2 e6
 refine ⟨fun m => Ext0 v6 m, Ext.refl _ _, nilP ⟨some ⟨L.hs, 0, none⟩, fun m hm => by rw [add_lit, (Ext.blk hm h6.hd id).cell]; rfl, ?_⟩⟩
 refine nilP ⟨some ⟨L.hs, 0, none⟩, fun m hm => by rw [add_lit, (Ext.blk hm h6.hd id).cell]; rfl, ?_⟩
 refine WaS h6.sp fun v7 po e7 hpo ho7 => ⟨e7, ?_⟩
 have h7 := (hw6.keep0 e7).d.h
 refine WbH h7.sp (g.keep0 (Ext.trans E6 e7)) (by omega) fun KE v8 e8 hb8 => ⟨Ext.trans e7 e8, ?_⟩
 have h8 : WH v8 (Cut (fun b => U.size <= b) v6) L W := (h6.cut).keep0 (Ext.trans e7 e8)
 have E8 : Ext0 U v8 := Ext.trans E6 (Ext.trans e7 e8)
 obtain ⟨Y, G, H, hy, _, hW2, put⟩ := h8.stepAS hA
 refine nilP (h8.hd.rS rfl (h8.rA hy ?_))
 have rl := WgO wi hA want
 have wi' := Wid wi hA want
 obtain ⟨s, q1, q2, q3⟩ := UI ga ow want
 refine K1 hW2 want (VJ ga (by omega) (wi.low k A hA)) fun v9 F' H' hf ex hW3 => ?_
 rw [← QN s.tb s.room q2] at hW3
 obtain ⟨e9, h9⟩ := put v9 _ _ F' H' ex hf hW3
 generalize relS A W.sp want = rB at *
 obtain ⟨B, sp1⟩ := rB
 simp only at s rl wi' h9 q1 q2 q3
 have E9 : Ext0 U v9 := Ext.fresh E8 e9 fun b hb => hb.1
 have hold : SpH3 v9 (fun b => v6.size <= b) po W.sp := Lcl.keep SpH3.loc ((Lcl.keep0 SpH3.loc ho7 e8)) e9 fun b _ hb hc => by have := hc.2; omega
 have hbef : RowR KE 1 (Yu (V9 W.sp)) v9 (fun b => v7.size <= b) := Lcl.keep (RowR.loc _ _ _) hb8 e9 fun b _ hb hc => by have := hc.2; have := e7.1; omega
 have hsl : sp1.st.length = W.sp.st.length := by rw [s.ow.l, s.n, hAn]
 have hB : (W.ars.set k B)[k]? = some B := List.getElem?_set_self hkl
 have hc1 : want < 0 -> (relE want != 1) = false := fun h => by unfold relE; rw [if_pos h]; rfl
 have hc0 : ¬ want < 0 -> (relE want != 0) = false := fun h => by unfold relE; rw [if_neg h]; rfl
 generalize (relE want != 1) = c1 at hc1 ⊢
 generalize (relE want != 0) = c0 at hc0 ⊢
 refine WfV (b := decide (want < 0)) (c := c1) (fun h => hc1 (by simpa using h)) ?_
 refine JnB.intro (ifF rfl (WfV (b := decide (want ≥ 0)) (c := c0) (fun h => hc0 (by have := of_decide_eq_true h; omega)) ?_))
 refine JnB.intro (ifF rfl (ifDF (by omega) ?_))
 have g9 := g.keep0 E9
 refine YY (a := .i .i64) (fun (t : Int) w => ∃ q : Nat, t = (q : Int) /\ q <= W.sp.st.length /\ Ext0 v9 w) (fun t _ => W.sp.st.length - t.toNat) ⟨0, rfl, by omega, Ext.refl _ _⟩ ?_
 rintro (t : Int) v13 ⟨q, rfl, hq, e13⟩
 have h13 := h9.keep0 e13
 refine nilP (h13.hd.rP rfl (GV h13 (ifD (fun hlt => ?_) fun hge => ?_)))
 ·have hlt : q < W.sp.st.length := by have : (q : Int) < ((sp1.st.length : Nat) : Int) := hlt; omega
  refine nilP (h13.hd.rP rfl (QO h13.sp (g9.keep0 e13) (y := q) (by show q < sp1.st.length; omega) fun v15 e15 => ?_))
  refine QO (Lcl.keep0 SpH3.loc hold (Ext.trans e13 e15)) (g9.keep0 (Ext.trans e13 e15)) hlt fun v16 e16 => JnB.intro ?_
  have e1316 := Ext.trans (Ext.trans e13 e15) e16
  have h16 := h9.keep0 e1316
  have next : ∀ (r : Bool) w, Ext0 v16 w -> r = false -> If r (R false w) (Ar .i64 ((q : Int) + 1) fun p1 => (∃ q : Nat, p1 = (q : Int) /\ q <= W.sp.st.length /\ Ext0 v9 w) /\ W.sp.st.length - p1.toNat < W.sp.st.length - (q : Int).toNat) := fun r w ew hr =>
   ifF hr (arN (m := q + 1) (by omega) (by omega) ⟨⟨q + 1, rfl, by omega, Ext.trans e1316 ew⟩, by omega⟩)
  show If (((gf sp1.st q : Nat) : Int) != ((gf W.sp.st q : Nat) : Int)) _ _
  refine iff_ (fun hne => ?_) fun heq => next _ _ (Ext.refl _ _) rfl
  have hne : gf sp1.st q ≠ gf W.sp.st q := fun e => by rw [e] at hne; simp at hne
  obtain ⟨r1, r2, r3⟩ := (rl.1 q).resolve_left hne
  refine QO (Lcl.keep0 SpH3.loc hold e1316) (g9.keep0 e1316) hlt fun v18 e18 => JnB.intro ?_
  rw [r1]
  have h18 := h16.keep0 e18
  refine ifF rfl (nilP (h18.hd.rP rfl (QO h18.sp (g9.keep0 (Ext.trans e1316 e18)) (y := q) (by show q < sp1.st.length; omega) fun v22 e22 => ?_)))
  have hr2 : ((gf sp1.st q : Nat) : Int) = 1 := by omega
  have h22 := h18.keep0 e22
  obtain ⟨Y2, hy2, _, hAH⟩ := h22.ar hB
  refine JnB.intro (ifF (show (((gf sp1.st q : Nat) : Int) != 1) = false by rw [hr2]; rfl) (nilP (h22.hd.rS rfl (h22.rA hy2 (Ga hAH _ ?_)))))
  rw [Kz.2 r3]
  exact next _ _ (Ext.trans e18 e22) rfl
 refine nilP (h13.hd.rP rfl (WbH h13.sp (g9.keep0 e13) (by show sp1.st.length <= 1000; omega) fun after v23 e23 haf => ?_))
 have e923 := Ext.trans e13 e23
 have haf : RowR after 1 (Yu (V9 sp1)) v23 (fun b => v13.size <= b) := haf
 have hbe := (RowR.loc _ _ _).keep0 hbef e923
 have hal : after.len = W.sp.st.length * 32 := by have := haf.1; simp only [Yu, List.length_map, GR] at this; omega
 refine YY (a := .i .i64) (fun (t : Int) w => ∃ i : Nat, t = (i : Int) /\ i <= W.held.length /\ Ext0 v23 w) (fun t _ => W.held.length - t.toNat) ⟨0, rfl, by omega, Ext.refl _ _⟩ ?_
 rintro (t : Int) v24 ⟨i, rfl, hi, e24⟩
 have e924 := Ext.trans e923 e24
 have h24 := h9.keep0 e924
 have hhl := h24.heldL
 have hhl : L.held.len = W.held.length := hhl
 refine nilP (h24.hd.rS rfl (ifD (fun hlt => ?_) fun hge => ?_))
 ·simp only at hlt
  have hi' : i < W.held.length := by omega
  have hpi : W.held[i]? = some W.held[i] := List.getElem?_eq_getElem hi'
  generalize W.held[i] = p at hpi
  have hpm := List.mem_of_getElem? hpi
  have hpa := wi.addr8 hpm
  have hps := wi.size_pos hpm
  refine nilP (h24.hd.rS rfl (Wic h24.held.slR hpi fun v30 e30 bw => ?_))
  obtain ⟨w0, hw0⟩ : ∃ w, p.addr = 8 * w := ⟨p.addr / 8, by omega⟩
  obtain ⟨n0, hn0⟩ : ∃ n, p.size = 8 * n := ⟨p.size / 8, by omega⟩
  refine bw.rI rfl (nz (by decide) (arN (m := w0) (by rw [Zo (by omega)]; omega) (by omega) ?_))
  refine YY (a := .i .i64) (fun (t : Int) w => ∃ m : Nat, t = ((w0 + m : Nat) : Int) /\ m <= n0 /\ Ext0 v30 w) (fun t _ => w0 + n0 - t.toNat) ⟨0, by simp, by omega, Ext.refl _ _⟩ ?_
  rintro (t : Int) v31 ⟨m, rfl, hm, e31⟩
  have b31 := Ext.blk e31 bw id
  refine b31.rI rfl (b31.rI rfl (arN (m := p.addr + p.size) (by simp) (by omega) (nz (by decide) (arN (m := w0 + n0) (by rw [Zo (by omega)]; omega) (by omega) (ifD (fun hlt2 => ?_) fun hge2 => ?_)))))
  ·have hwl : w0 + m < W.sp.st.length * 32 := by omega
   refine JnB.intro (ifDF (by omega) (JnB.intro (ifDF (by simp only [hal]; omega) ?_)))
   have E := Ext.trans (Ext.trans e24 e30) e31
   refine ((RowR.loc _ _ _).keep0 haf E).slR.ixI (k := .i64) (xs := V9 sp1) (Ha (by rw [hsl]; exact hwl)) ?_
   refine ((RowR.loc _ _ _).keep0 hbe E).slR.ixI (k := .i64) (xs := V9 W.sp) (Ha hwl) ?_
   rw [rl.2 p hpm (w0 + m) (by omega) (by omega)]
   exact ifF (by simp) (arN (m := w0 + m + 1) (by omega) (by omega) ⟨⟨m + 1, by omega, by omega, e31⟩, by omega⟩)
  ·exact arN (m := i + 1) (by omega) (by omega) ⟨⟨i + 1, rfl, by omega, Ext.trans (Ext.trans e24 e30) e31⟩, by omega⟩
 have ga1 := s.ga
 have hBn : B.n = W.sp.st.length := by rw [s.n, hAn]
 obtain ⟨Y3, G3, H3, hy3, _, hW3', put3⟩ := h24.stepAS hB
 refine nilP (h24.hd.rS rfl (h24.rA hy3 ?_))
 refine K1 hW3' 1024 (VJ ga1 (by omega) (wi'.low k B hB)) fun v34 F3 H3' hf3 ex3 hW4 => ?_
 obtain ⟨s2, u1, u2, u3⟩ := UI ga1 s.ow 1024
 have hno2 := (WaJ ga1 s.ow (want := 1024) (by omega)).2 (by omega)
 rw [← QN s2.tb s2.room u2] at hW4
 obtain ⟨e34, h34⟩ := put3 v34 _ _ F3 H3' ex3 hf3 hW4
 generalize relS B sp1 1024 = rC at *
 obtain ⟨C, sp2⟩ := rC
 simp only at s2 hno2 h34
 have hCn : C.n = W.sp.st.length := by rw [s2.n, hBn]
 have hsl2 : sp2.st.length = W.sp.st.length := by rw [s2.ow.l, hCn]
 have hC : ((W.ars.set k B).set k C)[k]? = some C := List.getElem?_set_self (by simp; exact hkl)
 have E34 : Ext0 U v34 := Ext.fresh (Ext.trans E9 e924) e34 fun b hb => by
  rcases hb with hb | hb
  ·exact hb.1
  ·have := E8.1; omega
 have dl := Wdi s2.ga s2.ow hno2
 rw [hCn] at dl
 have hcr := WeA s2.ga
 have hcs : V0 C <= 1024 := by
  have := Ut s2.ga
  have h1 := WdU C C.n
  have h2 : WdF C C.n = (List.range C.n).countP fun (p : Nat) => Qx C (p : Int) := rfl
  omega
 obtain ⟨Y5, hy5, _, hAH5⟩ := h34.ar hC
 refine nilP (h34.hd.rS rfl (h34.rA hy5 (HC hAH5 (by omega) fun v35 e35 => ?_)))
 refine Kb (a := .i .i64) (bb := .i .i64) (fun (d : Int) (t : Int) w => ∃ q : Nat, t = (q : Int) /\ q <= W.sp.st.length /\ Ext0 v35 w /\ d = ((QJ C sp2 q : Nat) : Int)) (fun _ t _ => W.sp.st.length - t.toNat) ⟨0, rfl, by omega, Ext.refl _ _, rfl⟩ ?_
 rintro (d : Int) (t : Int) v36 ⟨q2, rfl, hq2, e36, rfl⟩
 have e3436 := Ext.trans e35 e36
 have h36 := h34.keep0 e3436
 have hdl := Weg C sp2 q2
 have hds := War C sp2 q2
 refine nilP (h36.hd.rP rfl (GV h36 (ifD (fun hlt => ?_) fun hge2 => ?_)))
 ·have hlt : q2 < sp2.st.length := by have : (q2 : Int) < ((sp2.st.length : Nat) : Int) := hlt; omega
  obtain ⟨Y6, hy6, _, hAH6⟩ := h36.ar hC
  refine nilP (h36.hd.rS rfl (h36.rA hy6 (Ga hAH6 _ (JnB.intro ?_))))
  have step : ∀ (r : Bool) w, Ext0 v36 w -> r = (Qx C (q2 : Int) && gf sp2.st q2 == 2) -> If r (Ar .i64 (((QJ C sp2 q2 : Nat) : Int) + 1) fun d1 => Ar .i64 ((q2 : Int) + 1) fun p1 => (∃ q : Nat, p1 = (q : Int) /\ q <= W.sp.st.length /\ Ext0 v35 w /\ d1 = ((QJ C sp2 q : Nat) : Int)) /\ W.sp.st.length - p1.toNat < W.sp.st.length - (q2 : Int).toNat)
   (Ar .i64 ((q2 : Int) + 1) fun p1 => (∃ q : Nat, p1 = (q : Int) /\ q <= W.sp.st.length /\ Ext0 v35 w /\ ((QJ C sp2 q2 : Nat) : Int) = ((QJ C sp2 q : Nat) : Int)) /\ W.sp.st.length - p1.toNat < W.sp.st.length - (q2 : Int).toNat) := fun r w ew hr => by
   rw [← hr] at hds
   refine iff_ (fun ht => ?_) fun hf => ?_
   ·rw [if_pos ht] at hds
    exact arN (m := QJ C sp2 q2 + 1) (by omega) (by omega) (arN (m := q2 + 1) (by omega) (by omega) ⟨⟨q2 + 1, rfl, by omega, Ext.trans e36 ew, by rw [hds]⟩, by omega⟩)
   ·rw [if_neg (by simp [hf])] at hds
    exact arN (m := q2 + 1) (by omega) (by omega) ⟨⟨q2 + 1, rfl, by omega, Ext.trans e36 ew, by rw [hds]; rfl⟩, by omega⟩
  refine iff_ (fun ho => ?_) fun ho => step _ _ (Ext.refl _ _) (by rw [ho]; rfl)
  refine nilP (h36.hd.rP rfl (QO h36.sp (g.keep0 (Ext.trans E34 e3436)) (y := q2) hlt fun v40 e40 => step _ _ e40 ?_))
  rw [ho, Bool.true_and]
  exact beqN (gf sp2.st q2) 2
 ·have hqq : q2 = W.sp.st.length := by
   have : ¬ (q2 : Int) < ((sp2.st.length : Nat) : Int) := hge2
   omega
  subst hqq
  refine arN (m := V0 C + VQ C) (by omega) (by omega) (JnB.intro (ifDT (by omega) (H0 (g.keep0 (Ext.trans E34 e3436)) fun w ew => hR w (Ext.trans (Ext.trans E34 e3436) ew))))
end Go.Ar
namespace Go.Ar
open Go Go.Vc Go.Proofs Go.ChangeShapes Go.WideShapes Go.RowKit Go.Deep


theorem VZ {H : Type} {enc : TypeId × Value -> H} {P : Program} {w : World} {base : Nat} {sp : Nat -> Bool} {held : Bool} {fuel : Nat} {t : TypeId} {c : Value} {y : DataW H × List MemPlace}
 (ht : P.underlying t = some .bool) (h : DataW.trod enc P w base sp held fuel t [c] = some y) : ∃ n, c = .bool n /\ y = (.lit (.bool n), []) := by
 cases fuel with
 | zero => simp [DataW.trod] at h
 | succ fuel =>
  cases c <;> simp [DataW.trod, ht] at h
  rename_i n
  exact ⟨n, rfl, by simpa using h.symm⟩
theorem UG {P : Program} {w : World} {t : TypeId} {f0 f1 : Field} {cs : Array Value} {fuel : Nat} {p : List MemPlace} {x y : Bool} (ht : P.underlying t = some (.struct #[f0, f1])) (hone : oneCellFields P #[f0, f1] = true) (hC : P.cellsOf t = 2)
 (h0 : P.underlying f0.type = some .bool) (h1 : P.underlying f1.type = some .bool) (h : DataW.trod (fun _ => ()) P w 0 (fun _ => true) false fuel t cs.toList = some (.agg [.lit (.bool x), .lit (.bool y)], p)) : cs = #[.bool x, .bool y] := by
 obtain ⟨ys, n, hn, hy, hlen, hyl, hff⟩ := DataW.trod_struct ht h
 obtain ⟨l⟩ := cs
 have hl2 : l.length = 2 := by rw [← hC]; simpa using hlen
 match l, hl2 with
 | [c0, c1], _ =>
  have k0 := hff 0 f0 rfl
  have k1 := hff 1 f1 rfl
  obtain ⟨o0, q0⟩ := hone_of hone 0 f0 rfl
  obtain ⟨o1, q1⟩ := hone_of hone 1 f1 rfl
  rw [o0, q0] at k0
  rw [o1, q1] at k1
  match ys, hyl with
  | [y0, y1], _ =>
   obtain ⟨n0, rfl, e0⟩ := VZ h0 (c := c0) (y := y0) (by simpa using k0)
   obtain ⟨n1, rfl, e1⟩ := VZ h1 (c := c1) (y := y1) (by simpa using k1)
   subst e0; subst e1
   simp at hy
   obtain ⟨⟨rfl, rfl⟩, _⟩ := hy
   rfl
theorem VN {w : World} {a : Addr} {v : Value} (h : w.cell? a = some v) : cell w.heap a = some v := h
end Go.Ar
namespace Go.Ar
open Go Go.Vc Go.Proofs Go.ChangeShapes Go.WideShapes Go.RowKit Go.Deep


section
variable {H : Type} {enc : TypeId × Value -> H} {P : Program} {w : World}
theorem Wf0 {x : Int} (h : (Lit.int .i64 x).wf = true) : I63 x := by
 unfold I63
 simp [Lit.wf, IntKind.min, IntKind.max, IntKind.bits, IntKind.signed] at h
 omega
theorem Whx {x : Int} (h : (Lit.int .u8 x).wf = true) : 0 <= x /\ x <= 255 := by
 simp [Lit.wf, IntKind.min, IntKind.max, IntKind.bits, IntKind.signed] at h
 omega
theorem Wea {t e : TypeId} {fuel : Nat} {c : Value} {y : DataW H × List MemPlace} (ht : P.underlying t = some (.slice e)) (hC : P.cellsOf e = 1) (he : P.underlying e = some (.int .i64)) (h : DataW.trod enc P w 0 (fun _ => true) true fuel t [c] = some y) :
 ∃ (s : Sl) (l : List Int), c = .slice s.a s.len s.cap /\ SlR s 1 (Yu l) w.heap (fun b => b < w.heap.size) /\ s.len <= s.cap /\ (∀ x ∈ l, I63 x) /\ l.length <= 9223372036854775807 := by
 rcases open_slice1 ht hC h with ⟨hcs, _⟩ | ⟨a, len, cap, m, n, V, D, Pl, hcs, _, hl, hm, hmm, _, hV⟩
 ·simp only [List.cons.injEq, and_true] at hcs
  exact ⟨⟨none, 0, 0⟩, [], hcs, SlR.nil _ _ _ _, Nat.le_refl _, by simp, by simp⟩
 ·simp only [List.cons.injEq, and_true] at hcs
  have hmc : m = cap := by simpa using hmm
  have hx : ∀ i, i < len -> ∃ x : Int, cell w.heap (a.add i) = some (.int .i64 x) /\ I63 x := fun i hi => by
   obtain ⟨h1, h2⟩ := hV i (by omega)
   obtain ⟨x, hx1, _, hw⟩ := DataW.trod_int he h2
   simp only [List.cons.injEq, and_true] at hx1
   rw [hx1] at h1
   exact ⟨x, h1, Wf0 hw⟩
  let g : Nat -> Int := fun i => if hi : i < len then (hx i hi).choose else 0
  have hg : ∀ i, (hi : i < len) -> cell w.heap (a.add i) = some (.int .i64 (g i)) /\ I63 (g i) := fun i hi => by
   have := (hx i hi).choose_spec
   simp only [g, hi, dif_pos]; exact this
  refine ⟨⟨some a, len, cap⟩, (List.range len).map g, hcs, ⟨by simp [Yu], ?_⟩, hl, fun x hx => ?_, ?_⟩
  ·rcases Nat.eq_zero_or_pos len with h0 | h0
   ·left; subst h0; rfl
   ·right
    have hc0 := (hg 0 h0).1
    have hsp := UV hc0
    rw [Addr.add_zero'] at hsp
    obtain ⟨b, o, s⟩ := a
    have hs : s = none := hsp.2
    subst hs
    have hob : ∃ arr ty z, w.heap[b]? = some (.cells arr ty z) := by
     rw [add_lit] at hc0
     unfold cell at hc0
     split at hc0
     ·rename_i arr ty z heq; exact ⟨arr, ty, z, heq⟩
     ·cases hc0
    obtain ⟨arr, ty, z, hobj⟩ := hob
    refine ⟨b, o, arr.toList, hsp.1, rfl, ⟨ty, z, by simpa using hobj⟩, fun j hj => ?_⟩
    have hj' : j < len := by simpa [Yu] using hj
    have hc := (hg j hj').1
    rw [add_lit] at hc
    unfold cell at hc
    simp only [hobj] at hc
    rw [Array.getElem?_toList]
    simp [Yu, List.getElem?_range hj']
    simpa using hc
  ·obtain ⟨i, hi, rfl⟩ := List.mem_map.1 hx
   exact (hg i (List.mem_range.1 hi)).2
  ·have : maxLen = 9223372036854775807 := rfl
   simp; omega
theorem WcU {t ei : TypeId} {f0 f1 f2 f3 f4 f5 : Field} {fuel : Nat} {cs : List Value} {y : DataW H × List MemPlace}
 (ht : P.underlying t = some (.struct #[f0, f1, f2, f3, f4, f5])) (hone : oneCellFields P #[f0, f1, f2, f3, f4, f5] = true) (hC : P.cellsOf t = 6)
 (h0 : P.underlying f0.type = some (.int .i64)) (h1 : P.underlying f1.type = some (.int .i64)) (h2 : P.underlying f2.type = some (.int .i64)) (h3 : P.underlying f3.type = some (.int .i64)) (h4 : P.underlying f4.type = some (.int .i64)) (h5 : P.underlying f5.type = some (.slice ei)) (hCi : P.cellsOf ei = 1) (hei : P.underlying ei = some (.int .i64))
 (h : DataW.trod enc P w 0 (fun _ => true) true fuel t cs = some y) :
 ∃ (x : Act) (s : Sl), cs = [.int .i64 x.kd, .int .i64 x.ar, .int .i64 x.cl, .int .i64 x.a, .int .i64 x.b, .slice s.a s.len s.cap] /\ SlR s 1 (Yu x.l) w.heap (fun b => b < w.heap.size) /\ s.len <= s.cap /\ I63 x.a /\ (∀ z ∈ x.l, I63 z) /\ x.l.length <= 9223372036854775807 := by
 obtain ⟨ys, n, hn, hy, hlen, hyl, hff⟩ := DataW.trod_struct ht h
 have hl6 : cs.length = 6 := by rw [← hC]; exact hlen
 match cs, hl6 with
 | [c0, c1, c2, c3, c4, c5], _ =>
  have one : ∀ (j : Nat) (f : Field) (c : Value), (#[f0, f1, f2, f3, f4, f5] : Array Field)[j]? = some f -> [c0, c1, c2, c3, c4, c5][j]? = some c -> ∃ z, DataW.trod enc P w 0 (fun _ => true) true n f.type [c] = some z := by
   intro j f c hj hc
   obtain ⟨ho, hk⟩ := hone_of hone j f hj
   have h3 := hff j f hj
   rw [ho, hk] at h3
   have hjl := (List.getElem?_eq_some_iff.1 hc).1
   have e1 : ([c0, c1, c2, c3, c4, c5].drop j).take 1 = [c] := by
    rw [List.drop_eq_getElem_cons hjl, List.take_succ_cons, List.take_zero, (List.getElem?_eq_some_iff.1 hc).2]
   rw [e1] at h3
   have hys : ys[j]? = some (ys[j]'(by rw [hyl]; simp at hjl ⊢; omega)) := List.getElem?_eq_getElem _
   rw [hys] at h3
   exact ⟨_, h3⟩
  have int : ∀ (j : Nat) (f : Field) (c : Value), (#[f0, f1, f2, f3, f4, f5] : Array Field)[j]? = some f -> [c0, c1, c2, c3, c4, c5][j]? = some c -> P.underlying f.type = some (.int .i64) -> ∃ x : Int, c = .int .i64 x /\ I63 x := by
   intro j f c hj hc hu
   obtain ⟨z, hz⟩ := one j f c hj hc
   obtain ⟨x, hx1, _, hw⟩ := DataW.trod_int hu hz
   simp only [List.cons.injEq, and_true] at hx1
   exact ⟨x, hx1, Wf0 hw⟩
  obtain ⟨x0, rfl, _⟩ := int 0 f0 c0 rfl rfl h0
  obtain ⟨x1, rfl, _⟩ := int 1 f1 c1 rfl rfl h1
  obtain ⟨x2, rfl, _⟩ := int 2 f2 c2 rfl rfl h2
  obtain ⟨x3, rfl, hx3⟩ := int 3 f3 c3 rfl rfl h3
  obtain ⟨x4, rfl, _⟩ := int 4 f4 c4 rfl rfl h4
  obtain ⟨z, hz⟩ := one 5 f5 c5 rfl rfl
  obtain ⟨s, l, rfl, q1, q2, q3, q4⟩ := Wea h5 hCi hei hz
  exact ⟨⟨x0, x1, x2, x3, x4, l⟩, s, rfl, q1, q2, hx3, q3, q4⟩
theorem Wb8 {t e ei : TypeId} {f0 f1 f2 f3 f4 f5 : Field} {a : Option Addr} {len cap : Nat} {d : DataW H} {ps : List MemPlace}
 (htl : P.underlying t = some (.slice e)) (ht : P.underlying e = some (.struct #[f0, f1, f2, f3, f4, f5])) (hone : oneCellFields P #[f0, f1, f2, f3, f4, f5] = true) (hC : P.cellsOf e = 6)
 (h0 : P.underlying f0.type = some (.int .i64)) (h1 : P.underlying f1.type = some (.int .i64)) (h2 : P.underlying f2.type = some (.int .i64)) (h3 : P.underlying f3.type = some (.int .i64)) (h4 : P.underlying f4.type = some (.int .i64)) (h5 : P.underlying f5.type = some (.slice ei)) (hCi : P.cellsOf ei = 1) (hei : P.underlying ei = some (.int .i64))
 (h : DataW.Trod enc P w 0 (fun _ => true) true t (.slice a len cap) d ps) : ∃ us, Acts6 w.heap w.heap.size ⟨a, len, cap⟩ us /\ us.length <= 9223372036854775807 := by
 obtain ⟨fuel, hf⟩ := h
 rcases open_slice htl hf with ⟨hcs, _⟩ | ⟨ad, len', cap', m, n, D, Pl, hcs, _, hl, hm, hmm, hx, hi⟩
 ·simp [Value.cells] at hcs
  obtain ⟨rfl, rfl, rfl⟩ := hcs
  exact ⟨[], ⟨rfl, fun i x hx => by simp at hx, by simp, Nat.le_refl _⟩, by simp⟩
 ·simp [Value.cells] at hcs
  obtain ⟨rfl, rfl, rfl⟩ := hcs
  have hmc : m = cap := by simpa using hmm
  have key : ∀ i, i < len -> ∃ u : Act × Sl, (∀ j v, [Value.int .i64 u.1.kd, .int .i64 u.1.ar, .int .i64 u.1.cl, .int .i64 u.1.a, .int .i64 u.1.b, .slice u.2.a u.2.len u.2.cap][j]? = some v -> cell w.heap ((ad.add (i * 6)).add j) = some v) ∧
   SlR u.2 1 (Yu u.1.l) w.heap (fun b => b < w.heap.size) /\ u.2.len <= u.2.cap /\ I63 u.1.a /\ (∀ z ∈ u.1.l, I63 z) := by
   intro i hil
   obtain ⟨cs', hc, ht'⟩ := hi i (by omega)
   rw [hC] at hc
   obtain ⟨x, s, hcs, q1, q2, q3, q4, _⟩ := WcU ht hone hC h0 h1 h2 h3 h4 h5 hCi hei ht'
   obtain ⟨_, hcl, hat⟩ := World.cells?_some hc
   refine ⟨(x, s), fun j v hv => ?_, q1, q2, q3, q4⟩
   have hj := (List.getElem?_eq_some_iff.1 hv).1
   have := hat j (by simpa using hj)
   rw [hcs] at this
   rw [hv] at this
   exact this
  let g : Nat -> Act := fun i => if hi : i < len then (key i hi).choose.1 else ⟨0, 0, 0, 0, 0, []⟩
  have hg : ∀ i, (hi : i < len) -> g i = (key i hi).choose.1 := fun i hi => by simp only [g, hi, dif_pos]
  refine ⟨(List.range len).map g, ⟨by simp, fun i x hx => ?_, fun x hx => ?_, Nat.le_refl _⟩, ?_⟩
  ·have hil : i < len := by
    have := (List.getElem?_eq_some_iff.1 hx).1
    simpa using this
   have hgx : g i = x := by simpa [hil] using hx
   rw [hg i hil] at hgx
   obtain ⟨⟨x', s2⟩, hu, hc, q1, q2, _⟩ : ∃ u : Act × Sl, u.1 = x /\ (∀ j v, [Value.int .i64 u.1.kd, .int .i64 u.1.ar, .int .i64 u.1.cl, .int .i64 u.1.a, .int .i64 u.1.b, .slice u.2.a u.2.len u.2.cap][j]? = some v -> cell w.heap ((ad.add (i * 6)).add j) = some v) ∧
    SlR u.2 1 (Yu u.1.l) w.heap (fun b => b < w.heap.size) /\ u.2.len <= u.2.cap /\ I63 u.1.a /\ (∀ z ∈ u.1.l, I63 z) := ⟨_, hgx, (key i hil).choose_spec⟩
   have hu : x' = x := hu
   subst hu
   simp only at hc q1 q2
   have hz0 := (key 0 (by omega)).choose_spec.1
   have hz1 := hz0 0 _ rfl
   have hsp := UV hz1
   simp only [Nat.zero_mul, Addr.add_zero'] at hsp
   obtain ⟨b, o, s⟩ := ad
   have hs : s = none := hsp.2
   subst hs
   rw [add_lit] at hc
   refine ⟨b, o, _, rfl, hsp.1, ?_, ?_, ?_, ?_, ?_, ?_, q1, q2⟩
   ·have := hc 0 _ rfl; rw [add_lit] at this; exact this
   ·have := hc 1 _ rfl; rw [add_lit] at this; exact this
   ·have := hc 2 _ rfl; rw [add_lit] at this; exact this
   ·have := hc 3 _ rfl; rw [add_lit] at this; exact this
   ·have := hc 4 _ rfl; rw [add_lit] at this; exact this
   ·have := hc 5 _ rfl; rw [add_lit] at this; exact this
  ·obtain ⟨i, hi, rfl⟩ := List.mem_map.1 hx
   have hil := List.mem_range.1 hi
   rw [hg i hil]
   obtain ⟨_, _, _, q3, q4⟩ := (key i hil).choose_spec
   exact ⟨q3, q4⟩
  ·have : maxLen = 9223372036854775807 := rfl
   simp; omega
end
end Go.Ar