/- Texts joined. -/
import Derived.Lib.Overlaps
import Derived.Laws.Externs
import Derived.Shelf.SlIterI.Nil
import Derived.Shelf.SortM.Plain
import Derived.Shelf.SortM.SortNone
import Derived.Ground.GgzProg
import Derived.Ground.SlgmProg
import Derived.Shelf.SlMaps.Clone
import Derived.Ground.SlmcProg
import Derived.Test.YtmjjhknmbflfhaaGreatDoorProg
import Derived.Test.YtmjjhknmbflfhaaGreatDoorY2
set_option linter.unusedVariables false
set_option linter.unusedSimpArgs false
namespace Go.Ar
open Go Go.Vc Go.Proofs


variable {U : Hp} {F : Rg} {p : Nat} {c : Cls} {ps : List (Nat × Nat)} {ss : List SpA}
theorem Wei (a b a' b' : Nat) {R : Bool -> Hp -> Prop} (hR : ∀ σ', Ext0 U σ' -> R (decide (a > a') || (a == a' && decide (b < b'))) σ') : Xa.call (a : Int) (b : Int) (a' : Int) (b' : Int) U R := by
 refine Xa.of_vc ?_
 unfold Xa.vc
 refine nw (cs := [.int .i64 a, .int .i64 b]) fun v hz e hb => nw (cs := [.int .i64 a', .int .i64 b']) fun v1 hz1 e1 hb1 => ?_
 have hb' := e1.blk hb id
 have hR' := hR _ (e.trans e1)
 refine hb'.rI rfl (hb1.rI rfl (JnB.intro (ifD (fun h => ?_) fun h => ?_)))
 ·have : decide (a > a') = true := by simpa using h
  rw [this, Bool.true_or] at hR'; exact hR'
 ·have : decide (a > a') = false := by simpa using h
  rw [this, Bool.false_or] at hR'
  refine hb'.rI rfl (hb1.rI rfl (JnB.intro ?_))
  rw [beqN]
  refine iff_ (fun he => ?_) fun he => ?_
  ·rw [he, Bool.true_and] at hR'
   refine hb'.rI rfl (hb1.rI rfl ?_)
   have : decide ((b : Int) < (b' : Int)) = decide (b < b') := by rw [decide_eq_decide]; omega
   rw [this]; exact hR'
  ·rw [he, Bool.false_and] at hR'; exact hR'
theorem Qi : ∀ {i k : Nat}, Za ss i = some k -> k < i /\ ∃ s, ss[k]? = some s /\ s.many < s.tk.length
 | 0, _, h => by simp [Za] at h
 | i + 1, k, h => by
  have up : Za ss i = some k -> k < i + 1 /\ ∃ s, ss[k]? = some s /\ s.many < s.tk.length := fun h => by
   have := Qi h; exact ⟨by omega, this.2⟩
  simp only [Za] at h
  split at h
  ·rename_i x hx
   split at h
   ·rename_i hlt
    have here : i < i + 1 /\ ∃ s, ss[i]? = some s /\ s.many < s.tk.length := ⟨by omega, x, hx, hlt⟩
    split at h
    ·rename_i j hj
     split at h
     ·split at h
      ·cases h; exact here
      ·cases h; exact up hj
     ·cases h; exact here
    ·cases h; exact here
   ·exact up h
  ·exact up h
theorem Gx {s : SpA} (h : s.many < s.tk.length) : ∃ i, low s = some i /\ i < s.tk.length /\ s.is i = false := by
 unfold low
 cases hf : s.tk.findIdx? (· == false) with
 | some i =>
  obtain ⟨hi, hb, _⟩ := List.findIdx?_eq_some_iff_getElem.1 hf
  refine ⟨i, rfl, hi, ?_⟩
  have : s.tk[i] = false := by simpa using hb
  simp [SpA.is, List.getD_eq_getElem?_getD, gGe hi, this]
 | none =>
  exfalso
  have h1 := List.findIdx?_eq_none_iff.1 hf
  have : s.many = s.tk.length := by
   unfold SpA.many
   rw [List.count_eq_length]
   intro x hx
   have := h1 x hx
   cases x
   ·simp at this
   ·rfl
  omega
theorem Wcq : ∀ {ps : List (Nat × Nat)} {ss : List SpA} {k : Nat} {s s' : SpA}, ps.length = ss.length -> ss[k]? = some s -> s'.st = s.st -> entV ps (ss.set k s') = (entV ps ss).set (3 * k) (.int .i64 (s'.many : Int))
 | [], [], _, _, _, _, h, _ => by simp at h
 | [], _ :: _, _, _, _, h, _, _ => by simp at h
 | _ :: _, [], _, _, _, _, h, _ => by simp at h
 | x :: ps, t :: ss, 0, s, s', _, h, e => by simp at h; subst h; simp [entV, e]
 | x :: ps, t :: ss, k + 1, s, s', hl, h, e => by
  simp only [List.set_cons_succ, entV]
  rw [Wcq (ps := ps) (ss := ss) (s := s) (by simpa using hl) (by simpa using h) e]
  rw [show 3 * (k + 1) = 3 * k + 1 + 1 + 1 by omega]
  simp
theorem WcU {h : Hp} {b : Nat} {cs cs' : List Value} (h1 : Blk h b cs) (h2 : Blk h b cs') : cs = cs' := by
 obtain ⟨e, he⟩ := h1
 obtain ⟨e', he'⟩ := h2
 rw [he] at he'
 simp only [Option.some.injEq, Obj.cells.injEq] at he'
 simpa using congrArg Array.toList he'.1
theorem Zu {x : Nat × Nat} {i : Nat} (hx : ps[i]? = some x) : x.1 ∈ blks ps /\ x.2 ∈ blks ps :=
 ⟨VG.2 ⟨x, List.mem_of_getElem? hx, .inl rfl⟩, VG.2 ⟨x, List.mem_of_getElem? hx, .inr rfl⟩⟩
theorem Ga : ∀ {ps : List (Nat × Nat)}, (blks ps).Nodup -> ∀ {i j : Nat} {x y : Nat × Nat}, ps[i]? = some x -> ps[j]? = some y -> i ≠ j -> ∀ b, (b = x.1 ∨ b = x.2) -> ¬ (b = y.1 ∨ b = y.2)
 | [], _, _, _, _, _, h, _, _ => by simp at h
 | z :: ps, hn, i, j, x, y, h1, h2, hij => by
  have hn' : z.1 ∉ blks ps /\ z.2 ∉ blks ps /\ z.1 ≠ z.2 /\ (blks ps).Nodup := by
   simp only [blks, List.flatMap_cons, List.cons_append, List.nil_append, List.nodup_cons, List.mem_cons, not_or] at hn
   exact ⟨hn.1.2, hn.2.1, hn.1.1, hn.2.2⟩
  intro b hb hb'
  match i, j, hij with
  | 0, 0, h => exact h rfl
  | 0, j + 1, _ =>
   simp at h1; subst h1
   have := Zu (ps := ps) (i := j) (by simpa using h2)
   rcases hb with rfl | rfl <;> rcases hb' with e | e <;> rw [e] at hn' <;> simp [this] at hn'
  | i + 1, 0, _ =>
   simp at h2; subst h2
   have := Zu (ps := ps) (i := i) (by simpa using h1)
   rcases hb with rfl | rfl <;> rcases hb' with e | e <;> rw [← e] at hn' <;> simp [this] at hn'
  | i + 1, j + 1, h => exact Ga hn'.2.2.2 (by simpa using h1) (by simpa using h2) (by omega) b hb hb'
theorem CeH.turn (h : CeH U F p c ps ss) {k : Nat} {x : Nat × Nat} {s s' : SpA} (hx : ps[k]? = some x) (hs : ss[k]? = some s) (hst : s'.st = s.st) {σ1 : Hp} (e1 : Ext (fun b => b = x.1 ∨ b = x.2) U σ1) (hS : SpH σ1 x.1 x.2 c s')
 {sl : Sl} {rb : Nat} {cs : List Value} (hb : Blk U p [.int .i64 (c.size : Int), .int .i64 (c.pages : Int), .int .i64 (c.batch : Int), .slice sl.a sl.len sl.cap]) (E : EnR U F p ps ss sl rb cs)
 {K : Hp -> Prop} (hK : ∀ σ2, Ext F U σ2 -> CeH σ2 F p c ps (ss.set k s') -> K σ2) : St1 ⟨rb, 3 * k, none⟩ (.int .i64 (s'.many : Int)) σ1 K := by
 obtain ⟨sl', hb', hr⟩ := h.hd
 have hsl : sl' = sl := by
  have := WcU hb' hb
  simp at this
  obtain ⟨a, n, c⟩ := sl; obtain ⟨a', n', c'⟩ := sl'
  simp at this ⊢
  exact this
 subst hsl
 have hm := Zu hx
 have hnd := h.nd
 simp only [List.nodup_cons] at hnd
 have hki := (gSi.1 hs).1
 have hr1 := (RowR.loc sl' 3 (entV ps ss)).keep hr e1 fun b hb hf => fun hh => hf.2.2 (by rcases hh with rfl | rfl; exact hm.1; exact hm.2)
 have hb1 := e1.blk hb fun hh => hnd.1 (by rcases hh with h | h <;> rw [h]; exact hm.1; exact hm.2)
 refine hr1.st (j := 3 * k) (by rw [ZY h.len]; omega) (fun b hba => by rw [E.a] at hba; cases hba; rfl) fun σ2 e2 hr2 => ?_
 have e12 : Ext F U σ2 := (e1.sub fun i hi => h.fb i (by rcases hi with rfl | rfl; exact hm.1; exact hm.2)).trans (e2.sub fun i hi => hi.1)
 refine hK σ2 e12 ⟨⟨sl', e2.blk hb1 fun hh => hh.2.1 rfl, ?_⟩, fun i y t hy ht => ?_, h.fp, h.fb, h.nd, by simpa using h.len, h.ok, ?_⟩
 ·rw [Wcq h.len hs hst]; exact hr2
 ·have hmy := Zu hy
  have k2 : SpH σ1 y.1 y.2 c t := by
   by_cases hik : i = k
   ·subst hik
    rw [hx] at hy; cases hy
    rw [List.getElem?_set_self hki] at ht; cases ht
    exact hS
   ·rw [List.getElem?_set_ne (Ne.symm hik)] at ht
    have ap := Ga hnd.2 hy hx hik
    exact (h.sp i y t hy ht).keep e1 (ap _ (.inl rfl)) (ap _ (.inr rfl))
  exact k2.keep e2 (fun hh => hh.2.2 hmy.1) (fun hh => hh.2.2 hmy.2)
 ·have : (ss.set k s').map (·.st) = ss.map (·.st) := by
   apply List.ext_getElem?
   intro i
   simp only [List.getElem?_map]
   by_cases hik : i = k
   ·subst hik
    rw [List.getElem?_set_self hki, hs]; simp [hst]
   ·rw [List.getElem?_set_ne (Ne.symm hik)]
  have h2 := h.srt
  rw [← List.pairwise_map (f := SpA.st) (R := (· < ·))] at h2 ⊢
  rw [this]; exact h2
theorem Wih (h : CeH U F p c ps ss) {R : Int -> Bool -> Hp -> Prop} (h1 : ∀ x ss', oneS c ss = some (x, ss') -> ∀ σ', Ext F U σ' -> CeH σ' F p c ps ss' -> R (x : Int) true σ') (h0 : oneS c ss = none -> ∀ σ', Ext0 U σ' -> R 0 false σ') :
 YB.call (some ⟨p, 0, none⟩) U R := by
 refine YB.of_vc ?_
 unfold YB.vc
 obtain ⟨sl, hb, hl, hr⟩ := h.sl
 have hfew := h.few
 have hn := h.ok.n_le
 obtain ⟨rb, cs, E⟩ : ∃ rb cs, ss ≠ [] -> EnR U F p ps ss sl rb cs := by
  by_cases hne : ss = []
  ·exact ⟨0, [], fun h => absurd hne h⟩
  ·obtain ⟨rb, cs, E⟩ := hr hne
   exact ⟨rb, cs, fun _ => E⟩
 refine nilP (hb.rS rfl ?_)
 refine KA (a := .p) (bb := .i .i64) (fun (best : Option Addr) (t : Int) h' => ∃ i : Nat, t = (i : Int) /\ i <= ss.length /\ Ext0 U h' /\ best = (Za ss i).map fun k => ⟨rb, 3 * k, none⟩) (fun _ t _ => ss.length - t.toNat) ⟨0, rfl, by omega, Ext.refl _ _, rfl⟩ ?_
 rintro best t h' ⟨i, rfl, hi, e, rfl⟩
 refine ifD (fun hlt => ?_) fun hge => ?_
 ·simp only at hlt
  have hi' : i < ss.length := by omega
  have E := E (by rintro rfl; simp at hi')
  obtain ⟨xx, s, hp, hs, hS⟩ := h.at_i hi'
  have eg := Zx hp hs
  have hsl := hS.len
  refine nilP ((e.blk hb id).rS rfl ?_)
  rw [E.a]
  refine ix (by omega) (by omega) ?_
  rw [add_lit, show 0 + (i : Int).toNat * 3 = 3 * i by omega]
  have Eb := e.blk E.blk id
  have bf : Za ss (i + 1) = if s.many < s.tk.length then (match Za ss i with
   | some j => match ss[j]? with
    | some y => if H5 s y then some i else some j
    | none => some i
   | none => some i) else Za ss i := by
   simp only [Za, hs]
   rfl
  have J : ∀ (r : Bool) (v : Hp), Ext0 U v -> (if r then some i else Za ss i) = Za ss (i + 1) →
   If r (Ar .i64 ((i : Int) + 1) fun t50 => (∃ j : Nat, t50 = (j : Int) /\ j <= ss.length /\ Ext0 U v /\ some (⟨rb, 3 * i, none⟩ : Addr) = (Za ss j).map fun k => ⟨rb, 3 * k, none⟩) /\ ss.length - t50.toNat < ss.length - (i : Int).toNat)
    (Ar .i64 ((i : Int) + 1) fun t50 => (∃ j : Nat, t50 = (j : Int) /\ j <= ss.length /\ Ext0 U v /\ ((Za ss i).map fun k => (⟨rb, 3 * k, none⟩ : Addr)) = (Za ss j).map fun k => ⟨rb, 3 * k, none⟩) /\ ss.length - t50.toNat < ss.length - (i : Int).toNat) := by
   intro r v ev hr'
   cases r
   ·refine ifF rfl (arN (m := i + 1) (by omega) (by omega) ⟨⟨i + 1, rfl, by omega, ev, ?_⟩, by omega⟩)
    rw [← hr']; rfl
   ·refine ifT rfl (arN (m := i + 1) (by omega) (by omega) ⟨⟨i + 1, rfl, by omega, ev, ?_⟩, by omega⟩)
    rw [← hr']; rfl
  refine Jn.intro ⟨fun h'' => Blk h'' rb cs, Eb, nilP ⟨_, fun h'' hS => by rw [add_lit, add_lit, hS.cell]; exact E.get eg.1, nilP ⟨_, fun h'' hS => by rw [add_lit, hS.cell]; exact E.get eg.2.2, ?_⟩⟩⟩
  refine U7 (hS.keep0 e) ⟨Eb, ?_⟩
  refine ifD (fun hlt2 => ?_) fun hge2 => ?_
  ·have hm : s.many < s.tk.length := by omega
   rw [if_pos hm] at bf
   cases hbf : Za ss i with
   | none =>
    rw [hbf] at bf J
    exact ifT rfl (J true h' e bf.symm)
   | some j =>
    rw [hbf] at bf J
    obtain ⟨hji, y, hy, hym⟩ := Qi hbf
    simp only [hy] at bf
    have hpj : j < ps.length := by rw [h.len]; omega
    have egj := Zx (gGe hpj) hy
    have fin : Xa.call (s.many : Int) (s.st : Int) (y.many : Int) (y.st : Int) h' fun t46 v3 => Blk v3 rb cs ∧
     If t46 (Ar .i64 ((i : Int) + 1) fun t50 => (∃ j : Nat, t50 = (j : Int) /\ j <= ss.length /\ Ext0 U v3 /\ some (⟨rb, 3 * i, none⟩ : Addr) = (Za ss j).map fun k => ⟨rb, 3 * k, none⟩) /\ ss.length - t50.toNat < ss.length - (i : Int).toNat)
      (Ar .i64 ((i : Int) + 1) fun t50 => (∃ j' : Nat, t50 = (j' : Int) /\ j' <= ss.length /\ Ext0 U v3 /\ ((some j).map fun k => (⟨rb, 3 * k, none⟩ : Addr)) = (Za ss j').map fun k => ⟨rb, 3 * k, none⟩) /\ ss.length - t50.toNat < ss.length - (i : Int).toNat) := by
     refine Wei _ _ _ _ fun v3 e3 => ⟨e3.blk Eb id, J _ v3 (e.trans e3) ?_⟩
     rw [bf]; rfl
    refine ifF rfl (nilP (nilP ⟨?_, ?_⟩))
    ·exact Eb.rI2 (E.get eg.1) (Eb.rI2 (E.get eg.2.1) ⟨Eb, Eb.rI2 (E.get egj.1) (Eb.rI2 (E.get egj.2.1) ⟨Eb, fin⟩)⟩)
    ·exact Eb.rI2 (E.get egj.1) (Eb.rI2 (E.get egj.2.1) ⟨Eb, Eb.rI2 (E.get eg.1) (Eb.rI2 (E.get eg.2.1) ⟨Eb, fin⟩)⟩)
  ·have hm : ¬ s.many < s.tk.length := by omega
   rw [if_neg hm] at bf
   exact J false h' e bf.symm
 ·have hii : i = ss.length := by simp only at hge; omega
  subst hii
  cases hbf : Za ss ss.length with
  | none =>
   refine ifT rfl (h0 ?_ _ e)
   simp [oneS, best, hbf]
  | some k =>
   obtain ⟨hk, s, hs, hsm⟩ := Qi hbf
   have E := E (by rintro rfl; simp at hk)
   obtain ⟨xx, s', hp, hs', hS⟩ := h.at_i hk
   rw [hs] at hs'; cases hs'
   have eg := Zx hp hs
   obtain ⟨r, hlow, hr1, hr2⟩ := Gx hsm
   have h' := h.keep0 e
   have one : oneS c ss = some (at_ c s r, ss.set k (s.put r true)) := by simp [oneS, best, hbf, hs, hlow]
   have E' : EnR _ F p ps ss sl rb cs := ⟨E.a, e.blk E.blk id, E.fr, E.get, E.lenC⟩
   refine ifF rfl (nilP (E'.blk.rP (x := some ⟨xx.1, 0, none⟩) (E.get eg.2.2) ?_))
   refine Wgd (hS.keep0 e) hlow fun v5 e5 hS5 => nilP ?_
   have hmx := Zu hp
   have nrb : ¬ (rb = xx.1 ∨ rb = xx.2) := fun hh => E.fr.2.2 (by rcases hh with h | h <;> rw [h]; exact hmx.1; exact hmx.2)
   have hml := UH s
   have hmany := UG hr1 true
   rw [hr2] at hmany
   have hmany' : (s.put r true).many = s.many + 1 := by simp at hmany; omega
   have hsl := hS.len
   refine (e5.blk E'.blk nrb).rI2 (E.get eg.1) (arN (m := s.many + 1) (by omega) (by omega) (nilP ?_))
   rw [add_lit, add_lit, Nat.add_zero, Nat.add_zero, ← hmany']
   exact h'.turn (s' := s.put r true) hp hs rfl e5 hS5 (e.blk hb id) E' fun v6 e6 h6 => h1 _ _ one v6 (e.to.trans e6) h6
theorem WdL {k : Nat} {s s' : SpA} (hs : ss[k]? = some s) : Qs (ss.set k s') + (s.tk.length - s.many) = Qs ss + (s'.tk.length - s'.many) := by
 unfold Qs
 induction ss generalizing k with
 | nil => simp at hs
 | cons x ss ih =>
  cases k with
  | zero => simp at hs; subst hs; simp; omega
  | succ k =>
   have := ih (by simpa using hs)
   simp only [List.set_cons_succ, List.map_cons, List.sum_cons]
   omega
theorem Wez {x : Nat} {ss' : List SpA} (h : oneS c ss = some (x, ss')) : Qs ss' + 1 = Qs ss := by
 unfold oneS at h
 split at h
 ·rename_i k hk
  obtain ⟨_, s, hs, hsm⟩ := Qi hk
  rw [hs] at h
  simp only at h
  split at h
  ·rename_i i hi
   cases h
   obtain ⟨r, hr, hrl, hri⟩ := Gx hsm
   rw [hi] at hr; cases hr
   have h1 := WdL (s' := s.put i true) hs
   have h2 := UG hrl true
   rw [hri] at h2
   have h3 : (s.put i true).tk.length = s.tk.length := by simp [SpA.put]
   simp at h2
   omega
  ·cases h
 ·cases h
theorem CeH.room (h : CeH U F p c ps ss) : Qs ss <= 131072 := by
 have key : ∀ l : List SpA, (∀ s ∈ l, s.tk.length <= 128) -> Qs l <= 128 * l.length := by
  intro l
  induction l with
  | nil => intro _; simp [Qs]
  | cons x l ih =>
   intro hl
   have h1 := hl x (by simp)
   have h2 := ih fun s hs => hl s (by simp [hs])
   simp only [Qs, List.map_cons, List.sum_cons, List.length_cons] at *
   omega
 have := key ss fun s hs => by
  obtain ⟨i, hi⟩ := List.getElem?_of_mem hs
  have hil := (gSi.1 hi).1
  obtain ⟨x, s', _, hs', hS⟩ := h.at_i hil
  rw [hi] at hs'; cases hs'
  rw [hS.len]; exact h.ok.n_le
 have := h.few
 omega
theorem HU {m : Nat} {x : Nat} {ss' : List SpA} (h : oneS c ss = some (x, ss')) : Z7 c (m + 1) ss = (x :: (Z7 c m ss').1, (Z7 c m ss').2) := by
 simp [Z7, h]
theorem WfC (h : CeH U F p c ps ss) (m : Int) (hm : 0 <= m) {R : Sl -> Int -> Hp -> Prop}
 (hR : ∀ s σ', Ext F U σ' -> RowR s 1 (ints (Z7 c m.toNat ss).1) σ' (fun b => U.size <= b) -> CeH σ' (Cut F U) p c ps (Z7 c m.toNat ss).2 -> R s 0 σ') : Xf.call (some ⟨p, 0, none⟩) m U R := by
 refine Xf.of_vc ?_
 unfold Xf.vc
 have h := CeH.loc.cut h
 have hroom := CeH.room h
 refine Qy h (ifF rfl (ifDF (by omega) ?_))
 refine YX (a := .s) (fun (out : Sl) h' => ∃ xs ss', Ext F U h' /\ RowR out 1 (ints xs) h' (fun b => U.size <= b) /\ CeH h' (Cut F U) p c ps ss' /\ xs.length <= m.toNat /\ xs.length + Qs ss' = Qs ss /\ Z7 c m.toNat ss = (xs ++ (Z7 c (m.toNat - xs.length) ss').1, (Z7 c (m.toNat - xs.length) ss').2))
  (fun out _ => m.toNat - out.len) ⟨[], ss, Ext.refl _ _, RowR.nil _ _ _ _, h, by simp, by simp, by simp⟩ ?_
 rintro out h' ⟨xs, ss', e, hrow, hC, hle, hrm, htk⟩
 have hlen := hrow.lenN
 refine ifD (fun hlt => ?_) fun hge => ?_
 ·have hsucc : m.toNat - xs.length = (m.toNat - (xs.length + 1)) + 1 := by omega
  refine Wih hC (fun x ss2 hone v2 e2 hC2 => ifF rfl ?_) fun hnone v2 e2 => ifT rfl ?_
  ·have e02 : Ext F U v2 := e.trans (e2.sub fun i hi => hi.1)
   have hrow2 := (RowR.loc _ _ _).keep hrow e2 fun b _ hb hc => by have := hc.2; omega
   refine hrow2.push (vs := [.int .i64 (x : Int)]) (fun b hb => Nat.le_trans e02.1 hb) rfl rfl (by simp [one1]) (by omega) (by omega) fun s' v4 hl' e' ho' => ?_
   have hr2 := Wez hone
   refine ⟨⟨xs ++ [x], ss2, e02.newT e' fun i hi => .inr hi, by rw [QR]; exact ho', CeH.loc.keep hC2 e' fun b _ hb hc => (by have := hb.2; omega), by simp; omega, by simp; omega, ?_⟩, by omega⟩
   rw [htk, hsucc, HU hone]
   simp
  ·have : Z7 c (m.toNat - xs.length) ss' = ([], ss') := by rw [hsucc]; simp [Z7, hnone]
   rw [this] at htk
   have hr := hR out v2 (e.trans e2.to)
   rw [htk, List.append_nil] at hr
   exact hr ((RowR.loc _ _ _).keep0 hrow e2) (hC.keep0 e2)
 ·have hz : m.toNat - xs.length = 0 := by omega
  rw [hz] at htk
  have hr := hR out h' e
  rw [htk] at hr
  simp only [Z7, List.append_nil] at hr
  exact hr hrow hC
theorem WdR (h : CeH U F p c ps ss) (m : Int) (hm : m < 0) {R : Sl -> Int -> Hp -> Prop} (hR : R ⟨none, 0, 0⟩ 1 U) : Xf.call (some ⟨p, 0, none⟩) m U R := by
 refine Xf.of_vc ?_
 unfold Xf.vc
 exact Qy h (ifF rfl (ifDT (by omega) hR))
end Go.Ar
namespace Go.Ar
open Go Go.Vc Go.Proofs


variable {U : Hp} {F : Rg} {p : Nat} {c : Cls} {ps : List (Nat × Nat)} {ss : List SpA}
def kps : List (Nat × Nat) -> List SpA -> List (Nat × Nat)
 | x :: ps, s :: ss => if s.many != 0 then x :: kps ps ss else kps ps ss
 | _, _ => []
theorem Uf : ∀ {ps : List (Nat × Nat)} {ss : List SpA}, ps.length = ss.length -> (kps ps ss).length = (sweep ss).length
 | [], [], _ => rfl
 | x :: ps, s :: ss, h => by
  have ih := Uf (ps := ps) (ss := ss) (by simpa using h)
  simp only [kps, sweep, List.filter_cons] at *
  split <;> simp [ih]
theorem Wa5 : ∀ {ps : List (Nat × Nat)} {ss : List SpA}, (kps ps ss).Sublist ps
 | [], _ => by simp [kps]
 | _ :: _, [] => by simp [kps]
 | x :: ps, s :: ss => by
  simp only [kps]
  split
  ·exact Wa5.cons_cons x
  ·exact Wa5.cons x
theorem HL : ∀ {ps ps' : List (Nat × Nat)} {ss ss' : List SpA}, ps.length = ss.length -> kps (ps ++ ps') (ss ++ ss') = kps ps ss ++ kps ps' ss'
 | [], _, [], _, _ => rfl
 | x :: ps, _, s :: ss, _, h => by
  simp only [List.cons_append, kps, HL (ps := ps) (ss := ss) (by simpa using h)]
  split <;> rfl
theorem Wdk : ∀ {ps : List (Nat × Nat)} {ss : List SpA} {i : Nat} {x : Nat × Nat} {s : SpA}, ps.length = ss.length -> (kps ps ss)[i]? = some x -> (sweep ss)[i]? = some s -> ∃ j : Nat, ps[j]? = some x /\ ss[j]? = some s
 | [], [], _, _, _, _, h, _ => by simp [kps] at h
 | y :: ps, t :: ss, i, x, s, hl, h1, h2 => by
  have ih := fun i => Wdk (ps := ps) (ss := ss) (i := i) (x := x) (s := s) (by simpa using hl)
  simp only [kps, sweep, List.filter_cons] at h1 h2
  cases hm : (t.many != 0)
  ·rw [hm] at h1 h2
   obtain ⟨j, h3, h4⟩ := ih i h1 h2
   exact ⟨j + 1, by simpa using h3, by simpa using h4⟩
  ·rw [hm] at h1 h2
   cases i with
   | zero => simp at h1 h2; exact ⟨0, by simp [h1], by simp [h2]⟩
   | succ i =>
    obtain ⟨j, h3, h4⟩ := ih i (by simpa using h1) (by simpa [sweep] using h2)
    exact ⟨j + 1, by simpa using h3, by simpa using h4⟩
theorem WaT (a b : List SpA) : sweep (a ++ b) = sweep a ++ sweep b := by simp [sweep]
theorem G9 (a b : List SpA) : Zn (a ++ b) = Zn a ++ Zn b := by simp [Zn]
theorem Wa4 (c : Cls) (a b : List Nat) : runV c (a ++ b) = runV c a ++ runV c b := by simp [runV]
theorem Wat {a b : List (Nat × Nat)} (h : a.Sublist b) : (blks a).Sublist (blks b) := by
 induction h with
 | slnil => exact List.Sublist.refl _
 | cons x _ ih => exact (ih.cons _).cons _
 | cons_cons x _ ih => exact (ih.cons_cons _).cons_cons _
theorem Was {h : Hp} {Q : Rg} {n3 : Nat} {o : Sl} {l : List Nat} {x1 x2 : Nat} {s : SpA} (hb : Blk h n3 [.slice o.a o.len o.cap]) (hrow : RowR o 2 (runV c l) h Q) (hQ : ∀ b, Q b -> n3 < b) (hl : l.length <= 2000) (hS : SpH h x1 x2 c s) {R : Bool -> Hp -> Prop}
 (hR : ∀ h' o', Ext (fun b => b = n3 ∨ Q b) h h' -> Blk h' n3 [.slice (Sl.a o') o'.len o'.cap] -> RowR o' 2 (runV c (l ++ if s.many = 0 then [s.st] else [])) h' (Grow Q h) -> R (s.many == 0) h') :
 Vv Tryz.prog ⟨147, #[], #[.pointer (some ⟨n3, 0, none⟩)]⟩ [.agg #[.int .i64 (s.many : Int), .int .i64 (s.st : Int), .pointer (some ⟨x1, 0, none⟩)]] [.one .b] h R := by
 refine WaO (all := #[.agg #[.int .i64 (s.many : Int), .int .i64 (s.st : Int), .pointer (some ⟨x1, 0, none⟩)], .pointer (some ⟨n3, 0, none⟩)]) (by kernel_rfl) (by simp) ?_
 refine X2.of_vc ?_
 unfold X2.vc
 refine nw (cs := [.int .i64 (s.many : Int), .int .i64 (s.st : Int), .pointer (some ⟨x1, 0, none⟩)]) fun v hz e hb1 => ?_
 have hn3 := hb.lt
 have hbv := e.blk hb id
 have hrow := (RowR.loc o 2 (runV c l)).mono hrow (G := fun b => Q b /\ b < h.size) fun b hb hf => ⟨hf, hb⟩
 refine Jn.intro (hb1.rI2 rfl ?_)
 rw [Wbj]
 refine iff_ (fun hm => ?_) fun hm => ?_
 ·have hm' : s.many = 0 := by simpa using hm
  rw [if_pos hm'] at hR
  refine ⟨fun h' => Blk h' h.size [.int .i64 (s.many : Int), .int .i64 (s.st : Int), .pointer (some ⟨x1, 0, none⟩)] /\ Blk h' n3 [.slice o.a o.len o.cap], ⟨hb1, hbv⟩, ⟨o, fun h' hS => by rw [hS.2.cell]; rfl, ⟨some ⟨x1, 0, none⟩, fun h' hS => by rw [add_lit, hS.1.cell]; rfl, ?_⟩⟩⟩
  refine WgT (hS.keep0 e) fun v2 e2 => ⟨⟨e2.blk hb1 id, e2.blk hbv id⟩, ?_⟩
  have e02 := e.trans e2
  have hrow2 := (RowR.loc _ _ _).keep0 hrow e02
  have hlen := hrow2.1
  rw [GY] at hlen
  refine nw (cs := [.int .i64 (s.st : Int), .int .i64 (c.pages : Int)]) fun v3 hz3 e3 hb3 => ⟨⟨(e2.trans e3).blk hb1 id, (e2.trans e3).blk hbv id⟩, ?_⟩
  have hrow3 := (RowR.loc _ _ _).keep0 hrow2 e3
  have hs2 := e02.1
  refine hrow3.app (ys := [.int .i64 (s.st : Int), .int .i64 (c.pages : Int)]) rfl rfl ?_ (by simp [one1]) ?_ ?_ Nat.zero_lt_one fun s' v4 hl' e4 ho' => ?_
  ·intro j u hu
   rw [add_lit, Nat.zero_add, hb3.cell]; exact hu
  ·simp only; have : (o.len + 1) * 16 <= 2001 * 16 := Nat.mul_le_mul (by omega) (by omega); omega
  ·simp only; omega
  ·have b1 : Blk v4 h.size [.int .i64 (s.many : Int), .int .i64 (s.st : Int), .pointer (some ⟨x1, 0, none⟩)] := e4.blk ((e2.trans e3).blk hb1 id) fun hh => by have := hh.2; omega
   have b2 : Blk v4 n3 [.slice o.a o.len o.cap] := e4.blk ((e2.trans e3).blk hbv id) fun hh => by have := hQ _ hh.1; omega
   refine ⟨⟨b1, b2⟩, b2.s0 (by simp) fun v5 o5 b5 => (Xc o5 b1 (by omega)).rI2 rfl ?_⟩
   have e05 : Ext (fun b => b = n3 ∨ Q b) h v5 := (Ext0.to ((e.trans e2).trans e3)).trans (e4.sub fun i hi => .inr hi.1)|>.trans (o5.ext.sub fun i hi => .inl hi)
   rw [Wbj]
   refine hR v5 s' e05 b5 ?_
   rw [Wa4]
   have : runV c [s.st] = [.int .i64 (s.st : Int), .int .i64 (c.pages : Int)] := rfl
   rw [this]
   have k1 := (RowR.loc _ _ _).mono ho' (G := Grow Q h) fun b _ hg => by
    rcases hg with h | h
    ·exact .inl h.1
    ·exact .inr (by omega)
   exact (RowR.loc _ _ _).keep k1 o5.ext fun b _ hf he => by
    rcases hf with h | h
    ·have := hQ _ h; omega
    ·omega
 ·have hm' : ¬ s.many = 0 := by simpa using hm
  rw [if_neg hm', List.append_nil] at hR
  refine hb1.rI2 rfl ?_
  rw [Wbj]
  exact hR v o e.to hbv ((RowR.loc _ _ _).keep0 ((RowR.loc _ _ _).mono hrow fun b _ hf => .inl hf.1) e)
def WfL (n3 : Nat) (c : Cls) (l : List Nat) (h : Hp) : Prop := ∃ o : Sl, Blk h n3 [.slice o.a o.len o.cap] /\ RowR o 2 (runV c l) h (fun b => n3 < b)
theorem set3 {A D : List Value} {x y z : Value} {k : Nat} (hk : k = A.length) (hD : 3 <= D.length) : (((A ++ D).set k x).set (k + 1) y).set (k + 2) z = A ++ [x, y, z] ++ D.drop 3 := by
 subst hk
 match D, hD with
 | d0 :: d1 :: d2 :: D, _ => simp [List.set_append]
theorem Ud {i : Nat} {s : SpA} (hs : ss[i]? = some s) : Zn (ss.take (i + 1)) = Zn (ss.take i) ++ (if s.many = 0 then [s.st] else []) := by
 rw [List.take_add_one, hs, G9]
 congr 1
 by_cases hm : s.many = 0 <;> simp [Zn, hm]
theorem Uk {i : Nat} {s : SpA} (hs : ss[i]? = some s) : sweep (ss.take (i + 1)) = sweep (ss.take i) ++ (if s.many = 0 then [] else [s]) := by
 rw [List.take_add_one, hs, WaT]
 congr 1
 by_cases hm : s.many = 0 <;> simp [sweep, hm]
theorem GR {i : Nat} {x : Nat × Nat} {s : SpA} (hl : ps.length = ss.length) (hx : ps[i]? = some x) (hs : ss[i]? = some s) : kps (ps.take (i + 1)) (ss.take (i + 1)) = kps (ps.take i) (ss.take i) ++ (if s.many = 0 then [] else [x]) := by
 rw [List.take_add_one, List.take_add_one, hs, hx, HL (by simp [hl])]
 congr 1
 by_cases hm : s.many = 0 <;> simp [kps, hm]
theorem WdF (l : List SpA) : (Zn l).length <= l.length := by unfold Zn; rw [List.length_map]; exact List.length_filter_le _ _
theorem We2 (l : List SpA) : (sweep l).length <= l.length := List.length_filter_le _ _
theorem Wet (h : CeH U F p c ps ss) {sl : Sl} {rb n3 : Nat} {cs : List Value} {σ1 : Hp} (e1 : Ext0 U σ1) (hlen : sl.len = ss.length) (hn3 : U.size <= n3) (hE : ss ≠ [] -> EnR U F p ps ss sl rb cs /\ sl.len <= sl.cap /\ cs.length = sl.cap * 3) (h0 : WfL n3 c [] σ1) {R : Sl -> Hp -> Prop}
 (hR : ∀ h' sl', Ext (fun b => F b /\ b ≠ p /\ b ∉ blks ps ∨ n3 <= b) σ1 h' -> WfL n3 c (Zn ss) h' -> (sl' = sl /\ Zn ss = [] /\ sweep ss = ss /\ kps ps ss = ps /\ Ext (fun b => n3 <= b) σ1 h' ∨ (RowR sl' 3 (entV (kps ps ss) (sweep ss)) h' (fun b => F b /\ b ≠ p /\ b ∉ blks ps))) -> R sl' h') :
 We.call sl ⟨147, #[], #[.pointer (some ⟨n3, 0, none⟩)]⟩ σ1 R := by
 refine We.of_vc ?_
 unfold We.vc
 refine Wh.of_vc ?_
 unfold Wh.vc
 have hfew := h.few
 have hpl := h.len
 refine YX (a := .i .i64) (fun (t : Int) h' => ∃ i : Nat, t = (i : Int) /\ i <= ss.length /\ Ext (fun b => n3 <= b) σ1 h' /\ WfL n3 c [] h' /\ Zn (ss.take i) = [] /\ sweep (ss.take i) = ss.take i /\ kps (ps.take i) (ss.take i) = ps.take i) (fun t _ => ss.length - t.toNat) ⟨0, rfl, by omega, Ext.refl _ _, h0, by simp [Zn], by simp [sweep], by simp [kps]⟩ ?_
 rintro t h' ⟨i, rfl, hi, e, ⟨o, hbo, hro⟩, q1, q2, q3⟩
 have eo : ∀ {v : Hp}, Ext (fun b => n3 <= b) σ1 v -> Ext (fun b => n3 <= b) U v := fun e => e1.to.trans e
 refine ifD (fun hlt => ?_) fun hge => ?_
 ·have hi' : i < ss.length := by omega
  obtain ⟨E, hcap, hcl⟩ := hE (by rintro rfl; simp at hi')
  obtain ⟨xx, s, hp, hs, hS⟩ := h.at_i hi'
  have eg := Zx hp hs
  have hrl := E.blk.lt
  have hSl := hS.lt
  rw [E.a]
  refine ix (by omega) (by omega) ?_
  rw [add_lit, show 0 + (i : Int).toNat * 3 = 3 * i by omega]
  refine Us (e := 0) ((eo e).blk E.blk (by omega)) (E.get eg.1) (E.get eg.2.1) (E.get eg.2.2) ?_
  have hn3h : n3 < h'.size := hbo.lt
  refine Was hbo hro (fun b h => h) (by simp) (hS.keep (eo e) (by omega) (by omega)) fun h2 o2 e2 hb2 hr2 => ?_
  have e2 : Ext (fun b => n3 <= b) h' h2 := e2.sub fun b hb => by omega
  have hr2 := (RowR.loc _ _ _).mono hr2 (G := fun b => n3 < b) fun b _ hb => by
   rcases hb with h | h
   ·exact h
   ·omega
  refine iff_ (fun hm => ?_) fun hm => ?_
  ·-- the first that goes
   have hm' : s.many = 0 := by simpa using hm
   rw [if_pos hm', List.nil_append] at hr2
   have hne1 : ((i : Int) == (-1)) = false := by rw [beq_eq_false_iff_ne]; omega
   show If ((i : Int) == (-1)) _ _
   refine ifF hne1 (arN (m := i + 1) (by omega) (by omega) ?_)
   have q1' : Zn (ss.take (i + 1)) = [s.st] := by rw [Ud hs, q1, if_pos hm']; rfl
   have q2' : sweep (ss.take (i + 1)) = ss.take i := by rw [Uk hs, q2, if_pos hm', List.append_nil]
   have q3' : kps (ps.take (i + 1)) (ss.take (i + 1)) = ps.take i := by rw [GR hpl hp hs, q3, if_pos hm', List.append_nil]
   have hke : ∀ k, k <= ss.length -> (entV (kps (ps.take k) (ss.take k)) (sweep (ss.take k))).length = 3 * (sweep (ss.take k)).length := fun k _ => ZY (Uf (by simp [hpl]))
   have Eb2 : Blk h2 rb cs := (eo (e.trans e2)).blk E.blk (by omega)
   refine KA (a := .i .i64) (bb := .i .i64) (fun (i1 j1 : Int) v => ∃ j : Nat, j1 = (j : Int) /\ i < j /\ j <= ss.length /\ i1 = ((sweep (ss.take j)).length : Int) /\ (sweep (ss.take j)).length < j /\ Ext (fun b => b = rb ∨ n3 <= b) σ1 v /\ WfL n3 c (Zn (ss.take j)) v ∧
    Blk v rb (entV (kps (ps.take j) (ss.take j)) (sweep (ss.take j)) ++ cs.drop (3 * (sweep (ss.take j)).length))) (fun _ j1 _ => ss.length - j1.toNat) ?_ ?_
   ·refine ⟨i + 1, rfl, by omega, by omega, ?_, ?_, (e.trans e2).sub fun b hb => .inr hb, ?_, ?_⟩
    ·rw [q2', List.length_take]; omega
    ·rw [q2', List.length_take]; omega
    ·rw [q1']; exact ⟨o2, hb2, hr2⟩
    ·rw [q2', q3', List.length_take, Nat.min_eq_left (by omega)]
     have : entV (ps.take i) (ss.take i) ++ cs.drop (3 * i) = cs := by
      have h1 : (entV (ps.take i) (ss.take i)).length = 3 * i := by rw [ZY (by simp [hpl]), List.length_take]; omega
      apply List.ext_getElem?
      intro k
      rcases Nat.lt_or_ge k (3 * i) with hk | hk
      ·rw [List.getElem?_append_left (by omega)]
       have h2 : (entV ps ss)[k]? = (entV (ps.take i) (ss.take i))[k]? := by
        conv => lhs; rw [← List.take_append_drop i ps, ← List.take_append_drop i ss, Qr (by simp [hpl])]
        rw [List.getElem?_append_left (by omega)]
       rw [← h2]
       have h3 : k < (entV ps ss).length := by rw [ZY hpl]; omega
       rw [gGe h3]
       exact (E.get (gGe h3)).symm
      ·rw [List.getElem?_append_right (by omega), List.getElem?_drop, h1]
       congr 1; omega
     rw [this]; exact Eb2
   ·rintro i1 j1 v ⟨j, rfl, hij, hj, rfl, hKj, ev, ⟨o3, hbo3, hro3⟩, hrow⟩
    have hK1 := hke j hj
    have evo : Ext (fun b => b = rb ∨ n3 <= b) U v := e1.to.trans ev
    refine ifD (fun hlt2 => ?_) fun hge2 => ?_
    ·have hj' : j < ss.length := by omega
     obtain ⟨yy, u, hpy, hsu, hSu⟩ := h.at_i hj'
     have egu := Zx hpy hsu
     have hSul := hSu.lt
     have hm1 := Zu hpy
     refine ix (by omega) (by omega) ?_
     rw [add_lit, show 0 + (j : Int).toNat * 3 = 3 * j by omega]
     have get : ∀ d, d < 3 -> ∀ w, (entV ps ss)[3 * j + d]? = some w -> (entV (kps (ps.take j) (ss.take j)) (sweep (ss.take j)) ++ cs.drop (3 * (sweep (ss.take j)).length))[3 * j + d]? = some w := by
      intro d hd w hw
      rw [List.getElem?_append_right (by omega), List.getElem?_drop, hK1, show 3 * (sweep (ss.take j)).length + (3 * j + d - 3 * (sweep (ss.take j)).length) = 3 * j + d by omega]
      exact E.get hw
     refine Us (e := 0) hrow (get 0 (by omega) _ egu.1) (get 1 (by omega) _ egu.2.1) (get 2 (by omega) _ egu.2.2) (G6 fun v5 e5 b5 => b5.rI rfl (b5.rI rfl (b5.rP rfl ?_)))
     have hn3v : n3 < v.size := hbo3.lt
     have hcut := (RowR.loc _ _ _).mono hro3 (G := fun b => n3 < b /\ b < v.size) fun b hb hf => ⟨hf, hb⟩
     have hswl := WdF (ss.take j)
     rw [List.length_take] at hswl
     refine Was (e5.blk hbo3 id) ((RowR.loc _ _ _).keep0 hcut e5) (fun b hb => hb.1) (by omega) ((hSu.keep evo (fun hh => by rcases hh with h | h; exact E.fr.2.2 (h ▸ hm1.1); omega) (fun hh => by rcases hh with h | h; exact E.fr.2.2 (h ▸ hm1.2); omega)).keep0 e5) fun v6 o6 e6 hb6 hr6 => ?_
     have hsz5 := e5.1
     have hr6 := (RowR.loc _ _ _).mono hr6 (G := fun b => n3 < b) fun b _ hb => by
      rcases hb with h | h
      ·exact h.1
      ·omega
     have b6 : Blk v6 v.size [.int .i64 (u.many : Int), .int .i64 (u.st : Int), .pointer (some ⟨yy.1, 0, none⟩)] := e6.blk b5 fun hh => by rcases hh with h | h; omega; have := h.2; omega
     have hrb : rb < U.size := E.blk.lt
     have row6 := e6.blk (e5.blk hrow id) fun hh => by rcases hh with h | h; omega; have := h.1; omega
     have ev6 : Ext (fun b => b = rb ∨ n3 <= b) σ1 v6 := (ev.trans e5.to).trans (e6.sub fun b hb => by rcases hb with h | h; omega; have := h.1; omega)
     rw [← Ud hsu] at hr6
     have st := Uk hsu
     have kt := GR hpl hpy hsu
     by_cases hum : u.many = 0
     ·rw [if_pos hum, List.append_nil] at st kt
      have : (u.many == 0) = true := by simp [hum]
      rw [this]
      refine ifF rfl (arN (m := j + 1) (by omega) (by omega) ⟨⟨j + 1, rfl, by omega, by omega, ?_, ?_, ev6, ⟨o6, hb6, hr6⟩, ?_⟩, by omega⟩)
      ·rw [st]
      ·rw [st]; omega
      ·rw [st, kt]; exact row6
     ·rw [if_neg hum] at st kt
      have : (u.many == 0) = false := by simp [hum]
      rw [this]
      refine ifT rfl (b6.rI rfl (b6.rI rfl (b6.rP rfl (ix (by omega) (by omega) ?_))))
      rw [add_lit, show 0 + ((sweep (ss.take j)).length : Int).toNat * 3 = 3 * (sweep (ss.take j)).length by omega]
      have hlen6 : (entV (kps (ps.take j) (ss.take j)) (sweep (ss.take j)) ++ cs.drop (3 * (sweep (ss.take j)).length)).length = cs.length := by
       rw [List.length_append, hK1, List.length_drop]; omega
      refine row6.s1 (by omega) fun v7 o7 b7 => b7.s1 (by simp; omega) fun v8 o8 b8 => b8.s1 (by simp; omega) fun v9 o9 b9 => ?_
      rw [Nat.add_zero, set3 hK1.symm (by rw [List.length_drop]; omega), List.drop_drop] at b9
      have ev9 : Ext (fun b => b = rb ∨ n3 <= b) σ1 v9 := ((ev6.trans (o7.ext.sub fun b hb => .inl hb)).trans (o8.ext.sub fun b hb => .inl hb)).trans (o9.ext.sub fun b hb => .inl hb)
      have e69 : Ext (· = rb) v6 v9 := (o7.ext.trans o8.ext).trans o9.ext
      refine arN (m := (sweep (ss.take j)).length + 1) (by omega) (by omega) (arN (m := j + 1) (by omega) (by omega) ⟨⟨j + 1, rfl, by omega, by omega, ?_, ?_, ev9, ⟨o6, e69.blk hb6 (by omega), (RowR.loc _ _ _).keep hr6 e69 fun b _ hb he => by omega⟩, ?_⟩, by omega⟩)
      ·rw [st]; simp
      ·rw [st]; simp; omega
      ·rw [st, kt, Qr (Uf (by simp [hpl]))]
       simp only [List.length_append, List.length_cons, List.length_nil, entV]
       rw [show 3 * ((sweep (ss.take j)).length + (0 + 1)) = 3 * (sweep (ss.take j)).length + 3 by omega]
       exact b9
    ·have hjj : j = ss.length := by omega
     subst hjj
     rw [List.take_length] at *
     have htl : ps.take ss.length = ps := by rw [← hpl, List.take_length]
     rw [htl] at hrow hK1
     have hswl := We2 ss
     refine slc (by omega) (by omega) (by omega) ?_
     have hK3 : 3 * (sweep ss).length <= cs.length := by omega
     have hlt3 : (sweep ss).length < ss.length := hKj
     rw [if_neg (by omega)]
     simp only [E.a, Option.map_some, add_lit, Nat.zero_add]
     refine ⟨by simp [one1], ?_⟩
     simp only
     have hz : (List.replicate (sl.len - (sweep ss).length) [Value.int .i64 0, .int .i64 0, .pointer none]).flatten.length = 3 * (sl.len - (sweep ss).length) := by
      rw [List.length_flatten, List.map_replicate, List.sum_replicate_nat]; simp; omega
     refine KC (o := (sweep ss).length * 3) (i := 0) hrow (by rw [hz, List.length_append, hK1, List.length_drop]; omega) fun v10 o10 b10 => ?_
     refine slc (lo := 0) (by omega) (by omega) (by omega) ?_
     have ev10 : Ext (fun b => b = rb ∨ n3 <= b) σ1 v10 := ev.trans (o10.ext.sub fun b hb => .inl hb)
     refine hR v10 _ (ev10.sub fun b hb => ?_) ⟨o3, Xc o10 hbo3 (by have := E.blk.lt; omega), (RowR.loc _ _ _).keep hro3 o10.ext fun b _ hb he => by have := E.blk.lt; omega⟩ (.inr ?_)
     ·rcases hb with rfl | h
      ·exact .inl E.fr
      ·exact .inr h
     ·refine ⟨by rw [ZY (Uf hpl)]; simp; omega, .inr ⟨rb, _, E.fr, ?_, b10, ?_, ?_, ?_⟩⟩
      ·simp only [E.a]
       split <;> simp [add_lit]
      ·simp only; omega
      ·simp only [List.length_append, List.length_take, List.length_drop, hz, hK1]; omega
      ·rw [ZY (Uf hpl), Nat.add_zero, show (sweep ss).length * 3 = 3 * (sweep ss).length by omega]
       rw [List.append_assoc, List.take_append_of_le_length (by rw [List.length_take, List.length_append, hK1]; omega), List.take_take, Nat.min_self]
       rw [List.take_append_of_le_length (by omega), List.take_of_length_le (by omega)]
  ·have hm' : ¬ s.many = 0 := by simpa using hm
   rw [if_neg hm', List.append_nil] at hr2
   refine arN (m := i + 1) (by omega) (by omega) ⟨⟨i + 1, rfl, by omega, e.trans e2, ⟨o2, hb2, hr2⟩, ?_, ?_, ?_⟩, by omega⟩
   ·rw [Ud hs, q1, if_neg hm']; rfl
   ·rw [Uk hs, q2, if_neg hm', List.take_add_one, hs]; rfl
   ·rw [GR hpl hp hs, q3, if_neg hm', List.take_add_one, hp]; rfl
 ·have hii : i = ss.length := by omega
  subst hii
  rw [List.take_length] at *
  have htl : ps.take ss.length = ps := by rw [← hpl, List.take_length]
  rw [htl] at q3
  have hne1 : ((-1 : Int) == (-1)) = true := rfl
  refine ifT hne1 (hR h' sl (e.sub fun b hb => .inr hb) ?_ (.inl ⟨rfl, q1, q2, q3, e⟩))
  rw [q1]; exact ⟨o, hbo, hro⟩
end Go.Ar
namespace Go.Ar
open Go Go.Vc Go.Proofs


variable {U : Hp} {F : Rg} {p : Nat} {c : Cls} {ps : List (Nat × Nat)} {ss : List SpA}
theorem CeH.sl' (h : CeH U F p c ps ss) : ∃ sl : Sl, Blk U p [.int .i64 (c.size : Int), .int .i64 (c.pages : Int), .int .i64 (c.batch : Int), .slice sl.a sl.len sl.cap] /\ sl.len = ss.length /\ RowR sl 3 (entV ps ss) U (fun b => F b /\ b ≠ p /\ b ∉ blks ps) ∧
 ∃ rb cs, (ss ≠ [] -> EnR U F p ps ss sl rb cs /\ sl.len <= sl.cap /\ cs.length = sl.cap * 3) := by
 obtain ⟨sl, hb, hr⟩ := h.hd
 have hl := hr.1
 rw [ZY h.len] at hl
 refine ⟨sl, hb, by omega, hr, ?_⟩
 rcases hr.2 with ⟨h0, _⟩ | ⟨b, cs, hq, ha, hbb, hle, hcl, ht⟩
 ·exact ⟨0, [], fun hne => by have := List.length_pos_iff.2 hne; omega⟩
 ·refine ⟨b, cs, fun _ => ⟨⟨ha, hbb, hq, fun {j v} hj => ?_, ?_⟩, hle, hcl⟩⟩
  ·rw [← ht, List.getElem?_take] at hj
   split at hj
   ·exact hj
   ·cases hj
  ·have := congrArg List.length ht
   rw [List.length_take, ZY h.len] at this
   omega
theorem WbW (h : CeH U F p c ps ss) {R : Sl -> Hp -> Prop}
 (hR : ∀ o σ', Ext F U σ' -> RowR o 2 (runV c (Zn ss)) σ' (fun b => U.size <= b) -> CeH σ' (Cut F U) p c (kps ps ss) (sweep ss) -> R o σ') : W4.call (some ⟨p, 0, none⟩) U R := by
 refine W4.of_vc ?_
 unfold W4.vc
 have h := CeH.loc.cut h
 obtain ⟨sl, hb, hl, hrow, rb, cs, hE⟩ := h.sl'
 refine Qy h (ifF rfl (nw (cs := [.slice none 0 0]) fun v1 hz1 e1 hb1 => nilP ((e1.blk hb id).rS rfl ?_)))
 refine Wet h e1 hl (Nat.le_refl _) hE ⟨⟨none, 0, 0⟩, hb1, RowR.nil _ _ _ _⟩ fun v2 sl' e2 ⟨o, hbo, hro⟩ hcase => nilP ?_
 have hplt := hb.lt
 have hnd := h.nd
 have hsub := Wat (Wa5 (ps := ps) (ss := ss))
 simp only [List.nodup_cons] at hnd
 refine (e2.blk (e1.blk hb id) fun hh => by rcases hh with h | h; exact h.2.1 rfl; omega).s1 (by simp) fun v3 o3 hb3 => ?_
 have hbo3 := Xc o3 hbo (by have := hbo.lt; omega)
 refine hbo3.rS0 rfl (hR o v3 ?_ ((RowR.loc _ _ _).keep ((RowR.loc _ _ _).mono hro fun b _ hb => by omega) o3.ext fun b _ hb he => by omega) ?_)
 ·refine (e1.to.newT e2 fun b hb => ?_).newT o3.ext fun b hb => ?_
  ·rcases hb with h | h
   ·exact .inl h.1.1
   ·exact .inr h
  ·subst hb; exact .inl h.fp.1
 ·have esp : ∀ b, b ∈ blks ps -> b < U.size -> ¬ (Cut F U b /\ b ≠ p /\ b ∉ blks ps ∨ U.size <= b) := fun b hb hlt hh => by
   rcases hh with h | h
   ·exact h.2.2 hb
   ·omega
  refine ⟨⟨sl', hb3, ?_⟩, fun i x s hx hs => ?_, h.fp, fun b hb => h.fb b (hsub.subset hb), ?_, Uf h.len, h.ok, h.srt.sublist List.filter_sublist⟩
  ·rcases hcase with ⟨rfl, _, q2, q3, ex⟩ | hr
   ·rw [q2, q3]
    exact (RowR.loc _ _ _).keep ((RowR.loc _ _ _).keep ((RowR.loc _ _ _).keep0 hrow e1) ex fun b _ hb he => by have := hb.1.2; omega) o3.ext fun b _ hb he => hb.2.1 he
   ·exact (RowR.loc _ _ _).keep ((RowR.loc _ _ _).mono hr fun b _ hb => ⟨hb.1, hb.2.1, fun hm => hb.2.2 (hsub.subset hm)⟩) o3.ext fun b _ hb he => hb.2.1 he
  ·obtain ⟨j, hxj, hsj⟩ := Wdk h.len hx hs
   have hS := h.sp j x s hxj hsj
   have hm := Zu hxj
   have hl := hS.lt
   exact ((hS.keep0 e1).keep e2 (esp _ hm.1 hl.1) (esp _ hm.2 hl.2)).keep o3.ext (fun he => hnd.1 (he ▸ hm.1)) (fun he => hnd.1 (he ▸ hm.2))
  ·simp only [List.nodup_cons]
   exact ⟨fun hm => hnd.1 (hsub.subset hm), hnd.2.sublist hsub⟩
theorem Wht {x : Int} {k i : Nat} {s : SpA} (hc : 0 < c.size) (hk : ofS c ss x = some k) (hs : ss[k]? = some s) (v : Bool) (y : Int) : ofS c (ss.set k (s.put i v)) y = ofS c ss y := by
 have hid : ∀ t : SpA, ∀ j w z, idx c (t.put j w) z = idx c t z := fun t j w z => by unfold idx SpA.put; simp only [List.length_set]
 unfold ofS
 have hki := (gSi.1 hs).1
 have : (ss.set k (s.put i v)).map (fun s => (idx c s y).isSome) = ss.map (fun s => (idx c s y).isSome) := by
  apply List.ext_getElem?
  intro j
  simp only [List.getElem?_map]
  by_cases hjk : j = k
  ·subst hjk; rw [List.getElem?_set_self hki, hs]; simp [hid]
  ·rw [List.getElem?_set_ne (Ne.symm hjk)]
 have h2 : ∀ l : List SpA, l.findIdx? (fun s => (idx c s y).isSome) = (l.map fun s => (idx c s y).isSome).findIdx? id := fun l => by rw [List.findIdx?_map]; rfl
 rw [h2, h2, this]
def AllT (c : Cls) (ss : List SpA) (xs : List Int) : Prop := (∀ x ∈ xs, isTk c ss x = some true) /\ xs.Nodup
theorem UN {x : Int} {b : Bool} (h : isTk c ss x = some b) : ∃ k s i, ofS c ss x = some k /\ ss[k]? = some s /\ obj c s x = some i /\ s.is i = b := by
 unfold isTk at h
 split at h
 ·rename_i k hk
  split at h
  ·rename_i s hs
   cases ho : obj c s x with
   | none => rw [ho] at h; cases h
   | some i => rw [ho] at h; exact ⟨k, s, i, hk, hs, ho, by simpa [SpA.is] using h⟩
  ·cases h
 ·cases h
theorem GE {x : Int} {k i : Nat} {s : SpA} (hk : ofS c ss x = some k) (hs : ss[k]? = some s) (ho : obj c s x = some i) : put1 c ss x = ss.set k (s.put i false) := by
 simp [put1, hk, hs, ho]
theorem WeT {x y : Int} (hc : 0 < c.size) (hx : isTk c ss x = some true) (hne : y ≠ x) : isTk c (put1 c ss x) y = isTk c ss y := by
 obtain ⟨k, s, i, hk, hs, ho, _⟩ := UN hx
 rw [GE hk hs ho]
 have hki := (gSi.1 hs).1
 have hof := Wht hc hk hs false (i := i) y
 have hob : ∀ t : SpA, ∀ j w z, obj c (t.put j w) z = obj c t z := fun t j w z => by unfold obj idx at_ SpA.put; simp only [List.length_set]
 cases hy : ofS c ss y with
 | none => rw [Hb (hof.trans hy), Hb hy]
 | some m =>
  by_cases hmk : m = k
  ·subst hmk
   rw [Kf (hof.trans hy) (List.getElem?_set_self hki), Kf hy hs, hob]
   cases hoy : obj c s y with
   | none => rfl
   | some j =>
    simp only [Option.map_some, Option.some.injEq]
    have hij : i ≠ j := fun e => by
     subst e
     exact hne (((Ve hc).1 hoy).1.trans ((Ve hc).1 ho).1.symm)
    simp [SpA.is, SpA.put, List.getD_eq_getElem?_getD, List.getElem?_set_ne hij]
  ·have hml : m < ss.length := (List.findIdx?_eq_some_iff_getElem.1 hy).1
   rw [Kf (hof.trans hy) ((List.getElem?_set_ne (Ne.symm hmk)).trans (gGe hml)), Kf hy (gGe hml)]
theorem AllT.next {x : Int} {xs : List Int} (hc : 0 < c.size) (h : AllT c ss (x :: xs)) : AllT c (put1 c ss x) xs := by
 have hn := List.nodup_cons.1 h.2
 refine ⟨fun y hy => ?_, hn.2⟩
 rw [WeT hc (h.1 x (by simp)) fun e => hn.1 (e ▸ hy)]
 exact h.1 y (by simp [hy])
theorem Wd7 {xs : List Int} (h : putE c ss xs = 0) : AllT c ss xs := by
 unfold putE at h
 split at h
 ·cases h
 ·rename_i h1
  split at h
  ·cases h
  ·rename_i h2
   simp only [Bool.or_eq_true, not_or, Bool.not_eq_true, List.any_eq_false, Bool.not_eq_false', decide_eq_true_eq, beq_iff_eq] at h1 h2
   refine ⟨fun x hx => ?_, h2.2⟩
   have a := h1 x hx
   have b := h2.1 x hx
   cases ht : isTk c ss x with
   | none => rw [ht] at a; simp at a
   | some v => cases v
               ·rw [ht] at b; exact absurd rfl b
               ·rfl
theorem WcD {sl : Sl} {xs : List Int} {X : Rg} (h : CeH U F p c ps ss) (hs : SlR sl 1 (xs.map (Value.int .i64)) U X) (hX : ∀ b, X b -> ¬ F b) (hi : ∀ x ∈ xs, I63 x) (hA : AllT c ss xs) (hl : xs.length <= 1000000) {K : Hp -> Prop}
 (hK : ∀ σ', Ext F U σ' -> CeH σ' F p c ps (xs.foldl (put1 c) ss) -> K σ') :
 Xe [(.i .i64)] (fun I1 => I1 0 U) fun J3 (t49 : Int) v6 => If (decide (t49 < ((sl.len : Nat) : Int))) (Ix sl.a sl.len t49 1 fun a51 => LdI .i64 a51 v6 fun addr1 =>
  XS.call (some ⟨p, 0, none⟩) addr1 v6 fun vx v7 => NilP vx fun a57 => LdP (a57.add 2) v7 fun t59 => YS.call t59 addr1 v7 fun t61 v8 => NilP vx fun a63 => LdI .i64 ((a63.add 0).add 0) v8 fun t66 =>
  Ar .i64 (t66 - 1) fun t67 => NilP vx fun a68 => St1 ((a68.add 0).add 0) (.int .i64 t67) v8 fun v9 => Ar .i64 (t49 + 1) fun t71 => J3 t71 v9) (K v6) := by
 have hlen : sl.len = xs.length := by have := hs.1; simp at this; omega
 have hcs : 0 < c.size := by have := h.ok.1; omega
 refine YX (a := .i .i64) (fun (t : Int) h' => ∃ (i : Nat) (ss' : List SpA), t = (i : Int) /\ i <= xs.length /\ Ext F U h' /\ CeH h' F p c ps ss' /\ AllT c ss' (xs.drop i) /\ (xs.drop i).foldl (put1 c) ss' = xs.foldl (put1 c) ss) (fun t _ => xs.length - t.toNat) ⟨0, ss, rfl, by omega, Ext.refl _ _, h, by simpa using hA, by simp⟩ ?_
 rintro t h' ⟨i, ss', rfl, hil, e, hC, hA', hf⟩
 refine ifD (fun hlt => ?_) fun hge => ?_
 ·have hi' : i < xs.length := by omega
  have hx : xs[i]? = some xs[i] := gGe hi'
  have hd : xs.drop i = xs[i] :: xs.drop (i + 1) := List.drop_eq_getElem_cons hi'
  rw [hd] at hA' hf
  refine ((SlR.loc _ _ _).keep hs e fun b _ hb hF => hX b hb hF).ixI hx ?_
  obtain ⟨k, s, j, hk, hss, ho, hit⟩ := UN (hA'.1 xs[i] List.mem_cons_self)
  have hix := hi xs[i] (List.getElem_mem hi')
  refine WdV hC xs[i] hix (fun hn => by rw [hk] at hn; cases hn) fun k' sl' rb cs hof hkl hb E => nilP ?_
  rw [hk] at hof; cases hof
  obtain ⟨yy, s', hp, hs', hS⟩ := hC.at_i hkl
  rw [hss] at hs'; cases hs'
  have eg := Zx hp hss
  have hj := ((Ve hcs).1 ho).2
  refine E.blk.rP (x := some ⟨yy.1, 0, none⟩) (E.get eg.2.2) ?_
  refine WhU hS hix ho hit fun v8 e8 hS8 => nilP ?_
  have hmx := Zu hp
  have nrb : ¬ (rb = yy.1 ∨ rb = yy.2) := fun hh => E.fr.2.2 (by rcases hh with h | h <;> rw [h]; exact hmx.1; exact hmx.2)
  have hml := UH s
  have hmany := UG hj false
  rw [hit] at hmany
  have hsl := hS.len
  have hnl := hS.ok.n_le
  have hmany' : ((s.put j false).many : Int) = s.many - 1 := by simp at hmany; omega
  refine (e8.blk E.blk nrb).rI2 (E.get eg.1) (ar (by omega) (by omega) (nilP ?_))
  simp only [add_lit, Nat.add_zero]
  rw [← hmany']
  refine hC.turn (s' := s.put j false) hp hss rfl e8 hS8 hb E fun v9 e9 hC9 => ?_
  refine arN (m := i + 1) (by omega) (by omega) ⟨⟨i + 1, _, rfl, by omega, e.trans e9, hC9, ?_, ?_⟩, by omega⟩
  ·have := AllT.next hcs hA'
   rwa [GE hk hss ho] at this
  ·rw [List.foldl_cons, GE hk hss ho] at hf; exact hf
 ·have : i = xs.length := by omega
  subst this
  rw [List.drop_length, List.foldl_nil] at hf
  subst hf
  exact hK h' e hC
theorem WhE (h : CeH U F p c ps ss) {sl : Sl} {xs : List Int} {X : Rg} (hs : SlR sl 1 (xs.map (Value.int .i64)) U X) (hX : ∀ b, X b -> ¬ F b) (hi : ∀ x ∈ xs, I63 x) (hl : xs.length <= 1000000) (hcap : sl.len <= sl.cap) {R : Sl -> Int -> Hp -> Prop}
 (h0 : putE c ss xs ≠ 0 -> R ⟨none, 0, 0⟩ (putE c ss xs) U)
 (h1 : putE c ss xs = 0 -> ∀ o σ', Ext F U σ' -> RowR o 2 (runV c (Zn (xs.foldl (put1 c) ss))) σ' (fun b => U.size <= b) -> CeH σ' (Cut F U) p c (kps ps (xs.foldl (put1 c) ss)) (sweep (xs.foldl (put1 c) ss)) -> R o 0 σ') :
 YE.call (some ⟨p, 0, none⟩) sl U R := by
 refine YE.of_vc ?_
 unfold YE.vc
 have hlen : sl.len = xs.length := by have := hs.1; simp at this; omega
 refine Qy h (ifF rfl ?_)
 have tw : ∀ i, (xs.take i).any (fun x => isTk c ss x == some false) = true ∨ ¬ (xs.take i).Nodup -> (∀ x ∈ xs, (isTk c ss x).isSome = true) -> putE c ss xs = 9 := by
  intro i hb hall
  unfold putE
  rw [if_neg, if_pos]
  ·rcases hb with hb | hb
   ·rw [List.any_eq_true] at hb
    obtain ⟨x, hx, hx2⟩ := hb
    have : xs.any (fun x => isTk c ss x == some false) = true := List.any_eq_true.2 ⟨x, List.mem_of_mem_take hx, hx2⟩
    rw [this]; rfl
   ·have : ¬ xs.Nodup := fun hn => hb (hn.sublist (List.take_sublist _ _))
    simp [this]
  ·simp only [Bool.not_eq_true, List.any_eq_false]
   intro x hx
   have := hall x hx
   cases ht : isTk c ss x
   ·rw [ht] at this; cases this
   ·simp
 refine KA (a := .b) (bb := .i .i64) (fun (tw : Bool) (t : Int) h' => ∃ i : Nat, t = (i : Int) /\ i <= xs.length /\ h' = U /\ (∀ x ∈ xs.take i, (isTk c ss x).isSome = true) /\ (tw = true ↔ (xs.take i).any (fun x => isTk c ss x == some false) = true ∨ ¬ (xs.take i).Nodup)) (fun _ t _ => xs.length - t.toNat)
  ⟨0, rfl, by omega, rfl, by simp, by simp⟩ ?_
 rintro tw' t h' ⟨i, rfl, hil, rfl, hsome, htw⟩
 refine ifD (fun hlt => ?_) fun hge => ?_
 ·have hi' : i < xs.length := by omega
  have hx : xs[i]? = some xs[i] := gGe hi'
  have hix := hi xs[i] (List.getElem_mem hi')
  have htk : xs.take (i + 1) = xs.take i ++ [xs[i]] := by rw [List.take_add_one, hx]; rfl
  refine hs.ixI hx (Vq h xs[i] hix (fun b hb => ifF rfl ?_) fun hn => ifT rfl ?_)
  ·have hsome' : ∀ x ∈ xs.take (i + 1), (isTk c ss x).isSome = true := by
    rw [htk]
    intro x hx
    rcases List.mem_append.1 hx with h1 | h1
    ·exact hsome x h1
    ·simp at h1; subst h1; rw [hb]; rfl
   have fin : ∀ r1 : Bool, (r1 = true ↔ (xs.take (i + 1)).any (fun x => isTk c ss x == some false) = true ∨ ¬ (xs.take (i + 1)).Nodup) -> Ar .i64 ((i : Int) + 1) fun t45 =>
    (∃ j : Nat, t45 = (j : Int) /\ j <= xs.length /\ h' = h' /\ (∀ x ∈ xs.take j, (isTk c ss x).isSome = true) /\ (r1 = true ↔ (xs.take j).any (fun x => isTk c ss x == some false) = true ∨ ¬ (xs.take j).Nodup)) /\ xs.length - t45.toNat < xs.length - (i : Int).toNat :=
    fun r1 hr1 => arN (m := i + 1) (by omega) (by omega) ⟨⟨i + 1, rfl, by omega, rfl, hsome', hr1⟩, by omega⟩
   have hnd : ∀ y : Int, (xs.take i ++ [y]).Nodup ↔ (xs.take i).Nodup /\ y ∉ xs.take i := fun y => by
    rw [List.nodup_append]
    constructor
    ·exact fun h => ⟨h.1, fun hm => h.2.2 y hm y (by simp) rfl⟩
    ·exact fun h => ⟨h.1, by simp, fun a ha z hz e => by simp at hz; subst hz; exact h.2 (e ▸ ha)⟩
   have ex : (xs.take (i + 1)).any (fun x => isTk c ss x == some false) = true ∨ ¬ (xs.take (i + 1)).Nodup ↔ (tw' = true ∨ b = false) ∨ xs[i] ∈ xs.take i := by
    rw [htk, hnd, List.any_append, htw]
    simp only [List.any_cons, List.any_nil, Bool.or_false, Bool.or_eq_true, hb]
    have hbb : ((some b == some false) = true) ↔ b = false := by cases b <;> simp
    rw [hbb]
    constructor
    ·rintro ((h | h) | h)
     ·exact .inl (.inl (.inl h))
     ·exact .inl (.inr h)
     ·by_cases hn : (xs.take i).Nodup
      ·by_cases hm : xs[i] ∈ xs.take i
       ·exact .inr hm
       ·exact absurd ⟨hn, hm⟩ h
      ·exact .inl (.inl (.inr hn))
    ·rintro (((h | h) | h) | h)
     ·exact .inl (.inl h)
     ·exact .inr fun hh => h hh.1
     ·exact .inl (.inr h)
     ·exact .inr fun hh => hh.2 h
   have J1 : ∀ r : Bool, (r = true ↔ tw' = true ∨ b = false) -> JnB (fun r1 v4 => Ar .i64 ((i : Int) + 1) fun t45 =>
    (∃ j : Nat, t45 = (j : Int) /\ j <= xs.length /\ v4 = h' /\ (∀ x ∈ xs.take j, (isTk c ss x).isSome = true) /\ (r1 = true ↔ (xs.take j).any (fun x => isTk c ss x == some false) = true ∨ ¬ (xs.take j).Nodup)) /\ xs.length - t45.toNat < xs.length - (i : Int).toNat) fun J2 =>
    If r (J2 true h') (SlcL sl 1 0 (i : Int) (sl.cap : Nat) fun t41 => Wn.call t41 xs[i] h' fun t43 v5 => J2 t43 v5) := by
    intro r hr
    refine JnB.intro ?_
    cases r
    ·refine ifF rfl ?_
     refine slc (lo := 0) (by omega) (by omega) (by omega) ?_
     have hsub : SlR ⟨if sl.cap = 0 then sl.a else sl.a.map (·.add (0 * 1)), i - 0, sl.cap - 0⟩ 1 ((xs.take i).map (Value.int .i64)) h' X := by
      refine ⟨by simp; omega, ?_⟩
      rcases hs.2 with h0 | ⟨b', o', cs', hf', ha', hb', hc'⟩
      ·left
       have : xs = [] := by simpa using h0
       simp [this]
      ·refine .inr ⟨b', o', cs', hf', ?_, hb', fun j hj => ?_⟩
       ·rw [if_neg (by omega), ha']; simp [add_lit]
       ·simp only [List.length_map, List.length_take] at hj
        rw [hc' j (by simp; omega), List.map_take, List.getElem?_take, if_pos (by omega)]
     refine Wad hsub (by simp; omega) _ (fin _ ?_)
     rw [ex, ← hr]
     simp
    ·refine ifT rfl (fin true ?_)
     rw [ex, ← hr]; simp
   refine JnB.intro ?_
   cases tw'
   ·refine ifF rfl (J1 _ ?_)
    cases b <;> simp
   ·exact ifT rfl (J1 _ (by simp))
  ·have : putE c ss xs = 8 := by
    unfold putE
    rw [if_pos]
    exact List.any_eq_true.2 ⟨xs[i], List.getElem_mem hi', by rw [hn]; rfl⟩
   have h0 := h0 (by rw [this]; decide)
   rw [this] at h0; exact h0
 ·have : i = xs.length := by omega
  subst this
  rw [List.take_length] at *
  cases tw'
  ·refine ifF rfl ?_
   have hE : putE c ss xs = 0 := by
    unfold putE
    have h2 : ¬ (xs.any (fun x => isTk c ss x == some false) = true ∨ ¬ xs.Nodup) := fun hh => by have := htw.2 hh; cases this
    rw [if_neg, if_neg]
    ·simp only [not_or, Bool.not_eq_true, Decidable.not_not] at h2
     rw [h2.1]; simp [h2.2]
    ·simp only [Bool.not_eq_true, List.any_eq_false]
     intro x hx
     have := hsome x hx
     cases ht : isTk c ss x
     ·rw [ht] at this; cases this
     ·simp
   refine WcD (CeH.loc.cut h) hs (fun b hb hf => hX b hb hf.1) hi (Wd7 hE) hl fun v6 e6 hC6 => ?_
   refine WbW hC6 fun o v10 e10 hro hC10 => ?_
   exact h1 hE o v10 ((e6.trans e10).sub fun b hb => hb.1) ((RowR.loc _ _ _).mono hro fun b _ hb => Nat.le_trans e6.1 hb) (CeH.loc.mono hC10 fun b _ hb => hb.1)
  ·refine ifT rfl ?_
   have h9 := tw xs.length (by rw [List.take_length]; exact htw.1 rfl) hsome
   have h0 := h0 (by rw [h9]; decide)
   rw [h9] at h0; exact h0
end Go.Ar
namespace Go.Ar
open Go Go.Vc Go.Proofs


variable {U : Hp} {F : Rg} {p : Nat} {c : Cls} {ps : List (Nat × Nat)} {ss : List SpA}
theorem WbI {x y : Sl} {a o b o' : Nat} {cs ds : List Value} (hx : x.a = some ⟨a, o, none⟩) (hy : y.a = some ⟨b, o', none⟩) (ha : Blk U a cs) (hb : Blk U b ds) (hne : a ≠ b) (hd : ds ≠ []) {K : Bool -> Hp -> Prop} (hK : K false U) :
 ExtB Tryz.prog 258 [.slice x.a x.len x.cap, .slice y.a y.len y.cap] U K := by
 rintro w rfl
 obtain ⟨ea, ha⟩ := ha
 obtain ⟨eb, hb⟩ := hb
 refine ⟨false, w, ?_, .refl _, hK⟩
 rw [hx, hy, run_callFunc_extern Tryz.func258 (by kernel_rfl) (by kernel_rfl) (by kernel_rfl) (e := Extern.SlicesOverlaps.overlaps #[168, 168] #[4]) (by kernel_rfl)]
 have := Lib.run_overlaps_apart (P := Tryz.prog) w 168 4 175 Tryz.underlying168 3 Tryz.sizeOf175
  ⟨a, o, none⟩ ⟨b, o', none⟩ x.len x.cap y.len y.cap hne ea eb cs.length ds.length (by simp [World.shape?, ha]) (by simp [World.shape?, hb]) (by simpa using hd) (by simp [World.frozen?, ha]) (by simp [World.frozen?, ha])
 rw [this]; rfl
theorem Weq {Q : Rg} {s : Sl} {xs : List Value} {i m vb : Nat} {x y z : Value} (h : RowR s 3 xs U Q) (hlen : s.len = m) (hm : m <= 2000) (hi : i <= m) (hv : Blk U vb [x, y, z]) (hvb : ¬ Q vb) (h1 : ∀ v ∈ xs, one1 v = true) (h2 : one1 x = true /\ one1 y = true /\ one1 z = true)
 {R : Sl -> Hp -> Prop} (hR : ∀ s' σ', Ext Q U σ' -> RowR s' 3 (xs.take (3 * i) ++ [x, y, z] ++ xs.drop (3 * i)) σ' (Grow Q U) -> R s' σ') :
 Wf.call s (i : Int) ⟨some ⟨vb, 0, none⟩, 1, 1⟩ U R := by
 refine Wf.of_vc ?_
 unfold Wf.vc
 have hxl := h.1
 have hcap : s.len <= s.cap := by
  rcases h.2 with ⟨h0, h0'⟩ | ⟨b, cs, _, _, _, hle, _⟩
  ·omega
  ·exact hle
 have hrd : Rd U (some ⟨vb, 0, none⟩) [x, y, z] := by
  intro j u hu
  rw [add_lit, Nat.zero_add, hv.cell]; exact hu
 have ho : ∀ v ∈ [x, y, z], one1 v = true := by simp [h2]
 refine slc (by omega) (by omega) (by omega) (ifF rfl (iff_ (fun he => ?_) fun he => ?_))
 ·have hie : i = m := by
   have : (i : Int) = ((s.len : Nat) : Int) := by simpa using he
   omega
  refine h.app (ys := [x, y, z]) rfl rfl hrd ho (by first | omega | (simp only; omega)) (by first | omega | (simp only; omega)) Nat.zero_lt_one fun s' h' hl' e' ho' => hR s' h' e' ?_
  rw [List.take_of_length_le (by omega), List.drop_of_length_le (by omega), List.append_nil]
  exact ho'
 ·have hie : i < m := by
   have : ¬ (i : Int) = ((s.len : Nat) : Int) := by simpa using he
   omega
  obtain ⟨b, cs, hQ, ha, hb, hle, hcl, ht⟩ : ∃ b cs, Q b /\ s.a = some ⟨b, 0, none⟩ /\ Blk U b cs /\ s.len <= s.cap /\ cs.length = s.cap * 3 /\ cs.take xs.length = xs := by
   rcases h.2 with ⟨h0, _⟩ | h
   ·omega
   ·exact h
  have hbv : vb ≠ b := fun e => hvb (e ▸ hQ)
  have hxcs : ∀ j v, xs[j]? = some v -> cs[j]? = some v := fun j v hj => by
   rw [← ht, List.getElem?_take] at hj
   split at hj
   ·exact hj
   ·cases hj
  refine arN (m := m + 1) (by first | omega | (simp only; omega)) (by omega) (ifD (fun hgt => ?_) fun hle2 => ?_)
  ·-- no room: a new row
   refine slc (lo := 0) (by omega) (by omega) (by omega) (arN (m := m + 1) (by first | omega | (simp only; omega)) (by omega) (arN (m := m + 1 - i) (by omega) (by omega) ?_))
   have hcz : ¬ s.cap = 0 := by omega
   rw [if_neg hcz]
   simp only [ha, Option.map_some, add_lit, Nat.zero_mul, Nat.add_zero, Nat.sub_zero]
   refine ⟨by omega, xs.take (3 * i), by rw [List.length_take]; simp only; omega, ?_, by simp [one1], by simp only; omega, by simp only; omega, by omega, fun hin => by simp only at hin; omega, fun _ cc hcc => ?_⟩
   ·intro j v hj
    rw [add_lit, Nat.zero_add, hb.cell]
    rw [List.getElem?_take] at hj
    split at hj
    ·exact hxcs j v hj
    ·cases hj
   simp only [iTn] at hcc ⊢
   have hi1 : i + (m + 1 - i) = m + 1 := by omega
   rw [hi1] at hcc ⊢
   refine nw fun v2 hz2 e2 hb2 => ?_
   have hzl : ∀ k, (List.replicate k [Value.int .i64 0, .int .i64 0, .pointer none]).flatten.length = 3 * k := fun k => by
    rw [List.length_flatten, List.map_replicate, List.sum_replicate_nat]; simp; omega
   have htl : (xs.take (3 * i)).length = 3 * i := by rw [List.length_take]; omega
   refine slc (by first | omega | (simp only; omega)) (by first | omega | (simp only; omega)) (by first | omega | (simp only; omega)) ?_
   have hv2 := e2.blk hv id
   have n1 : (if cc = i then (some ⟨U.size, 0, none⟩ : Option Addr) else (some ⟨U.size, 0, none⟩ : Option Addr).map (·.add (i * 3))) = some ⟨U.size, i * 3, none⟩ := by
    have : ¬ cc = i := by omega
    rw [if_neg this]; simp [add_lit]
   rw [n1]
   refine ⟨[x, y, z], by simp only; rw [Nat.min_eq_left (by omega)]; rfl, ?_, ho, ?_⟩
   ·intro j u hu
    rw [add_lit, Nat.zero_add, hv2.cell]; exact hu
   simp only
   refine KC (o := i * 3) (i := 0) hb2 (by simp only [List.length_append, htl, hzl, List.length_cons, List.length_nil]; omega) fun v3 o3 b3 => ?_
   refine arN (m := i + 1) (by first | omega | (simp only; omega)) (by omega) (slc (by first | omega | (simp only; omega)) (by first | omega | (simp only; omega)) (by first | omega | (simp only; omega)) (slc (by omega) (by omega) (by omega) ?_))
   have hb3' : Blk v3 b cs := Xc o3 (e2.blk hb id) (by have := hb.lt; omega)
   have hdl : (xs.drop (3 * i)).length = 3 * (m - i) := by rw [List.length_drop]; omega
   refine ⟨xs.drop (3 * i), by simp only; rw [Nat.min_eq_left (by omega), hdl]; omega, ?_, fun v hv => h1 v (List.mem_of_mem_drop hv), ?_⟩
   ·have hci : ¬ s.cap = i := by omega
    rw [if_neg hci]
    simp only [ha, Option.map_some, add_lit]
    intro j v hj
    rw [add_lit, hb3'.cell]
    rw [List.getElem?_drop] at hj
    have := hxcs _ _ hj
    rw [show 0 + i * 3 + j = 3 * i + j by omega]; exact this
   have hbig : (xs.take (3 * i) ++ (List.replicate (m + 1 - i) [Value.int .i64 0, .int .i64 0, .pointer none]).flatten ++ (List.replicate (cc - (m + 1)) [Value.int .i64 0, .int .i64 0, .pointer none]).flatten).length = 3 * cc := by
    simp only [List.length_append, htl, hzl]; omega
   have tk : ∀ L : List Value, ((xs.take (3 * i) ++ (List.replicate (m + 1 - i) [Value.int .i64 0, .int .i64 0, .pointer none]).flatten ++ (List.replicate (cc - (m + 1)) [Value.int .i64 0, .int .i64 0, .pointer none]).flatten).take (3 * i)) = xs.take (3 * i) := fun _ => by
    rw [List.append_assoc, List.take_append_of_le_length (by omega), List.take_of_length_le (by omega)]
   have fin : ∀ v4, Z5 v3 v4 U.size -> Blk v4 U.size ((xs.take (3 * i) ++ [x, y, z]) ++ xs.drop (3 * i) ++ ((xs.take (3 * i) ++ (List.replicate (m + 1 - i) [Value.int .i64 0, .int .i64 0, .pointer none]).flatten ++ (List.replicate (cc - (m + 1)) [Value.int .i64 0, .int .i64 0, .pointer none]).flatten).drop (3 * i + 3)).drop (3 * (m - i))) -> R ⟨some ⟨U.size, 0, none⟩, m + 1, cc⟩ v4 := by
    intro v4 o4 b4
    refine hR _ v4 ?_ ⟨?_, .inr ⟨U.size, _, .inr (Nat.le_refl _), rfl, b4, by simp only; omega, ?_, ?_⟩⟩
    ·exact ((e2.to.newT o3.ext fun i hi => by subst hi; exact .inr (Nat.le_refl _)).newT o4.ext fun i hi => by subst hi; exact .inr (Nat.le_refl _))
    ·simp only [List.length_append, htl, hdl, List.length_cons, List.length_nil]; omega
    ·simp only [List.length_append, htl, hdl, List.length_cons, List.length_nil, List.length_drop, hzl]; omega
    ·rw [List.append_assoc (xs.take (3 * i) ++ [x, y, z]), ← List.append_assoc, List.take_left']
     rfl
   have e3 : (xs.take (3 * i) ++ (List.replicate (m + 1 - i) [Value.int .i64 0, .int .i64 0, .pointer none]).flatten ++ (List.replicate (cc - (m + 1)) [Value.int .i64 0, .int .i64 0, .pointer none]).flatten).take (i * 3 + 0) = xs.take (3 * i) := by
    rw [show i * 3 + 0 = 3 * i by omega]; exact tk []
   rw [e3] at b3
   have hlen3 : (xs.take (3 * i) ++ [x, y, z] ++ (xs.take (3 * i) ++ (List.replicate (m + 1 - i) [Value.int .i64 0, .int .i64 0, .pointer none]).flatten ++ (List.replicate (cc - (m + 1)) [Value.int .i64 0, .int .i64 0, .pointer none]).flatten).drop (i * 3 + 0 + [x, y, z].length)).length = 3 * cc := by
    simp only [List.length_append, List.length_drop, htl, hzl, List.length_cons, List.length_nil]; omega
   by_cases hci : cc = i + 1
   ·exfalso; omega
   ·rw [if_neg hci]
    simp only [Option.map_some, add_lit, Nat.zero_add]
    refine KC (o := (i + 1) * 3) (i := 0) b3 (by rw [hlen3, hdl]; omega) fun v4 o4 b4 => fin v4 o4 ?_
    have q1 : (i + 1) * 3 + 0 = (xs.take (3 * i) ++ [x, y, z]).length := by rw [List.length_append, htl]; simp; omega
    have q2 : (i + 1) * 3 + 0 + (xs.drop (3 * i)).length = (xs.take (3 * i) ++ [x, y, z]).length + 3 * (m - i) := by rw [hdl, q1]
    rw [q2, q1, List.take_left', List.drop_append] at b4
    ·rw [List.drop_of_length_le (show (xs.take (3 * i) ++ [x, y, z]).length <= (xs.take (3 * i) ++ [x, y, z]).length + 3 * (m - i) by omega), List.nil_append] at b4
     have q3 : i * 3 + 0 + [x, y, z].length = 3 * i + 3 := by simp; omega
     rw [q3] at b4
     have q4 : (xs.take (3 * i) ++ [x, y, z]).length + 3 * (m - i) - (xs.take (3 * i) ++ [x, y, z]).length = 3 * (m - i) := by omega
     rw [q4] at b4
     exact b4
    ·rfl
  ·-- room: the rest moves
   have hle3 : m + 1 <= s.cap := by omega
   have hcz : ¬ s.cap = 0 := by omega
   have hci : ¬ s.cap = i := by omega
   refine arN (m := m + 1) (by first | omega | (simp only; omega)) (by omega) (slc (lo := 0) (by omega) (by omega) (by omega) ?_)
   rw [if_neg hcz]
   simp only [ha, Option.map_some, add_lit, Nat.zero_mul, Nat.add_zero, Nat.sub_zero]
   refine arN (m := i + 1) (by first | omega | (simp only; omega)) (by omega) (slc (by first | omega | (simp only; omega)) (by first | omega | (simp only; omega)) (by first | omega | (simp only; omega)) ?_)
   have hxcs' : cs.take (3 * m) = xs := by rw [← hlen, show 3 * s.len = xs.length by omega]; exact ht
   have na : ∃ o', (if s.cap = i + 1 then (some ⟨b, 0, none⟩ : Option Addr) else (some ⟨b, 0, none⟩ : Option Addr).map (·.add ((i + 1) * 3))) = some ⟨b, o', none⟩ := by
    split
    ·exact ⟨0, rfl⟩
    ·exact ⟨_, by simp [add_lit]; rfl⟩
   obtain ⟨o', na⟩ := na
   refine WbI (x := ⟨some ⟨vb, 0, none⟩, 1, 1⟩) (a := vb) (o := 0) (b := b) rfl na hv hb hbv (fun e => by rw [e] at hcl; simp at hcl; omega) (ifT rfl ?_)
   refine arN (m := i + 1) (by first | omega | (simp only; omega)) (by omega) (slc (by first | omega | (simp only; omega)) (by first | omega | (simp only; omega)) (by first | omega | (simp only; omega)) (slc (by first | omega | (simp only; omega)) (by first | omega | (simp only; omega)) (by first | omega | (simp only; omega)) ?_))
   have hne1 : ¬ s.cap = i + 1 := by omega
   rw [if_neg hne1, if_neg hci]
   simp only [Option.map_some, add_lit, Nat.zero_add]
   have hdl : (xs.drop (3 * i)).length = 3 * (m - i) := by rw [List.length_drop]; omega
   refine ⟨xs.drop (3 * i), by simp only; rw [Nat.min_eq_right (by omega), hdl]; omega, ?_, fun v hv => h1 v (List.mem_of_mem_drop hv), ?_⟩
   ·intro j v hj
    rw [add_lit, hb.cell]
    rw [List.getElem?_drop] at hj
    have := hxcs _ _ hj
    rw [show i * 3 + j = 3 * i + j by omega]; exact this
   refine KC (o := (i + 1) * 3) (i := 0) hb (by rw [hdl]; omega) fun v3 o3 b3 => ?_
   refine slc (by first | omega | (simp only; omega)) (by first | omega | (simp only; omega)) (by first | omega | (simp only; omega)) ?_
   rw [if_neg hci]
   simp only [Option.map_some, add_lit, Nat.zero_add]
   have hv3 := Xc o3 hv hbv
   refine ⟨[x, y, z], by simp only; rw [Nat.min_eq_left (by omega)]; rfl, ?_, ho, ?_⟩
   ·intro j u hu
    rw [add_lit, Nat.zero_add, hv3.cell]; exact hu
   have hl3 : (cs.take ((i + 1) * 3 + 0) ++ xs.drop (3 * i) ++ cs.drop ((i + 1) * 3 + 0 + (xs.drop (3 * i)).length)).length = cs.length := by
    simp only [List.length_append, List.length_take, List.length_drop, hdl]; omega
   refine KC (o := i * 3) (i := 0) b3 (by rw [hl3]; simp; omega) fun v4 o4 b4 => ?_
   have a1 : (cs.take ((i + 1) * 3 + 0)).length = 3 * i + 3 := by rw [List.length_take]; omega
   have htl : (xs.take (3 * i)).length = 3 * i := by rw [List.length_take]; omega
   have p1 : (cs.take ((i + 1) * 3 + 0) ++ xs.drop (3 * i) ++ cs.drop ((i + 1) * 3 + 0 + (xs.drop (3 * i)).length)).take (i * 3 + 0) = xs.take (3 * i) := by
    rw [List.append_assoc, List.take_append_of_le_length (by omega), List.take_take, Nat.min_eq_left (by omega), ← hxcs', List.take_take, Nat.min_eq_left (by omega)]
    congr 1; omega
   have p2 : (cs.take ((i + 1) * 3 + 0) ++ xs.drop (3 * i) ++ cs.drop ((i + 1) * 3 + 0 + (xs.drop (3 * i)).length)).drop (i * 3 + 0 + [x, y, z].length) = xs.drop (3 * i) ++ cs.drop ((i + 1) * 3 + 0 + (xs.drop (3 * i)).length) := by
    rw [List.append_assoc, List.drop_left']
    rw [a1]; simp; omega
   rw [p1, p2, ← List.append_assoc] at b4
   refine hR _ v4 ((Ext.of_only (F := Q) o3 hQ).trans (Ext.of_only o4 hQ)) ⟨?_, .inr ⟨b, _, .inl hQ, rfl, b4, (by first | omega | (simp only; omega)), ?_, ?_⟩⟩
   ·simp only [List.length_append, htl, List.length_cons, List.length_nil, hdl]; omega
   ·simp only [List.length_append, htl, List.length_drop, List.length_cons, List.length_nil, hdl]; omega
   ·rw [List.take_left']; rfl
def Y3 (ss : List SpA) (st : Nat) : Nat := (ss.takeWhile (fun s => s.st < st)).length
theorem Ua (l : List SpA) (P : SpA -> Bool) : l.takeWhile P = l.take (l.takeWhile P).length /\ l.dropWhile P = l.drop (l.takeWhile P).length := by
 induction l with
 | nil => simp
 | cons x l ih =>
  simp only [List.takeWhile_cons, List.dropWhile_cons]
  cases P x
  ·simp
  ·simp only [if_true, List.length_cons, List.take_succ_cons, List.drop_succ_cons]
   exact ⟨by rw [← ih.1], ih.2⟩
theorem Hm (c : Cls) (ss : List SpA) (st : Nat) : addS c ss st = ss.take (Y3 ss st) ++ ⟨st, List.replicate c.n false⟩ :: ss.drop (Y3 ss st) := by
 have := Ua ss (fun s => decide (s.st < st))
 unfold addS Y3
 rw [this.2, ← this.1]
theorem VX (hs : ss.Pairwise (fun a b => a.st < b.st)) (st : Nat) : Y3 ss st <= ss.length /\ ∀ (i : Nat) s, ss[i]? = some s -> (s.st < st ↔ i < Y3 ss st) := by
 unfold Y3
 induction ss with
 | nil => simp
 | cons x ss ih =>
  have hp := List.pairwise_cons.1 hs
  obtain ⟨h1, h2⟩ := ih hp.2
  simp only [List.takeWhile_cons]
  by_cases hx : x.st < st
  ·simp only [hx, decide_true, if_true, List.length_cons]
   refine ⟨by omega, fun i s hi => ?_⟩
   cases i with
   | zero => simp at hi; subst hi; simp [hx]
   | succ i => have := h2 i s (by simpa using hi); omega
  ·simp only [hx, decide_false, Bool.false_eq_true, if_false, List.length_nil, Nat.zero_le, Nat.not_lt_zero, iff_false, true_and]
   intro i s hi
   cases i with
   | zero => simp at hi; subst hi; exact hx
   | succ i =>
    have := hp.1 s (List.mem_of_getElem? (i := i) (by simpa using hi))
    omega
theorem Wep (h : CeH U F p c ps ss) {σ1 : Hp} (e1 : Ext0 U σ1) {sl : Sl} {rb : Nat} {cs : List Value} (hl : sl.len = ss.length) (hE : ss ≠ [] -> EnR U F p ps ss sl rb cs) (st : Nat) (hst : st <= 1024) {R : Int -> Bool -> Hp -> Prop} (hR : ∀ σ' b, Ext0 σ1 σ' -> R (Y3 ss st : Int) b σ') :
 Wb.call sl (st : Int) ⟨205, #[], #[]⟩ σ1 R := by
 refine Wb.of_vc ?_
 unfold Wb.vc
 have hfew := h.few
 obtain ⟨hp1, hp2⟩ := VX h.srt st
 have cmp : ∀ (k : Nat) (x : Nat × Nat) s (v : Hp) (K : Int -> Hp -> Prop), ps[k]? = some x -> ss[k]? = some s -> Ext0 σ1 v -> (∀ v', Ext0 v v' -> K ((s.st : Int) - (st : Int)) v') →
  Vv Tryz.prog ⟨205, #[], #[]⟩ [.agg #[.int .i64 (s.many : Int), .int .i64 (s.st : Int), .pointer (some ⟨x.1, 0, none⟩)], .int .i64 (st : Int)] [.one (.i .i64)] v K := by
  intro k x s v K hx hs ev hK
  refine WaO (all := #[.agg #[.int .i64 (s.many : Int), .int .i64 (s.st : Int), .pointer (some ⟨x.1, 0, none⟩)], .int .i64 (st : Int)]) (by kernel_rfl) (by simp) ?_
  refine YA.of_vc ?_
  unfold YA.vc
  have hf := (h.sp k x s hx hs).fit
  refine nw (cs := [.int .i64 (s.many : Int), .int .i64 (s.st : Int), .pointer (some ⟨x.1, 0, none⟩)]) fun v1 hz e hb => hb.rI2 rfl (ar (by omega) (by omega) (hK v1 e))
 refine KA (a := .i .i64) (bb := .i .i64) (fun (i j : Int) v => ∃ a b : Nat, i = (a : Int) /\ j = (b : Int) /\ a <= Y3 ss st /\ Y3 ss st <= b /\ b <= ss.length /\ Ext0 σ1 v) (fun i j _ => j.toNat - i.toNat) ⟨0, ss.length, rfl, by rw [hl], by omega, hp1, by omega, Ext.refl _ _⟩ ?_
 rintro i j v ⟨a, b, rfl, rfl, ha, hb, hbl, ev⟩
 have ev0 : Ext0 U v := e1.trans ev
 refine ifD (fun hlt => ?_) fun hge => ?_
 ·have hne : ss ≠ [] := by rintro rfl; simp at hbl; omega
  have E := hE hne
  refine arN (m := a + b) (by omega) (by omega) ?_
  have hw : IntKind.u64.wrap ((a + b : Nat) : Int) = ((a + b : Nat) : Int) := by
   unfold IntKind.wrap; simp [IntKind.bits, IntKind.signed]; omega
  refine arW ?_
  rw [hw]
  refine nn (by omega) ?_
  have hm1 : min (1 : Int).toNat IntKind.u64.bits = 1 := by decide
  rw [hm1, Wb0]
  have hmid : (((a + b : Nat) : Int) / 2 ^ 1) = (((a + b) / 2 : Nat) : Int) := by omega
  refine arN (m := (a + b) / 2) hmid (by omega) ?_
  have hml : (a + b) / 2 < ss.length := by omega
  obtain ⟨x, s, hx, hs, hS⟩ := h.at_i hml
  have eg := Zx hx hs
  rw [E.a]
  refine ix (by omega) (by omega) ?_
  rw [add_lit, show 0 + (((a + b) / 2 : Nat) : Int).toNat * 3 = 3 * ((a + b) / 2) by omega]
  refine Us (e := 0) (ev0.blk E.blk id) (E.get eg.1) (E.get eg.2.1) (E.get eg.2.2) (cmp _ x s v _ hx hs ev fun v' e' => ?_)
  have hiff := hp2 _ s hs
  show If (decide (((s.st : Int) - (st : Int)) < 0)) _ _
  refine ifD (fun hneg => ?_) fun hpos => ?_
  ·exact arN (m := (a + b) / 2 + 1) (by omega) (by omega) ⟨⟨_, b, rfl, rfl, by have := hiff.1 (by omega); omega, hb, hbl, ev.trans e'⟩, by omega⟩
  ·exact ⟨⟨a, _, rfl, rfl, ha, by
    apply Classical.byContradiction
    intro hc
    have := hiff.2 (by omega)
    omega, by omega, ev.trans e'⟩, by omega⟩
 ·have hab : a = Y3 ss st := by omega
  subst hab
  refine JnB.intro (ifD (fun hlt2 => ?_) fun hge2 => hR v _ ev)
  have hml : Y3 ss st < ss.length := by omega
  have hne : ss ≠ [] := by rintro rfl; simp at hml
  have E := hE hne
  obtain ⟨x, s, hx, hs, hS⟩ := h.at_i hml
  have eg := Zx hx hs
  rw [E.a]
  refine ix (by omega) (by omega) ?_
  rw [add_lit, show 0 + (Y3 ss st : Int).toNat * 3 = 3 * Y3 ss st by omega]
  refine Us (e := 0) (ev0.blk E.blk id) (E.get eg.1) (E.get eg.2.1) (E.get eg.2.2) (cmp _ x s v _ hx hs ev fun v' e' => hR v' _ (ev.trans e'))
theorem Wif (h : CeH U F p c ps ss) {st : Nat} (hf : st + c.pages <= 1024) {R : Int -> Hp -> Prop} (h9 : Uw c ss st = 9 -> ∀ σ', Ext0 U σ' -> R 9 σ')
 (h0 : Uw c ss st = 0 -> ∀ σ' ps', Ext F U σ' -> CeH σ' (Grow F U) p c ps' (addS c ss st) -> R 0 σ') : YF.call (some ⟨p, 0, none⟩) (st : Int) U R := by
 refine YF.of_vc ?_
 unfold YF.vc
 have h := CeH.loc.cut h
 obtain ⟨sl, hb, hl, hrow, rb, cs, hE⟩ := h.sl'
 have hfew := h.few
 have hc := h.ok
 have hck := hc
 unfold Cls.ok at hck
 refine Qy h (ifF rfl (nilP (hb.rI2 rfl (hb.rI2 rfl (hb.rI2 rfl ?_)))))
 refine Wij hc hf fun v1 pn qn e1 hpn hqn hSn => ifF rfl (nilP ((e1.blk hb id).rS rfl ?_))
 have hplt := hb.lt
 refine YX (a := .i .i64) (fun (t : Int) v => ∃ i : Nat, t = (i : Int) /\ i <= ss.length /\ Ext0 v1 v /\ ∀ (j : Nat) s, j < i -> ss[j]? = some s -> ¬ max s.st st - min s.st st < c.pages) (fun t _ => ss.length - t.toNat) ⟨0, rfl, by omega, Ext.refl _ _, fun j s hj => by omega⟩ ?_
 rintro t v ⟨i, rfl, hi, ev, hno⟩
 have ev0 := e1.trans ev
 refine ifD (fun hlt => ?_) fun hge => ?_
 ·simp only at hlt
  have hi' : i < ss.length := by omega
  obtain ⟨E, hcap, hcl⟩ := hE (by rintro rfl; simp at hi')
  obtain ⟨x, s, hx, hs, hS⟩ := h.at_i hi'
  have eg := Zx hx hs
  have hsf := hS.fit
  rw [E.a]
  refine ix (by omega) (by omega) ?_
  rw [add_lit, show 0 + (i : Int).toNat * 3 = 3 * i by omega]
  refine Us (e := 0) (ev0.blk E.blk id) (E.get eg.1) (E.get eg.2.1) (E.get eg.2.2) (G6 fun v6 e6 b6 => b6.rI2 rfl (b6.rI2 rfl ?_))
  have hd : (if (st : Int) > (s.st : Int) then (st : Int) else (s.st : Int)) - (if (st : Int) < (s.st : Int) then (st : Int) else (s.st : Int)) = ((max s.st st - min s.st st : Nat) : Int) := by
   split <;> split <;> omega
  refine arN (m := max s.st st - min s.st st) hd (by omega) (nilP (((ev0.trans e6).blk hb id).rI2 rfl ?_))
  refine ifD (fun hlt2 => h9 ?_ _ (ev0.trans e6)) fun hge2 => ?_
  ·unfold Uw
   rw [if_pos]
   exact List.any_eq_true.2 ⟨s, List.mem_of_getElem? hs, by simpa using (by omega : max s.st st - min s.st st < c.pages)⟩
  ·refine arN (m := i + 1) (by omega) (by omega) ⟨⟨i + 1, rfl, by omega, ev.trans e6, fun j s' hj hs' => ?_⟩, by omega⟩
   by_cases e : j = i
   ·subst e; rw [hs] at hs'; cases hs'; omega
   ·exact hno j s' (by omega) hs'
 ·have hii : i = ss.length := by simp only at hge; omega
  subst hii
  have hE0 : Uw c ss st = 0 := by
   unfold Uw
   rw [if_neg]
   simp only [Bool.not_eq_true, List.any_eq_false, decide_eq_true_eq]
   intro s hs
   obtain ⟨j, hj⟩ := List.getElem?_of_mem hs
   exact hno j s (gSi.1 hj).1 hj
  refine nilP ((ev0.blk hb id).rS rfl ?_)
  refine Wep h ev0 hl (fun hne => (hE hne).1) st (by omega) fun v7 bb e7 => nilP (((ev0.trans e7).blk hb id).rS rfl ?_)
  have e07 := ev0.trans e7
  obtain ⟨hp1, hp2⟩ := VX h.srt st
  refine nw (cs := [.int .i64 0, .int .i64 st, .pointer (some ⟨pn, 0, none⟩)]) fun v8 hz8 e8 hb8 => ?_
  have e08 := e07.trans e8
  have hrow8 := (RowR.loc _ _ _).keep0 hrow e08
  have hsz7 := e07.1
  refine Weq hrow8 hl (by omega) hp1 hb8 (fun hh => by have := hh.1.2; omega) WaH ⟨rfl, rfl, rfl⟩ fun s' v9 e9 hr9 => nilP ?_
  have hb9 := e9.blk (e08.blk hb id) fun hh => hh.2.1 rfl
  refine hb9.s1 (by simp) fun v10 o10 hb10 => ?_
  have hpl := h.len
  have hnd := h.nd
  simp only [List.nodup_cons] at hnd
  have hlt := hSn.lt
  have hsz1 := (ev.trans e7).trans e8 |>.1
  have hlow : ∀ b ∈ blks ps, b < U.size := fun b hb => (h.fb b hb).2
  have hS9 : ∀ {a b s'}, SpH v8 a b c s' -> ¬ (Cut F U a /\ a ≠ p /\ a ∉ blks ps) -> ¬ (Cut F U b /\ b ≠ p /\ b ∉ blks ps) -> a ≠ p -> b ≠ p -> SpH v10 a b c s' := fun hS n1 n2 m1 m2 => (hS.keep e9 n1 n2).keep o10.ext m1 m2
  have hnew := ((hSn.keep0 ev).keep0 e7).keep0 e8
  have hent : entV (ps.take (Y3 ss st) ++ (pn, qn) :: ps.drop (Y3 ss st)) (ss.take (Y3 ss st) ++ ⟨st, List.replicate c.n false⟩ :: ss.drop (Y3 ss st)) =
   (entV ps ss).take (3 * Y3 ss st) ++ [.int .i64 0, .int .i64 st, .pointer (some ⟨pn, 0, none⟩)] ++ (entV ps ss).drop (3 * Y3 ss st) := by
   rw [Qr (by simp [hpl])]
   have h1 : entV ps ss = entV (ps.take (Y3 ss st)) (ss.take (Y3 ss st)) ++ entV (ps.drop (Y3 ss st)) (ss.drop (Y3 ss st)) := by
    rw [← Qr (by simp [hpl]), List.take_append_drop, List.take_append_drop]
   have h2 : (entV (ps.take (Y3 ss st)) (ss.take (Y3 ss st))).length = 3 * Y3 ss st := by rw [ZY (by simp [hpl]), List.length_take]; omega
   rw [h1, List.take_left' h2, List.drop_left' h2, List.append_assoc]
   have : SpA.many ⟨st, List.replicate c.n false⟩ = 0 := by simp [SpA.many, List.count_replicate]
   simp [entV, this]
  refine h0 hE0 v10 (ps.take (Y3 ss st) ++ (pn, qn) :: ps.drop (Y3 ss st)) ?_ ?_
  ·refine (((Ext0.to e08).trans (e9.sub fun b hb => hb.1.1))).trans (o10.ext.sub fun b hb => hb ▸ h.fp.1)
  ·have hperm : (blks (ps.take (Y3 ss st) ++ (pn, qn) :: ps.drop (Y3 ss st))).Perm (pn :: qn :: blks ps) := by
    have : blks ps = blks (ps.take (Y3 ss st)) ++ blks (ps.drop (Y3 ss st)) := by
     conv => lhs; rw [← List.take_append_drop (Y3 ss st) ps]
     simp only [blks, List.flatMap_append]
    rw [this]
    have h3 : blks (ps.take (Y3 ss st) ++ (pn, qn) :: ps.drop (Y3 ss st)) = blks (ps.take (Y3 ss st)) ++ pn :: qn :: blks (ps.drop (Y3 ss st)) := by simp [blks]
    rw [h3]
    exact List.perm_middle.trans ((List.perm_middle).cons pn)
   have hbl : ∀ b, b ∈ blks (ps.take (Y3 ss st) ++ (pn, qn) :: ps.drop (Y3 ss st)) ↔ b = pn ∨ b = qn ∨ b ∈ blks ps := by
    intro b
    rw [hperm.mem_iff]; simp
   refine ⟨⟨s', hb10, ?_⟩, fun i x s hx hs => ?_, .inl h.fp.1, fun b hb => ?_, ?_, ?_, hc, ?_⟩
   ·rw [Hm, hent]
    refine (RowR.loc _ _ _).keep ((RowR.loc _ _ _).mono hr9 fun b _ hb => ?_) o10.ext fun b _ hb he => hb.2.1 he
    rw [hbl]
    rcases hb with hb | hb
    ·exact ⟨.inl hb.1.1, hb.2.1, fun hh => by
      rcases hh with h | h | h
      ·have := hb.1.2; omega
      ·have := hb.1.2; omega
      ·exact hb.2.2 h⟩
    ·exact ⟨.inr (by omega), by omega, fun hh => by
      rcases hh with h | h | h
      ·omega
      ·omega
      ·have := hlow b h; omega⟩
   ·rw [Hm] at hs
    have hpl' : (ps.take (Y3 ss st)).length = Y3 ss st := by rw [List.length_take]; omega
    have hsl' : (ss.take (Y3 ss st)).length = Y3 ss st := by rw [List.length_take]; omega
    have old : ∀ j : Nat, ps[j]? = some x -> ss[j]? = some s -> SpH v10 x.1 x.2 c s := fun j h1 h2 => by
     have hm := Zu h1
     exact hS9 ((h.sp j x s h1 h2).keep0 e08) (fun hh => hh.2.2 hm.1) (fun hh => hh.2.2 hm.2) (fun e => hnd.1 (e ▸ hm.1)) (fun e => hnd.1 (e ▸ hm.2))
    rcases Nat.lt_trichotomy i (Y3 ss st) with hlt' | heq | hgt
    ·rw [List.getElem?_append_left (by omega), List.getElem?_take, if_pos hlt'] at hx hs
     exact old i hx hs
    ·rw [List.getElem?_append_right (by omega)] at hx hs
     rw [hpl', heq, Nat.sub_self] at hx
     rw [hsl', heq, Nat.sub_self] at hs
     simp at hx hs; subst hx; subst hs
     exact hS9 hnew (fun hh => by have := hh.1.2; simp only at this; omega) (fun hh => by have := hh.1.2; simp only at this; omega) (by simp only; omega) (by simp only; omega)
    ·rw [List.getElem?_append_right (by omega)] at hx hs
     rw [hpl'] at hx
     rw [hsl'] at hs
     obtain ⟨k, hk⟩ : ∃ k, i - Y3 ss st = k + 1 := ⟨i - Y3 ss st - 1, by omega⟩
     rw [hk, List.getElem?_cons_succ, List.getElem?_drop] at hx hs
     exact old _ hx hs
   ·rcases (hbl b).1 hb with h1 | h1 | h1
    ·subst h1; exact .inr hpn
    ·subst h1; exact .inr hqn
    ·exact .inl (h.fb b h1).1
   ·simp only [List.nodup_cons]
    refine ⟨fun hm => ?_, ?_⟩
    ·rcases (hbl p).1 hm with h1 | h1 | h1
     ·omega
     ·omega
     ·exact hnd.1 h1
    ·rw [hperm.nodup_iff]
     simp only [List.nodup_cons, List.mem_cons, not_or]
     have hne := hSn.ne
     exact ⟨⟨hne, fun hm => by have := hlow _ hm; omega⟩, fun hm => by have := hlow _ hm; omega, hnd.2⟩
   ·rw [Hm]; simp [hpl]
   ·rw [Hm]
    rw [List.pairwise_append]
    have hsr := h.srt
    refine ⟨hsr.sublist (List.take_sublist _ _), List.pairwise_cons.2 ⟨fun s hs => ?_, hsr.sublist (List.drop_sublist _ _)⟩, fun a ha b hb => ?_⟩
    ·obtain ⟨j, hj⟩ := List.getElem?_of_mem hs
     rw [List.getElem?_drop] at hj
     have h1 := hp2 _ s hj
     have h2 : s.st ≠ st := fun e => by
      have := hno (Y3 ss st + j) s (gSi.1 hj).1 hj
      rw [e] at this; simp at this; omega
     show st < s.st
     omega
    ·obtain ⟨i, hi⟩ := List.getElem?_of_mem ha
     rw [List.getElem?_take] at hi
     split at hi
     ·rename_i hlt'
      have hat := (hp2 i a hi).2 hlt'
      rcases List.mem_cons.1 hb with rfl | hb
      ·exact hat
      ·obtain ⟨j, hj⟩ := List.getElem?_of_mem hb
       rw [List.getElem?_drop] at hj
       obtain ⟨hi1, hi2⟩ := gSi.1 hi
       obtain ⟨hj1, hj2⟩ := gSi.1 hj
       have := List.pairwise_iff_getElem.1 hsr i (Y3 ss st + j) hi1 hj1 (by omega)
       rw [hi2, hj2] at this; exact this
     ·cases hi
end Go.Ar
namespace Go.Ar
open Go Go.Vc Go.Proofs


variable {U : Hp} {F : Rg} {p : Nat} {c : Cls} {ps : List (Nat × Nat)} {ss : List SpA}
theorem WeD (h : CeH U F p c ps ss) {R : Option Addr -> Hp -> Prop}
 (hR : ∀ σ' p' ps', Ext0 U σ' -> U.size <= p' -> CeH σ' (fun b => U.size <= b) p' c ps' ss -> R (some ⟨p', 0, none⟩) σ') : X1.call (some ⟨p, 0, none⟩) U R := by
 refine X1.of_vc ?_
 unfold X1.vc
 obtain ⟨sl, hb, hl, hrow, rb, cs, hE⟩ := h.sl'
 have hfew := h.few
 have hpl := h.len
 refine Qy h (ifF rfl (nilP (hb.rI2 rfl (hb.rI2 rfl (hb.rI2 rfl ?_)))))
 refine nw (cs := [.int .i64 c.size, .int .i64 c.pages, .int .i64 c.batch, .slice none 0 0]) fun v1 hz1 e1 hb1 => nilP ((e1.blk hb id).rS rfl ?_)
 refine YX (a := .i .i64) (fun (t : Int) v => ∃ (i : Nat) (qs : List (Nat × Nat)), t = (i : Int) /\ i <= ss.length /\ Ext0 U v /\ CeH v (fun b => U.size <= b) U.size c qs (ss.take i)) (fun t _ => ss.length - t.toNat) ⟨0, [], rfl, by omega, e1, ?_⟩ ?_
 ·exact ⟨⟨⟨none, 0, 0⟩, hb1, RowR.nil _ _ _ _⟩, by simp, Nat.le_refl _, by simp [blks], by simp [blks], rfl, h.ok, by simp⟩
 rintro t v ⟨i, qs, rfl, hi, e, hC⟩
 refine ifD (fun hlt => ?_) fun hge => ?_
 ·simp only at hlt
  have hi' : i < ss.length := by omega
  obtain ⟨E, hcap, hcl⟩ := hE (by rintro rfl; simp at hi')
  obtain ⟨x, s, hx, hs, hS⟩ := h.at_i hi'
  have eg := Zx hx hs
  rw [E.a]
  refine ix (by omega) (by omega) ?_
  rw [add_lit, show 0 + (i : Int).toNat * 3 = 3 * i by omega]
  refine Us (e := 0) (e.blk E.blk id) (E.get eg.1) (E.get eg.2.1) (E.get eg.2.2) (G6 fun v6 e6 b6 => ?_)
  have hC := CeH.loc.cut hC
  have hC6 := hC.keep0 e6
  obtain ⟨o, hbo, hro⟩ := hC6.hd
  have hql := hC6.len
  have htl : (ss.take i).length = i := by rw [List.length_take]; omega
  refine ⟨fun h' => Blk h' U.size [.int .i64 (c.size : Int), .int .i64 (c.pages : Int), .int .i64 (c.batch : Int), .slice o.a o.len o.cap] /\ Blk h' v.size [.int .i64 s.many, .int .i64 s.st, .pointer (some ⟨x.1, 0, none⟩)], ⟨hbo, b6⟩, ?_⟩
  refine nilP ⟨o, fun h' hS => by rw [add_lit, hS.1.cell]; rfl, ⟨_, fun h' hS => by rw [add_lit, add_lit, hS.2.cell]; rfl, ⟨_, fun h' hS => by rw [add_lit, add_lit, hS.2.cell]; rfl, ⟨_, fun h' hS => by rw [add_lit, hS.2.cell]; rfl, ?_⟩⟩⟩⟩
  refine Wd3 ((hS.keep0 e).keep0 e6) fun v7 pn qn e7 hpn hqn hSn => ⟨⟨e7.blk hbo id, e7.blk b6 id⟩, ?_⟩
  have hSnl := hSn.lt
  refine nw (cs := [.int .i64 s.many, .int .i64 s.st, .pointer (some ⟨pn, 0, none⟩)]) fun v8 hz8 e8 hb8 => ⟨⟨(e7.trans e8).blk hbo id, (e7.trans e8).blk b6 id⟩, ?_⟩
  have hvs := e.1
  have hlt0 : U.size < v6.size := hbo.lt
  have h6s := e6.1
  have h7s := e7.1
  have hrow8 := (RowR.loc _ _ _).keep0 ((RowR.loc _ _ _).keep0 hro e7) e8
  have hol := hrow8.1
  rw [ZY hql, htl] at hol
  refine hrow8.app (ys := [.int .i64 s.many, .int .i64 s.st, .pointer (some ⟨pn, 0, none⟩)]) rfl rfl ?_ (by simp [one1]) ?_ ?_ Nat.zero_lt_one fun s' v9 hl' e9 ho' => ?_
  ·intro j u hu
   rw [add_lit, Nat.zero_add, hb8.cell]; exact hu
  ·simp only; have : (o.len + 1) * 24 <= 1025 * 24 := Nat.mul_le_mul (by omega) (by omega); omega
  ·simp only; omega
  ·have hbo9 := e9.blk ((e7.trans e8).blk hbo id) fun hh => hh.2.1 rfl
   have hb69 := e9.blk ((e7.trans e8).blk b6 id) fun hh => by have := hh.1.2; omega
   refine ⟨⟨hbo9, hb69⟩, nilP (hbo9.s1 (by simp) fun v10 o10 hb10 => ?_)⟩
   have e0 : Ext0 U v10 := by
    refine Ext.fresh (Ext.fresh (((e.trans e6).trans e7).trans e8) e9 fun b hb => hb.1.1) o10.ext fun b hb => by omega
   have hnd := hC.nd
   simp only [List.nodup_cons] at hnd
   have hlow : ∀ b ∈ blks qs, b < v.size := fun b hb => (hC.fb b hb).2
   have htk : ss.take (i + 1) = ss.take i ++ [s] := by rw [List.take_add_one, hs]; rfl
   have hbl : ∀ b, b ∈ blks (qs ++ [(pn, qn)]) ↔ b ∈ blks qs ∨ b = pn ∨ b = qn := by
    intro b; simp [blks]
   refine arN (m := i + 1) (by omega) (by omega) ⟨⟨i + 1, qs ++ [(pn, qn)], rfl, by omega, e0, ⟨s', hb10, ?_⟩, fun j y u hy hu => ?_, Nat.le_refl _, fun b hb => ?_, ?_, ?_, h.ok, ?_⟩, by omega⟩
   ·rw [htk, Qr hql]
    refine (RowR.loc _ _ _).keep ((RowR.loc _ _ _).mono ho' fun b _ hb => ?_) o10.ext fun b _ hb he => hb.2.1 he
    rcases hb with hb | hb
    ·refine ⟨hb.1.1, hb.2.1, fun hm => ?_⟩
     rcases (hbl b).1 hm with h1 | h1 | h1
     ·exact hb.2.2 h1
     ·have := hb.1.2; omega
     ·have := hb.1.2; omega
    ·refine ⟨by omega, by omega, fun hm => ?_⟩
     rcases (hbl b).1 hm with h1 | h1 | h1
     ·have := hlow b h1; omega
     ·omega
     ·omega
   ·rw [htk] at hu
    rcases Nat.lt_or_ge j i with hji | hji
    ·rw [List.getElem?_append_left (by omega)] at hy hu
     have hm := Zu hy
     have hl1 := hlow _ hm.1
     have hl2 := hlow _ hm.2
     have k := hC6.sp j y u hy hu
     exact (((k.keep0 e7).keep0 e8).keep e9 (fun hh => hh.2.2 hm.1) (fun hh => hh.2.2 hm.2)).keep o10.ext (fun he => hnd.1 (he ▸ hm.1)) (fun he => hnd.1 (he ▸ hm.2))
    ·rw [List.getElem?_append_right (by omega)] at hy hu
     have hj0 : j = i := by
      have := (gSi.1 hy).1
      simp at this; omega
     subst hj0
     rw [show j - qs.length = 0 by omega] at hy
     rw [htl, Nat.sub_self] at hu
     simp at hy hu; subst hy; subst hu
     exact ((hSn.keep0 e8).keep e9 (fun hh => by have := hh.1.2; first | omega | (simp only at this; omega)) (fun hh => by have := hh.1.2; first | omega | (simp only at this; omega))).keep o10.ext (by first | omega | (simp only; omega)) (by first | omega | (simp only; omega))
   ·rcases (hbl b).1 hb with h1 | h1 | h1
    ·exact (hC.fb b h1).1
    ·show U.size <= b; omega
    ·show U.size <= b; omega
   ·simp only [List.nodup_cons]
    refine ⟨fun hm => ?_, ?_⟩
    ·rcases (hbl _).1 hm with h1 | h1 | h1
     ·exact hnd.1 h1
     ·omega
     ·omega
    ·have : blks (qs ++ [(pn, qn)]) = blks qs ++ [pn, qn] := by simp [blks]
     rw [this, List.nodup_append]
     refine ⟨hnd.2, by simp [hSn.ne], fun a ha b hb e => ?_⟩
     have := hlow a ha
     simp at hb; omega
   ·rw [htk]; simp [hql]
   ·exact h.srt.sublist (List.take_sublist _ _)
 ·have hii : i = ss.length := by simp only at hge; omega
  subst hii
  rw [List.take_length] at hC
  exact hR v U.size qs e (Nat.le_refl _) hC
end Go.Ar
namespace Go.Ar


variable {c : Cls} {ss : List SpA}
structure CenOk (c : Cls) (ss : List SpA) : Prop where
 ok : c.ok
 tk : ∀ s ∈ ss, s.tk.length = c.n
 far : ss.Pairwise fun a b => a.st + c.pages <= b.st
def Tk (c : Cls) (ss : List SpA) (x : Int) : Prop := isTk c ss x = some true
def Cov (c : Cls) (ss : List SpA) (p : Nat) : Prop := ∃ s ∈ ss, s.st <= p /\ p < s.st + c.pages
theorem CenOk.pos (h : CenOk c ss) : 0 < c.size := by have := h.ok; unfold Cls.ok at this; omega
theorem CenOk.pg (h : CenOk c ss) : 1 <= c.pages := by have := h.ok; unfold Cls.ok at this; omega
theorem CenOk.srt (h : CenOk c ss) : ss.Pairwise fun a b => a.st < b.st := h.far.imp fun {a b} hab => by have := h.pg; omega
theorem CenOk.dis (h : CenOk c ss) {i j : Nat} {s t : SpA} (hi : ss[i]? = some s) (hj : ss[j]? = some t) (hij : i < j) : s.st + c.pages <= t.st := by
 obtain ⟨h1, rfl⟩ := gSi.1 hi
 obtain ⟨h2, rfl⟩ := gSi.1 hj
 exact List.pairwise_iff_getElem.1 h.far i j h1 h2 hij
theorem CenOk.cov1 (h : CenOk c ss) {i j : Nat} {s t : SpA} {p : Nat} (hi : ss[i]? = some s) (hj : ss[j]? = some t) (h1 : s.st <= p) (h2 : p < s.st + c.pages) (h3 : t.st <= p) (h4 : p < t.st + c.pages) : i = j := by
 rcases Nat.lt_trichotomy i j with hl | hl | hl
 ·have := h.dis hi hj hl; omega
 ·exact hl
 ·have := h.dis hj hi hl; omega
theorem WiD (hp : 0 < c.size) {s : SpA} {i : Nat} (hi : i < c.n) : s.st * 256 <= at_ c s i /\ at_ c s i + c.size <= (s.st + c.pages) * 256 := by
 have h1 := Cls.n_mul c
 have h2 : (i + 1) * c.size <= c.n * c.size := Nat.mul_le_mul_right _ hi
 unfold at_
 rw [Nat.add_mul] at h2
 omega
theorem VY (hp : 0 < c.size) {s : SpA} {i x : Nat} (hi : i < c.n) (h1 : at_ c s i <= x) (h2 : x < at_ c s i + c.size) : s.st <= x / 256 /\ x / 256 < s.st + c.pages := by
 have := WiD hp (s := s) hi; omega
theorem KK (h : CenOk c ss) {k l : Nat} {s t : SpA} {i j x : Nat} (hk : ss[k]? = some s) (hl : ss[l]? = some t) (hi : i < c.n) (hj : j < c.n) (h1 : at_ c s i <= x) (h2 : x < at_ c s i + c.size) (h3 : at_ c t j <= x) (h4 : x < at_ c t j + c.size) : k = l /\ s = t /\ i = j := by
 have p1 := VY h.pos hi h1 h2
 have p2 := VY h.pos hj h3 h4
 have e := h.cov1 hk hl p1.1 p1.2 p2.1 p2.2
 subst e
 rw [hk] at hl; cases hl
 refine ⟨rfl, rfl, ?_⟩
 unfold at_ at *
 have hc := h.pos
 rcases Nat.lt_trichotomy i j with hl | hl | hl
 ·have : (i + 1) * c.size <= j * c.size := Nat.mul_le_mul_right _ hl
  rw [Nat.add_mul] at this; omega
 ·exact hl
 ·have : (j + 1) * c.size <= i * c.size := Nat.mul_le_mul_right _ hl
  rw [Nat.add_mul] at this; omega
theorem WeH (h : CenOk c ss) {s : SpA} (hs : s ∈ ss) {x : Int} {i : Nat} (hi : idx c s x = some i) : i < c.n /\ ((s.st * 256 : Nat) : Int) <= x /\ x < (((s.st + c.pages) * 256 : Nat) : Int) /\ ((at_ c s i : Nat) : Int) <= x /\ x < ((at_ c s i + c.size : Nat) : Int) := by
 obtain ⟨h1, h2, h3⟩ := (Kw h.pos).1 hi
 rw [h.tk s hs] at h3
 have := WiD h.pos (s := s) h3
 have e : at_ c s (i + 1) = at_ c s i + c.size := by unfold at_; rw [Nat.add_mul]; omega
 rw [e] at h2
 omega
theorem WgK (h : CenOk c ss) {k : Nat} {s : SpA} {x : Int} {i : Nat} (hs : ss[k]? = some s) (hi : idx c s x = some i) : ofS c ss x = some k := by
 obtain ⟨hk, hse⟩ := gSi.1 hs
 refine List.findIdx?_eq_some_iff_getElem.2 ⟨hk, by rw [hse, hi]; rfl, fun j hj hp => ?_⟩
 have hjl : j < ss.length := by omega
 obtain ⟨i', hi'⟩ := Option.isSome_iff_exists.1 hp
 have a := WeH h (List.mem_of_getElem? hs) hi
 have b := WeH h (List.getElem_mem hjl) hi'
 have := h.dis (gGe hjl) hs hj
 omega
theorem WbT (h : CenOk c ss) {x : Int} {b : Bool} : isTk c ss x = some b ↔ ∃ (k : Nat) (s : SpA) (i : Nat), ss[k]? = some s /\ i < c.n /\ x = ((at_ c s i : Nat) : Int) /\ s.is i = b := by
 constructor
 ·intro hx
  obtain ⟨k, s, i, _, hs, ho, hb⟩ := UN hx
  obtain ⟨h1, h2⟩ := (Ve h.pos).1 ho
  rw [h.tk s (List.mem_of_getElem? hs)] at h2
  exact ⟨k, s, i, hs, h2, h1, hb⟩
 ·rintro ⟨k, s, i, hs, hi, rfl, hb⟩
  have hl := h.tk s (List.mem_of_getElem? hs)
  have ho : obj c s ((at_ c s i : Nat) : Int) = some i := (Ve h.pos).2 ⟨rfl, by omega⟩
  have hid : idx c s ((at_ c s i : Nat) : Int) = some i := (Kw h.pos).2 ⟨Int.le_refl _, by have := h.pos; unfold at_; rw [Nat.add_mul]; omega, by omega⟩
  rw [Kf (WgK h hs hid) hs, ho, ← hb]; rfl
theorem KX (h : CenOk c ss) {x : Int} : Tk c ss x ↔ ∃ (k : Nat) (s : SpA) (i : Nat), ss[k]? = some s /\ i < c.n /\ x = ((at_ c s i : Nat) : Int) /\ s.is i = true := WbT h
theorem WaG (h : CenOk c ss) {x : Int} {a : Nat} : Gp c ss x = some a ↔ ∃ (k : Nat) (s : SpA) (i : Nat), ss[k]? = some s /\ i < c.n /\ a = at_ c s i /\ ((at_ c s i : Nat) : Int) <= x /\ x < ((at_ c s i + c.size : Nat) : Int) := by
 constructor
 ·intro hf
  cases ho : ofS c ss x with
  | none => rw [HO ho] at hf; cases hf
  | some k =>
   have hk := (List.findIdx?_eq_some_iff_getElem.1 ho).1
   have hs : ss[k]? = some ss[k] := gGe hk
   rw [V4 ho hs] at hf
   obtain ⟨i, hi, rfl⟩ := Option.map_eq_some_iff.1 hf
   have := WeH h (List.mem_of_getElem? hs) hi
   exact ⟨k, _, i, hs, this.1, rfl, this.2.2.2.1, this.2.2.2.2⟩
 ·rintro ⟨k, s, i, hs, hi, rfl, h1, h2⟩
  have hl := h.tk s (List.mem_of_getElem? hs)
  have e : at_ c s (i + 1) = at_ c s i + c.size := by unfold at_; rw [Nat.add_mul]; omega
  have hid : idx c s x = some i := (Kw h.pos).2 ⟨h1, by rw [e]; exact h2, by omega⟩
  rw [V4 (WgK h hs hid) hs, hid]; rfl
theorem CenOk.put (h : CenOk c ss) {k i : Nat} {s : SpA} (hs : ss[k]? = some s) (v : Bool) : CenOk c (ss.set k (s.put i v)) := by
 have hk := (gSi.1 hs).1
 refine ⟨h.ok, fun t ht => ?_, ?_⟩
 ·rcases List.mem_or_eq_of_mem_set ht with ht | rfl
  ·exact h.tk t ht
  ·rw [show (s.put i v).tk.length = s.tk.length by simp [SpA.put]]; exact h.tk s (List.mem_of_getElem? hs)
 ·rw [List.pairwise_iff_getElem]
  intro a b ha hb hab
  have ha' : a < ss.length := by simpa using ha
  have hb' : b < ss.length := by simpa using hb
  have hst : ∀ j (hj : j < (ss.set k (s.put i v)).length) (hj' : j < ss.length), (ss.set k (s.put i v))[j].st = ss[j].st := by
   intro j hj hj'
   rw [List.getElem_set]
   split
   ·rename_i e
    subst e
    have : ss[k] = s := (gSi.1 hs).2
    rw [this]; rfl
   ·rfl
  rw [hst a ha ha', hst b hb hb']
  exact List.pairwise_iff_getElem.1 h.far a b ha' hb' hab
theorem Gg {k i : Nat} {s : SpA} (hs : ss[k]? = some s) (v : Bool) : (ss.set k (s.put i v)).map (·.st) = ss.map (·.st) := by
 apply List.ext_getElem?
 intro j
 simp only [List.getElem?_map]
 by_cases hjk : j = k
 ·subst hjk; rw [List.getElem?_set_self (gSi.1 hs).1, hs]; rfl
 ·rw [List.getElem?_set_ne (Ne.symm hjk)]
theorem WeA {s : SpA} {i j : Nat} {v : Bool} (hi : i < s.tk.length) : (s.put i v).is j = if j = i then v else s.is j := by
 unfold SpA.is SpA.put
 simp only [List.getD_eq_getElem?_getD]
 by_cases hj : j = i
 ·subst hj; rw [List.getElem?_set_self hi, if_pos rfl]; rfl
 ·rw [List.getElem?_set_ne (Ne.symm hj), if_neg hj]
theorem WgO (h : CenOk c ss) {k i : Nat} {s : SpA} (hs : ss[k]? = some s) (hi : i < c.n) (v : Bool) {y : Int} : Tk c (ss.set k (s.put i v)) y ↔ (y = ((at_ c s i : Nat) : Int) /\ v = true) ∨ (y ≠ ((at_ c s i : Nat) : Int) /\ Tk c ss y) := by
 have hk := (gSi.1 hs).1
 have hl := h.tk s (List.mem_of_getElem? hs)
 have hc := h.pos
 rw [KX (h.put hs v), KX h]
 constructor
 ·rintro ⟨l, t, j, ht, hj, rfl, hb⟩
  by_cases hlk : l = k
  ·subst hlk
   rw [List.getElem?_set_self hk] at ht; cases ht
   rw [WeA (by omega)] at hb
   by_cases hji : j = i
   ·subst hji; rw [if_pos rfl] at hb; exact .inl ⟨rfl, hb⟩
   ·rw [if_neg hji] at hb
    refine .inr ⟨fun e => hji ?_, l, s, j, hs, hj, rfl, hb⟩
    have e' : at_ c s j = at_ c s i := by have := Int.ofNat.inj e; exact this
    exact (KK h hs hs hj hi (Nat.le_refl _) (by omega) (by omega) (by omega)).2.2
  ·rw [List.getElem?_set_ne (Ne.symm hlk)] at ht
   refine .inr ⟨fun e => hlk ?_, l, t, j, ht, hj, rfl, hb⟩
   have e' : at_ c t j = at_ c s i := Int.ofNat.inj e
   exact (KK h ht hs hj hi (Nat.le_refl _) (by omega) (by omega) (by omega)).1
 ·rintro (⟨rfl, rfl⟩ | ⟨hne, l, t, j, ht, hj, rfl, hb⟩)
  ·exact ⟨k, s.put i true, i, List.getElem?_set_self hk, hi, rfl, by rw [WeA (by omega), if_pos rfl]⟩
  ·by_cases hlk : l = k
   ·subst hlk
    rw [hs] at ht; cases ht
    have hji : j ≠ i := fun e => hne (by rw [e])
    exact ⟨l, s.put i v, j, List.getElem?_set_self hk, hj, rfl, by rw [WeA (by omega), if_neg hji]; exact hb⟩
   ·exact ⟨l, t, j, (List.getElem?_set_ne (Ne.symm hlk)).trans ht, hj, rfl, hb⟩
theorem Wea {p : Nat} : Cov c ss p ↔ ∃ x ∈ ss.map (·.st), x <= p /\ p < x + c.pages := by
 constructor
 ·rintro ⟨s, hs, h⟩; exact ⟨_, List.mem_map.2 ⟨s, hs, rfl⟩, h⟩
 ·rintro ⟨x, hx, h⟩
  obtain ⟨s, hs, rfl⟩ := List.mem_map.1 hx
  exact ⟨s, hs, h⟩
theorem WiC {ss' : List SpA} (e : ss'.map (·.st) = ss.map (·.st)) {p : Nat} : Cov c ss' p ↔ Cov c ss p := by rw [Wea, Wea, e]
theorem We3 (h : CenOk c ss) {x : Nat} {ss' : List SpA} (ho : oneS c ss = some (x, ss')) : CenOk c ss' /\ ss'.map (·.st) = ss.map (·.st) /\ ¬ Tk c ss (x : Int) /\ ∀ y, Tk c ss' y ↔ y = (x : Int) ∨ Tk c ss y := by
 unfold oneS at ho
 split at ho
 ·rename_i k hk
  obtain ⟨_, s, hs, hsm⟩ := Qi hk
  rw [hs] at ho
  simp only at ho
  split at ho
  ·rename_i i hi
   cases ho
   obtain ⟨r, hr, hrl, hri⟩ := Gx hsm
   rw [hi] at hr; cases hr
   have hin : i < c.n := by rw [← h.tk s (List.mem_of_getElem? hs)]; exact hrl
   have hnot : ¬ Tk c ss ((at_ c s i : Nat) : Int) := fun ht => by
    have h1 := (WbT h (x := ((at_ c s i : Nat) : Int)) (b := false)).2 ⟨k, s, i, hs, hin, rfl, hri⟩
    unfold Tk at ht
    rw [h1] at ht; cases ht
   refine ⟨h.put hs true, Gg hs true, hnot, fun y => ?_⟩
   rw [WgO h hs hin]
   constructor
   ·rintro (⟨e, _⟩ | ⟨_, ht⟩)
    ·exact .inl e
    ·exact .inr ht
   ·rintro (e | ht)
    ·exact .inl ⟨e, rfl⟩
    ·exact .inr ⟨fun e => hnot (e ▸ ht), ht⟩
  ·cases ho
 ·cases ho
theorem H4 : ∀ (m : Nat) {ss : List SpA}, CenOk c ss -> CenOk c (Z7 c m ss).2 /\ (Z7 c m ss).2.map (·.st) = ss.map (·.st) /\ (Z7 c m ss).1.length <= m /\ (Z7 c m ss).1.Nodup /\ (∀ x ∈ (Z7 c m ss).1, ¬ Tk c ss (x : Int)) /\ ∀ y, Tk c (Z7 c m ss).2 y ↔ (∃ x ∈ (Z7 c m ss).1, y = ((x : Nat) : Int)) ∨ Tk c ss y
 | 0, ss, h => ⟨h, rfl, Nat.le_refl _, List.nodup_nil, by simp [Z7], by simp [Z7]⟩
 | m + 1, ss, h => by
  cases ho : oneS c ss with
  | none =>
   have e : Z7 c (m + 1) ss = ([], ss) := by simp [Z7, ho]
   rw [e]
   exact ⟨h, rfl, by simp, List.nodup_nil, by simp, by simp⟩
  | some r =>
   obtain ⟨x, ss'⟩ := r
   rw [HU ho]
   obtain ⟨h1, h2, h3, h4⟩ := We3 h ho
   obtain ⟨i1, i2, i3, i4, i5, i6⟩ := H4 m h1
   refine ⟨i1, i2.trans h2, by simp; omega, List.nodup_cons.2 ⟨fun hx => i5 x hx ((h4 _).2 (.inl rfl)), i4⟩, ?_, fun y => ?_⟩
   ·intro y hy
    rcases List.mem_cons.1 hy with rfl | hy
    ·exact h3
    ·exact fun ht => i5 y hy ((h4 _).2 (.inr ht))
   ·rw [i6, h4]
    simp only [List.mem_cons, exists_eq_or_imp]
    constructor
    ·rintro (h | h | h)
     ·exact .inl (.inr h)
     ·exact .inl (.inl h)
     ·exact .inr h
    ·rintro ((h | h) | h)
     ·exact .inr (.inl h)
     ·exact .inl h
     ·exact .inr (.inr h)
theorem WaD : ∀ (xs : List Int) {ss : List SpA}, CenOk c ss -> AllT c ss xs -> CenOk c (xs.foldl (put1 c) ss) /\ (xs.foldl (put1 c) ss).map (·.st) = ss.map (·.st) /\ ∀ y, Tk c (xs.foldl (put1 c) ss) y ↔ Tk c ss y /\ y ∉ xs
 | [], ss, h, _ => ⟨h, rfl, by simp⟩
 | x :: xs, ss, h, hA => by
  have hx := hA.1 x (by simp)
  obtain ⟨k, s, i, hk, hs, ho, _⟩ := UN hx
  obtain ⟨h1, h2⟩ := (Ve h.pos).1 ho
  rw [h.tk s (List.mem_of_getElem? hs)] at h2
  have e := GE hk hs ho
  have hp := h.put hs false (i := i)
  have hA' := hA.next h.pos
  obtain ⟨i1, i2, i3⟩ := WaD xs (ss := put1 c ss x) (by rw [e]; exact hp) hA'
  rw [List.foldl_cons]
  refine ⟨i1, i2.trans (by rw [e]; exact Gg hs false), fun y => ?_⟩
  rw [i3, e, WgO h hs h2, ← h1]
  simp only [Bool.false_eq_true, and_false, false_or, List.mem_cons, not_or]
  constructor
  ·rintro ⟨⟨h1, h2⟩, h3⟩; exact ⟨h2, h1, h3⟩
  ·rintro ⟨h2, h1, h3⟩; exact ⟨⟨h1, h2⟩, h3⟩
theorem WdG {s : SpA} (h0 : s.many = 0) (i : Nat) : s.is i = false := by
 unfold SpA.many at h0
 rw [List.count_eq_zero] at h0
 unfold SpA.is
 rw [List.getD_eq_getElem?_getD]
 cases hi : s.tk[i]? with
 | none => rfl
 | some b =>
  cases b
  ·rfl
  ·exact absurd (List.mem_of_getElem? hi) h0
theorem CenOk.sweep (h : CenOk c ss) : CenOk c (Go.Ar.sweep ss) := ⟨h.ok, fun s hs => h.tk s (List.mem_filter.1 hs).1, h.far.filter _⟩
theorem Wca (h : CenOk c ss) {y : Int} : Tk c (sweep ss) y ↔ Tk c ss y := by
 rw [KX h.sweep, KX h]
 constructor
 ·rintro ⟨k, s, i, hs, hi, rfl, hb⟩
  obtain ⟨l, hl⟩ := List.getElem?_of_mem (List.mem_filter.1 (List.mem_of_getElem? hs)).1
  exact ⟨l, s, i, hl, hi, rfl, hb⟩
 ·rintro ⟨k, s, i, hs, hi, rfl, hb⟩
  have : s ∈ sweep ss := List.mem_filter.2 ⟨List.mem_of_getElem? hs, by
   have : s.many ≠ 0 := fun h0 => by rw [WdG h0 i] at hb; cases hb
   simpa using this⟩
  obtain ⟨l, hl⟩ := List.getElem?_of_mem this
  exact ⟨l, s, i, hl, hi, rfl, hb⟩
theorem Hy {x : Nat} : x ∈ Zn ss ↔ ∃ s ∈ ss, s.many = 0 /\ s.st = x := by
 unfold Zn
 simp only [List.mem_map, List.mem_filter, beq_iff_eq, and_assoc]
theorem WaS (h : CenOk c ss) {p : Nat} : Cov c (sweep ss) p ↔ Cov c ss p /\ ¬ ∃ x ∈ Zn ss, x <= p /\ p < x + c.pages := by
 constructor
 ·rintro ⟨s, hs, h1, h2⟩
  have hm := List.mem_filter.1 hs
  refine ⟨⟨s, hm.1, h1, h2⟩, ?_⟩
  rintro ⟨x, hx, h3, h4⟩
  obtain ⟨t, ht, h0, rfl⟩ := Hy.1 hx
  obtain ⟨i, hi⟩ := List.getElem?_of_mem hm.1
  obtain ⟨j, hj⟩ := List.getElem?_of_mem ht
  have e := h.cov1 hi hj h1 h2 h3 h4
  subst e
  rw [hi] at hj; cases hj
  simp [h0] at hm
 ·rintro ⟨⟨s, hs, h1, h2⟩, hn⟩
  refine ⟨s, List.mem_filter.2 ⟨hs, ?_⟩, h1, h2⟩
  have : s.many ≠ 0 := fun h0 => hn ⟨s.st, Hy.2 ⟨s, hs, h0, rfl⟩, h1, h2⟩
  simpa using this
theorem We7 (h : CenOk c ss) : (Zn ss).Pairwise fun a b => a + c.pages <= b := by
 unfold Zn
 rw [List.pairwise_map]
 exact h.far.filter _
theorem KE {st : Nat} {t : SpA} : t ∈ addS c ss st ↔ t = ⟨st, List.replicate c.n false⟩ ∨ t ∈ ss := by
 unfold addS
 rw [List.mem_append, List.mem_cons]
 have : t ∈ ss ↔ t ∈ ss.takeWhile (fun s => decide (s.st < st)) ∨ t ∈ ss.dropWhile (fun s => decide (s.st < st)) := by
  rw [← List.mem_append, List.takeWhile_append_dropWhile]
 rw [this]
 constructor
 ·rintro (h | h | h)
  ·exact .inr (.inl h)
  ·exact .inl h
  ·exact .inr (.inr h)
 ·rintro (h | h | h)
  ·exact .inr (.inl h)
  ·exact .inl h
  ·exact .inr (.inr h)
theorem Wew (h : CenOk c ss) {st : Nat} (hd : ∀ s ∈ ss, s.st + c.pages <= st ∨ st + c.pages <= s.st) : CenOk c (addS c ss st) := by
 refine ⟨h.ok, fun s hs => ?_, ?_⟩
 ·rcases KE.1 hs with rfl | hs
  ·simp
  ·exact h.tk s hs
 ·have hpl := VX h.srt st
  have hpg := h.pg
  rw [Hm]
  refine List.pairwise_append.2 ⟨h.far.sublist (List.take_sublist _ _), List.pairwise_cons.2 ⟨fun b hb => ?_, h.far.sublist (List.drop_sublist _ _)⟩, fun a ha b hb => ?_⟩
  ·obtain ⟨i, hi⟩ := List.getElem?_of_mem hb
   rw [List.getElem?_drop] at hi
   have := hpl.2 _ _ hi
   rcases hd b (List.mem_of_mem_drop hb) with h1 | h1
   ·omega
   ·exact h1
  ·obtain ⟨i, hi⟩ := List.getElem?_of_mem ha
   rw [List.getElem?_take] at hi
   split at hi
   ·rename_i hlt
    rcases List.mem_cons.1 hb with rfl | hb
    ·have := (hpl.2 _ _ hi).2 hlt
     rcases hd a (List.mem_of_getElem? hi) with h1 | h1
     ·exact h1
     ·omega
    ·obtain ⟨j, hj⟩ := List.getElem?_of_mem hb
     rw [List.getElem?_drop] at hj
     exact h.dis hi hj (by omega)
   ·cases hi
theorem Wee (h : CenOk c ss) {st : Nat} (hd : ∀ s ∈ ss, s.st + c.pages <= st ∨ st + c.pages <= s.st) {y : Int} : Tk c (addS c ss st) y ↔ Tk c ss y := by
 rw [KX (Wew h hd), KX h]
 constructor
 ·rintro ⟨k, s, i, hs, hi, rfl, hb⟩
  rcases KE.1 (List.mem_of_getElem? hs) with rfl | hm
  ·have : (⟨st, List.replicate c.n false⟩ : SpA).is i = false := WdG (by simp [SpA.many, List.count_replicate]) i
   rw [this] at hb; cases hb
  ·obtain ⟨l, hl⟩ := List.getElem?_of_mem hm
   exact ⟨l, s, i, hl, hi, rfl, hb⟩
 ·rintro ⟨k, s, i, hs, hi, rfl, hb⟩
  obtain ⟨l, hl⟩ := List.getElem?_of_mem (KE.2 (.inr (List.mem_of_getElem? hs)) : s ∈ addS c ss st)
  exact ⟨l, s, i, hl, hi, rfl, hb⟩
theorem WfV {st : Nat} (hd : ∀ s ∈ ss, s.st + c.pages <= st ∨ st + c.pages <= s.st) : Uw c ss st = 0 := by
 unfold Uw
 rw [if_neg]
 simp only [List.any_eq_true, decide_eq_true_eq, not_exists, not_and]
 intro s hs hlt
 rcases hd s hs with h | h <;> omega
end Go.Ar
namespace Go.Ar

def TrA.rem (t : TrA) : TrA := { low := min t.low (t.bs.length - 1), bs := t.bs.dropLast }
def TrA.tick (t : TrA) : TrA := { low := (t.bs.drop ((t.low + 1) / 2)).length, bs := t.bs.drop ((t.low + 1) / 2) }
def TrA.out (t : TrA) : List (List Int) := t.bs.take ((t.low + 1) / 2)
end Go.Ar
namespace Go.Proofs
open Go.Vc

set_option maxRecDepth 100000
def Yx.hint : Hn := .q (.o 1) (.q (.q (.reg (.seq [.op, .op, .op, .op, .grd false 2 [.op, .op], .op, .grd false 2 [.op, .op]])) (.c (.q (.o 1) (.l)) (.l))) (.q (.o 9) (.q (.q (.reg (.seq [.op, .op, .op, .grd false 8 [.op, .op, .op, .op, .op, .op, .op, .op]])) (.c (.q (.o 1) (.l)) (.l))) (.q (.o 13) (.l)))))
def Yx.vc (m : Option Addr) (page : Int) (U : Hp) (R : Int -> Hp -> Prop) : Prop :=
 Xt.call m U fun t7 v =>
 JnB (fun r v1 =>
 JnB (fun r1 v2 =>
 If r1 (R 0 v2)
 (Nz 8 <| Ar .i64 (page.tdiv 8) fun t19 =>
 Nz 8 <| Ar .i64 (t19.tdiv 8) fun t20 =>
 NilP m fun a21 =>
 IxA (a21.add 1) 16 t20 1 fun a23 =>
 LdP a23 v2 fun vx =>
 JnB (fun r2 v3 =>
 If r2 (R 0 v3)
 (Nz 8 <| Ar .i64 (page.tdiv 8) fun t39 =>
 Nz 8 <|
 NilP vx fun a41 =>
 IxA a41 8 (t39.tmod 8) 1 fun a42 =>
 LdP a42 v3 fun t43 =>
 Nz 8 <|
 NilP t43 fun a46 =>
 IxA a46 8 (page.tmod 8) 1 fun a47 =>
 LdI .i64 a47 v3 fun t48 =>
 R t48 v3)) fun J2 =>
 If vx.isNone (J2 true v2)
 (Nz 8 <| Ar .i64 (page.tdiv 8) fun t30 =>
 Nz 8 <|
 NilP vx fun a32 =>
 IxA a32 8 (t30.tmod 8) 1 fun a33 =>
 LdP a33 v2 fun t34 =>
 J2 t34.isNone v2))) fun J1 =>
 If r (J1 true v1)
 (J1 (decide (page ≥ 1024)) v1)) fun J =>
 If (!t7) (J true v)
 (J (decide (page < 0)) v)
theorem Yx.of_vc {m page U R} (hv : Yx.vc m page U R) : Yx.call m page U R :=
 Wa Tryz.func79 (x := Yx.hint) (Eq.mpr (by kernel_rfl) hv)
def Zk.hint : Hn := .q (.o 1) (.q (.o 3) (.l))
def Zk.vc (U : Hp) (R : Option Addr -> Hp -> Prop) : Prop :=
 Nw (.cells #[.bool true, .pointer none, .pointer none, .pointer none, .pointer none, .pointer none, .pointer none, .pointer none, .pointer none, .pointer none, .pointer none, .pointer none, .pointer none, .pointer none, .pointer none, .pointer none, .pointer none] 203 (0, 0)) U fun n2 v =>
 R (some n2) v
theorem Zk.of_vc {U R} (hv : Zk.vc U R) : Zk.call U R :=
 Wa Tryz.func87 (x := Zk.hint) (Eq.mpr (by kernel_rfl) hv)
def W6.hint : Hn := .q (.o 1) (.q (.q (.o 3) (.c (.q (.o 1) (.l)) (.l))) (.q (.o 2) (.q (.q (.o 4) (.k (.loop [(13, .one (.i .i64))] (.q (.o 1) (.q (.c (.l) (.l)) (.q (.k (.q (.o 4) (.o 8))) (.o 2))))))) (.q (.o 2) (.l)))))
def W6.vc (m : Option Addr) (U : Hp) (R : Option Addr -> Hp -> Prop) : Prop :=
 Xt.call m U fun t7 v =>
 If (!t7) (R none v)
 (Zk.call v fun vx v1 =>
 Yg.call m v1 fun t11 v2 =>
 Xe [(.i .i64)] (fun I => I 0 v2) fun J (t13 : Int) v3 =>
 If (decide (t13 < ((t11.len : Nat) : Int))) (Ix t11.a t11.len t13 3 fun a15 =>
 LdI .i64 (a15.add 0) v3 fun t16 =>
 LdI .i64 (a15.add 1) v3 fun t161 =>
 LdI .i64 (a15.add 2) v3 fun t162 =>
 Nw (.cells #[.int .i64 0, .int .i64 0, .int .i64 0] 211 (0, 0)) v3 fun n5 v4 =>
 St1 (n5.add 0) (.int .i64 t16) v4 fun v5 =>
 St1 (n5.add 1) (.int .i64 t161) v5 fun v6 =>
 St1 (n5.add 2) (.int .i64 t162) v6 fun v7 =>
 LdI .i64 (n5.add 0) v7 fun t19 =>
 LdI .i64 (n5.add 1) v7 fun t21 =>
 LdI .i64 (n5.add 2) v7 fun t23 =>
 Yc.call vx t19 t21 t23 v7 fun t24 v8 =>
 Ar .i64 (t13 + 1) fun t25 =>
 J t25 v8)
 (R vx v3))
theorem W6.of_vc {m U R} (hv : W6.vc m U R) : W6.call m U R :=
 Wa Tryz.func105 (x := W6.hint) (Eq.mpr (by kernel_rfl) hv)
def XO.hint : Hn := .q (.o 1) (.q (.o 5) (.l))
def XO.vc (m : Option Addr) (start : Int) (pages : Int) (U : Hp) (R : Int -> Hp -> Prop) : Prop :=
 Yc.call m start pages 0 U fun t10 v =>
 R t10 v
theorem XO.of_vc {m start pages U R} (hv : XO.vc m start pages U R) : XO.call m start pages U R :=
 Wa Tryz.func143 (x := XO.hint) (Eq.mpr (by kernel_rfl) hv)
def Xt.hint : Hn := .q (.o 1) (.q (.reg (.seq [.op, .op, .op, .grd true 4 [.op, .op, .op, .op], .op])) (.l))
def Xt.vc (m : Option Addr) (U : Hp) (R : Bool -> Hp -> Prop) : Prop :=
 JnB (fun r v =>
 R r v) fun J =>
 If (!m.isNone) (NilP m fun a7 =>
 LdB (a7.add 0) U fun t9 =>
 J t9 U)
 (J false U)
theorem Xt.of_vc {m U R} (hv : Xt.vc m U R) : Xt.call m U R :=
 Wa Tryz.func164 (x := Xt.hint) (Eq.mpr (by kernel_rfl) hv)
def X3.hint : Hn := .q (.o 1) (.q (.q (.reg (.seq [.op, .op, .op, .grd true 6 [.op, .op, .op, .grd false 2 [.op, .op]]])) (.c (.q (.o 1) (.l)) (.l))) (.q (.o 6) (.l)))
def X3.vc (m : Option Addr) (start : Int) (pages : Int) (no : Int) (U : Hp) (R : Int -> Hp -> Prop) : Prop :=
 Xt.call m U fun t10 v =>
 JnB (fun r v1 =>
 If r (R 1 v1)
 (Yc.call m start pages no v1 fun t23 v2 =>
 R t23 v2)) fun J =>
 If t10 (JnB (fun r1 v3 =>
 J r1 v3) fun J1 =>
 If (decide (no < 1)) (J1 true v)
 (J1 (decide (no > 1073741824)) v))
 (J false v)
theorem X3.of_vc {m start pages no U R} (hv : X3.vc m start pages no U R) : X3.call m start pages no U R :=
 Wa Tryz.func169 (x := X3.hint) (Eq.mpr (by kernel_rfl) hv)
def Yg.hint : Hn := .q (.o 1) (.q (.o 1) (.q (.q (.o 1) (.k (.loop [(3, .one .s), (7, .one (.i .i64))] (.q (.o 1) (.q (.c (.l) (.l)) (.q (.k (.q (.o 2) (.q (.o 4) (.q (.o 4) (.k (.q (.o 3) (.c (.l) (.q (.reg (.quiet [.op, .op, .op, .grd true 13 [.op, .op, .op, .op, .op, .op, .op, .op, .op, .op, .op, .op, .op], .op, .grd true 7 [.op, .op, .op, .op, .op, .op, .op], .op])) (.c (.o 9) (.o 7)))))))))) (.o 2))))))) (.q (.o 2) (.l))))
def Yg.vc (m : Option Addr) (U : Hp) (R : Sl -> Hp -> Prop) : Prop :=
 Xe [.s, (.i .i64)] (fun I => I ⟨none, 0, 0⟩ 0 U) fun J (out : Sl) (t7 : Int) v =>
 If (decide (t7 < 1024)) (Yx.call m t7 v fun no v1 =>
 Ar .i64 (((out.len : Nat) : Int) - 1) fun last =>
 If (no == 0) (Ar .i64 (t7 + 1) fun t60 =>
 J out t60 v1)
 (JnB (fun r v2 =>
 JnB (fun r1 v3 =>
 If r1 (Ix out.a out.len last 3 fun a54 =>
 LdI .i64 (a54.add 1) v3 fun t56 =>
 Ar .i64 (t56 + 1) fun t57 =>
 Ix out.a out.len last 3 fun a58 =>
 St1 (a58.add 1) (.int .i64 t57) v3 fun v4 =>
 Ar .i64 (t7 + 1) fun t601 =>
 J out t601 v4)
 (Nw (.cells #[.int .i64 t7, .int .i64 1, .int .i64 no] 211 (0, 0)) v3 fun n20 v5 =>
 App out 3 24 211 [.int .i64 0, .int .i64 0, .int .i64 0] ⟨(some n20), 1, 1⟩ v5 fun out1 v6 =>
 Ar .i64 (t7 + 1) fun t602 =>
 J out1 t602 v6)) fun J2 =>
 If r (Ix out.a out.len last 3 fun a46 =>
 LdI .i64 (a46.add 2) v2 fun t48 =>
 J2 (t48 == no) v2)
 (J2 false v2)) fun J1 =>
 If (decide (last ≥ 0)) (Ix out.a out.len last 3 fun a31 =>
 LdI .i64 (a31.add 0) v1 fun t33 =>
 Ix out.a out.len last 3 fun a36 =>
 LdI .i64 (a36.add 1) v1 fun t38 =>
 Ar .i64 (t33 + t38) fun t39 =>
 J1 (t39 == t7) v1)
 (J1 false v1)))
 (R out v)
theorem Yg.of_vc {m U R} (hv : Yg.vc m U R) : Yg.call m U R :=
 Wa Tryz.func194 (x := Yg.hint) (Eq.mpr (by kernel_rfl) hv)
def Yc.hint : Hn := .q (.o 1) (.q (.k (.q (.o 4) (.c (.q (.o 1) (.l)) (.q (.reg (.seq [.op, .op, .op, .grd false 2 [.op, .op], .op, .grd false 2 [.op, .op], .op, .grd false 4 [.op, .op, .op, .op], .op])) (.c (.q (.o 1) (.l)) (.l)))))) (.q (.q (.o 2) (.k (.loop [(9, .one (.i .i64))] (.q (.q (.o 5) (.c (.l) (.l))) (.q (.k (.o 4)) (.o 3)))))) (.q (.o 1) (.l))))
def Yc.vc (m : Option Addr) (start : Int) (pages : Int) (no : Int) (U : Hp) (R : Int -> Hp -> Prop) : Prop :=
 Xt.call m U fun t12 v =>
 If (!t12) (R 5 v)
 (JnB (fun r v1 =>
 JnB (fun r1 v2 =>
 JnB (fun r2 v3 =>
 If r2 (R 1 v3)
 (Xe [(.i .i64)] (fun I => I start v3) fun J3 (p : Int) v4 =>
 Ar .i64 (start + pages) fun t35 =>
 If (decide (p < t35)) (YO.call m p no v4 fun v5 =>
 Ar .i64 (p + 1) fun p1 =>
 J3 p1 v5)
 (R 0 v4))) fun J2 =>
 If r1 (J2 true v2)
 (Ar .i64 (1024 - start) fun t28 =>
 J2 (decide (pages > t28)) v2)) fun J1 =>
 If r (J1 true v1)
 (J1 (decide (start > 1024)) v1)) fun J =>
 If (decide (start < 0)) (J true v)
 (J (decide (pages < 1)) v))
theorem Yc.of_vc {m start pages no U R} (hv : Yc.vc m start pages no U R) : Yc.call m start pages no U R :=
 Wa Tryz.func195 (x := Yc.hint) (Eq.mpr (by kernel_rfl) hv)
def YO.hint : Hn := .q (.o 9) (.q (.o 8) (.q (.o 7) (.sjn [] (.q (.o 5) (.c (.o 7) (.l))) (.q (.o 5) (.c (.o 8) (.l))))))
def YO.vc (m : Option Addr) (page : Int) (no : Int) (U : Hp) (R : Hp -> Prop) : Prop :=
 Nz 8 <| Ar .i64 (page.tdiv 8) fun t10 =>
 Nz 8 <| Ar .i64 (t10.tdiv 8) fun t11 =>
 NilP m fun a12 =>
 IxA (a12.add 1) 16 t11 1 fun a14 =>
 Ws.call (some a14) U fun vx v =>
 Nz 8 <| Ar .i64 (page.tdiv 8) fun t18 =>
 Nz 8 <|
 NilP vx fun a20 =>
 IxA a20 8 (t18.tmod 8) 1 fun a21 =>
 WC.call (some a21) v fun l v1 =>
 Nz 8 <|
 NilP l fun a27 =>
 IxA a27 8 (page.tmod 8) 1 fun a28 =>
 St1 a28 (.int .i64 no) v1 fun v2 =>
 Jn [] (fun v3 =>
 NilP vx fun a41 =>
 LdP (a41.add 0) v3 fun t42 =>
 LdP (a41.add 1) v3 fun t421 =>
 LdP (a41.add 2) v3 fun t422 =>
 LdP (a41.add 3) v3 fun t423 =>
 LdP (a41.add 4) v3 fun t424 =>
 LdP (a41.add 5) v3 fun t425 =>
 LdP (a41.add 6) v3 fun t426 =>
 LdP (a41.add 7) v3 fun t427 =>
 If (t42.isNone && (t421.isNone && (t422.isNone && (t423.isNone && (t424.isNone && (t425.isNone && (t426.isNone && (t427.isNone && true)))))))) (Nz 8 <| Ar .i64 (page.tdiv 8) fun t47 =>
 Nz 8 <| Ar .i64 (t47.tdiv 8) fun t48 =>
 NilP m fun a49 =>
 IxA (a49.add 1) 16 t48 1 fun a51 =>
 St1 a51 (.pointer none) v3 fun v4 =>
 R v4)
 (R v3)) fun J =>
 NilP l fun a30 =>
 LdI .i64 (a30.add 0) v2 fun t31 =>
 LdI .i64 (a30.add 1) v2 fun t311 =>
 LdI .i64 (a30.add 2) v2 fun t312 =>
 LdI .i64 (a30.add 3) v2 fun t313 =>
 LdI .i64 (a30.add 4) v2 fun t314 =>
 LdI .i64 (a30.add 5) v2 fun t315 =>
 LdI .i64 (a30.add 6) v2 fun t316 =>
 LdI .i64 (a30.add 7) v2 fun t317 =>
 If ((t31 == 0) && ((t311 == 0) && ((t312 == 0) && ((t313 == 0) && ((t314 == 0) && ((t315 == 0) && ((t316 == 0) && ((t317 == 0) && true)))))))) (Nz 8 <| Ar .i64 (page.tdiv 8) fun t36 =>
 Nz 8 <|
 NilP vx fun a38 =>
 IxA a38 8 (t36.tmod 8) 1 fun a39 =>
 St1 a39 (.pointer none) v2 fun v5 =>
 J v5)
 (J v2)
theorem YO.of_vc {m page no U R} (hv : YO.vc m page no U R) : YO.call m page no U R :=
 Wa Tryz.func256 (x := YO.hint) (Eq.mpr (by kernel_rfl) hv)
def Ws.hint : Hn := .q (.o 1) (.sjn [] (.q (.o 4) (.c (.o 4) (.l))) (.q (.o 4) (.l)))
def Ws.vc (node : Option Addr) (U : Hp) (R : Option Addr -> Hp -> Prop) : Prop :=
 Jn [] (fun v =>
 NilP node fun a11 =>
 LdP a11 v fun t12 =>
 R t12 v) fun J =>
 NilP node fun a4 =>
 LdP a4 U fun t5 =>
 If t5.isNone (Nw (.cells #[.pointer none, .pointer none, .pointer none, .pointer none, .pointer none, .pointer none, .pointer none, .pointer none] 294 (0, 0)) U fun n8 v1 =>
 NilP node fun a9 =>
 St1 a9 (.pointer (some n8)) v1 fun v2 =>
 J v2)
 (J U)
theorem Ws.of_vc {node U R} (hv : Ws.vc node U R) : Ws.call node U R :=
 Wa Tryz.func303 (x := Ws.hint) (Eq.mpr (by kernel_rfl) hv)
def WC.hint : Hn := .q (.o 1) (.sjn [] (.q (.o 4) (.c (.o 4) (.l))) (.q (.o 4) (.l)))
def WC.vc (node : Option Addr) (U : Hp) (R : Option Addr -> Hp -> Prop) : Prop :=
 Jn [] (fun v =>
 NilP node fun a11 =>
 LdP a11 v fun t12 =>
 R t12 v) fun J =>
 NilP node fun a4 =>
 LdP a4 U fun t5 =>
 If t5.isNone (Nw (.cells #[.int .i64 0, .int .i64 0, .int .i64 0, .int .i64 0, .int .i64 0, .int .i64 0, .int .i64 0, .int .i64 0] 298 (0, 0)) U fun n8 v1 =>
 NilP node fun a9 =>
 St1 a9 (.pointer (some n8)) v1 fun v2 =>
 J v2)
 (J U)
theorem WC.of_vc {node U R} (hv : WC.vc node U R) : WC.call node U R :=
 Wa Tryz.func304 (x := WC.hint) (Eq.mpr (by kernel_rfl) hv)
end Go.Proofs
namespace Go.Ar
open Go Go.Vc Go.Proofs
open Go.Bu (XA)


variable {U : Hp} {F : Rg} {p : Nat} {M Lf : Nat -> Option Nat} {ow : Nat -> Nat}
def upd {α : Type} (f : Nat -> α) (k : Nat) (v : α) : Nat -> α := fun i => if i = k then v else f i
theorem Y9 {α : Type} (f : Nat -> α) (k : Nat) (v : α) : upd f k v k = v := by simp [upd]
theorem ZB {α : Type} (f : Nat -> α) {k i : Nat} (v : α) (h : i ≠ k) : upd f k v i = f i := by simp [upd, h]
theorem Qe {α : Type} (f : Nat -> α) (n k : Nat) (v : α) : ((List.range n).map f).set k v = (List.range n).map (upd f k v) := by
 apply List.ext_getElem?
 intro i
 by_cases hik : i = k
 ·subst hik
  rcases Nat.lt_or_ge i n with h | h
  ·rw [List.getElem?_set_self (by simpa using h)]; simp [List.getElem?_range h, upd]
  ·rw [List.getElem?_eq_none (by simpa using h), List.getElem?_eq_none (by simpa using h)]
 ·rw [List.getElem?_set_ne (Ne.symm hik)]
  simp only [List.getElem?_map]
  rcases Nat.lt_or_ge i n with h | h
  ·simp [List.getElem?_range h, upd, hik]
  ·simp [List.getElem?_eq_none (show (List.range n).length <= i by simpa using h)]
theorem Qa {α : Type} (f : Nat -> α) {n k : Nat} (h : k < n) : ((List.range n).map f)[k]? = some (f k) := by simp [List.getElem?_range h]
def ptr (o : Option Nat) : Value := .pointer (o.map fun q => ⟨q, 0, none⟩)
structure PmS (U : Hp) (F : Rg) (p : Nat) (M Lf : Nat -> Option Nat) (ow : Nat -> Nat) : Prop where
 hd : Blk U p (.bool true :: (List.range 16).map fun i => ptr (M i))
 mid : ∀ i q, i < 16 -> M i = some q -> Blk U q ((List.range 8).map fun j => ptr (Lf (8 * i + j)))
 midN : ∀ i, i < 16 -> M i = none -> ∀ j, j < 8 -> Lf (8 * i + j) = none
 leaf : ∀ k q, k < 128 -> Lf k = some q -> Blk U q ((List.range 8).map fun j => .int .i64 ((ow (8 * k + j) : Nat) : Int))
 leafN : ∀ k, k < 128 -> Lf k = none -> ∀ j, j < 8 -> ow (8 * k + j) = 0
 fp : F p
 fm : ∀ i q, i < 16 -> M i = some q -> F q /\ q ≠ p
 fl : ∀ k q, k < 128 -> Lf k = some q -> F q /\ q ≠ p
 mm : ∀ i j q, i < 16 -> j < 16 -> M i = some q -> M j = some q -> i = j
 ll : ∀ i j q, i < 128 -> j < 128 -> Lf i = some q -> Lf j = some q -> i = j
 ml : ∀ i k q, i < 16 -> k < 128 -> M i = some q -> Lf k ≠ some q
def PmH (U : Hp) (F : Rg) (p : Nat) (ow : Nat -> Nat) : Prop := ∃ M Lf, PmS U F p M Lf ow
theorem PmS.move {σ' : Hp} {G : Rg} (h : PmS U F p M Lf ow) (hb : ∀ b, b < U.size -> F b -> σ'[b]? = U[b]?) (hg : ∀ b, b < U.size -> F b -> G b) : PmS σ' G p M Lf ow := by
 have kb : ∀ {b : Nat} {cs : List Value}, Blk U b cs -> F b -> Blk σ' b cs := by
  rintro b cs ⟨e, he⟩ hf
  exact ⟨e, (hb b (Blk.lt ⟨e, he⟩) hf).trans he⟩
 exact ⟨kb h.hd h.fp, fun i q hi hq => kb (h.mid i q hi hq) (h.fm i q hi hq).1, h.midN, fun k q hk hq => kb (h.leaf k q hk hq) (h.fl k q hk hq).1, h.leafN, hg p h.hd.lt h.fp,
  fun i q hi hq => ⟨hg q (h.mid i q hi hq).lt (h.fm i q hi hq).1, (h.fm i q hi hq).2⟩, fun k q hk hq => ⟨hg q (h.leaf k q hk hq).lt (h.fl k q hk hq).1, (h.fl k q hk hq).2⟩, h.mm, h.ll, h.ml⟩
theorem PmH.loc : Lcl fun U F => PmH U F p ow := fun U σ' F G ⟨M, Lf, h⟩ hz hs => ⟨M, Lf, h.move (fun b hb hf => (hs b hb hf).2) fun b hb hf => (hs b hb hf).1⟩
theorem PmH.congr {ow' : Nat -> Nat} (h : PmH U F p ow) (he : ∀ x, x < 1024 -> ow x = ow' x) : PmH U F p ow' := by
 obtain ⟨M, Lf, h⟩ := h
 refine ⟨M, Lf, h.hd, h.mid, h.midN, fun k q hk hq => ?_, fun k hk hq j hj => ?_, h.fp, h.fm, h.fl, h.mm, h.ll, h.ml⟩
 ·have := h.leaf k q hk hq
  have e : ((List.range 8).map fun j => Value.int .i64 ((ow (8 * k + j) : Nat) : Int)) = (List.range 8).map fun j => Value.int .i64 ((ow' (8 * k + j) : Nat) : Int) := by
   apply List.map_congr_left
   intro j hj
   rw [List.mem_range] at hj
   rw [he _ (by omega)]
  rw [← e]; exact this
 ·rw [← he _ (by omega)]; exact h.leafN k hk hq j hj
theorem GN (h : PmH U F p ow) {R : Bool -> Hp -> Prop} (hR : R true U) : Xt.call (some ⟨p, 0, none⟩) U R := by
 refine Xt.of_vc ?_
 unfold Xt.vc
 obtain ⟨M, Lf, h⟩ := h
 exact JnB.intro (ifT rfl (nilP (h.hd.rB rfl hR)))
theorem ixA {a : Addr} {n i sz : Nat} {K : Addr -> Prop} (hi : i < n) (hK : K (a.add (i * sz))) : IxA a n (i : Int) sz K := ⟨by omega, by omega, by simpa using hK⟩
theorem PmS.rM (h : PmS U F p M Lf ow) {i : Nat} (hi : i < 16) {K : Option Addr -> Prop} (hK : K ((M i).map fun q => ⟨q, 0, none⟩)) : LdP ⟨p, 1 + i, none⟩ U K := by
 refine h.hd.rP0 ?_ hK
 rw [Nat.add_comm, List.getElem?_cons_succ, Qa _ hi]; rfl
theorem PmS.rL (h : PmS U F p M Lf ow) {i j q : Nat} (hi : i < 16) (hq : M i = some q) (hj : j < 8) {K : Option Addr -> Prop} (hK : K ((Lf (8 * i + j)).map fun q => ⟨q, 0, none⟩)) : LdP ⟨q, j, none⟩ U K :=
 (h.mid i q hi hq).rP0 (Qa _ hj) hK
theorem PmS.rN (h : PmS U F p M Lf ow) {k j q : Nat} (hk : k < 128) (hq : Lf k = some q) (hj : j < 8) {K : Int -> Prop} (hK : K ((ow (8 * k + j) : Nat) : Int)) : LdI .i64 ⟨q, j, none⟩ U K :=
 (h.leaf k q hk hq).rI0 (Qa _ hj) hK
def owI (ow : Nat -> Nat) (x : Int) : Nat := if 0 <= x /\ x < 1024 then ow x.toNat else 0
theorem WgW (h : PmH U F p ow) (x : Int) {R : Int -> Hp -> Prop} (hR : R ((owI ow x : Nat) : Int) U) : Yx.call (some ⟨p, 0, none⟩) x U R := by
 refine Yx.of_vc ?_
 unfold Yx.vc
 have hg := h
 obtain ⟨M, Lf, h⟩ := h
 refine GN hg (JnB.intro (ifF rfl (JnB.intro (ifD (fun hn => ifT rfl ?_) fun hn => ?_))))
 ·have : owI ow x = 0 := by unfold owI; rw [if_neg (by omega)]
  rw [this] at hR; exact hR
 refine ifD (fun hge => ?_) fun hlt => ?_
 ·have : owI ow x = 0 := by unfold owI; rw [if_neg (by omega)]
  rw [this] at hR; exact hR
 obtain ⟨y, rfl⟩ := Int.eq_ofNat_of_zero_le (show 0 <= x by omega)
 have hy : y < 1024 := by omega
 have hv : owI ow (y : Int) = ow y := by unfold owI; rw [if_pos (by omega)]; rfl
 rw [hv] at hR
 have t1 : ((y : Int).tdiv 8) = ((y / 8 : Nat) : Int) := by rw [ZJ (by omega)]; simp
 have t2 : (((y / 8 : Nat) : Int).tdiv 8) = ((y / 8 / 8 : Nat) : Int) := by rw [ZJ (by omega)]; simp
 have t3 : (((y / 8 : Nat) : Int).tmod 8) = ((y / 8 % 8 : Nat) : Int) := by rw [ZK (by omega)]; simp
 have t4 : ((y : Int).tmod 8) = ((y % 8 : Nat) : Int) := by rw [ZK (by omega)]; simp
 have hk : 8 * (y / 8 / 8) + y / 8 % 8 = y / 8 := by omega
 have hk2 : 8 * (y / 8) + y % 8 = y := by omega
 refine nz (by decide) (arN t1 (by omega) (nz (by decide) (arN t2 (by omega) (nilP ?_))))
 refine ixA (by omega) ?_
 rw [add_lit, add_lit, Nat.zero_add, Nat.mul_one]
 refine h.rM (by omega) (JnB.intro ?_)
 cases hM : M (y / 8 / 8) with
 | none =>
  refine ifT rfl (ifT rfl ?_)
  have hN := h.midN _ (by omega) hM (y / 8 % 8) (by omega)
  rw [hk] at hN
  have := h.leafN _ (by omega) hN (y % 8) (by omega)
  rw [hk2] at this
  rw [this] at hR; exact hR
 | some q =>
  refine ifF rfl (nz (by decide) (arN t1 (by omega) (nz (by decide) (nilP ?_))))
  rw [t3]
  refine ixA (by omega) ?_
  rw [add_lit, Nat.zero_add, Nat.mul_one]
  refine h.rL (by omega) hM (by omega) ?_
  rw [hk]
  cases hL : Lf (y / 8) with
  | none =>
   refine ifT rfl ?_
   have := h.leafN _ (by omega) hL (y % 8) (by omega)
   rw [hk2] at this
   rw [this] at hR; exact hR
  | some r =>
   refine ifF rfl (nz (by decide) (arN t1 (by omega) (nz (by decide) (nilP ?_))))
   rw [t3]
   refine ixA (by omega) ?_
   rw [add_lit, Nat.zero_add, Nat.mul_one]
   refine h.rL (by omega) hM (by omega) ?_
   rw [hk, hL]
   refine nz (by decide) (nilP ?_)
   rw [t4]
   refine ixA (by omega) ?_
   rw [add_lit, Nat.zero_add, Nat.mul_one]
   refine h.rN (by omega) hL (by omega) ?_
   rw [hk2]; exact hR
theorem WeM {R : Option Addr -> Hp -> Prop} (hR : ∀ σ' p, Ext0 U σ' -> U.size <= p -> PmH σ' (fun b => U.size <= b) p (fun _ => 0) -> R (some ⟨p, 0, none⟩) σ') : Zk.call U R := by
 refine Zk.of_vc ?_
 unfold Zk.vc
 refine nw (cs := [.bool true, .pointer none, .pointer none, .pointer none, .pointer none, .pointer none, .pointer none, .pointer none, .pointer none, .pointer none, .pointer none, .pointer none, .pointer none, .pointer none, .pointer none, .pointer none, .pointer none]) fun v hz e hb => ?_
 refine hR v _ e (Nat.le_refl _) ⟨fun _ => none, fun _ => none, hb, ?_, ?_, ?_, ?_, Nat.le_refl _, ?_, ?_, ?_, ?_, ?_⟩ <;> intros <;> simp_all
theorem Wdm (h : PmS U F p M Lf ow) {i : Nat} (hi : i < 16) {R : Option Addr -> Hp -> Prop}
 (hR : ∀ σ' M' q, Ext F U σ' -> M' i = some q -> PmS σ' (Grow F U) p M' Lf ow -> R (some ⟨q, 0, none⟩) σ') : Ws.call (some ⟨p, 1 + i, none⟩) U R := by
 refine Ws.of_vc ?_
 unfold Ws.vc
 refine Jn.intro (nilP (h.rM hi ?_))
 cases hM : M i with
 | some q => exact ifF rfl (nilP (h.rM hi (by rw [hM]; exact hR U M q (Ext.refl _ _) hM (h.move (fun _ _ _ => rfl) fun _ _ hf => .inl hf))))
 | none =>
  refine ifT rfl (nw (cs := [.pointer none, .pointer none, .pointer none, .pointer none, .pointer none, .pointer none, .pointer none, .pointer none]) fun v1 hz e1 hb1 => nilP ?_)
  have hp := h.hd.lt
  refine (e1.blk h.hd id).s0 (by simp; omega) fun v2 o2 hb2 => ?_
  have hset : (Value.bool true :: (List.range 16).map fun i => ptr (M i)).set (1 + i) (.pointer (some ⟨U.size, 0, none⟩)) = .bool true :: (List.range 16).map fun j => ptr (upd M i (some U.size) j) := by
   rw [Nat.add_comm, List.set_cons_succ, Qe]
   congr 1
   apply List.map_congr_left
   intro j _
   simp only [upd]
   split <;> rfl
  rw [hset] at hb2
  have old : ∀ {b : Nat} {cs : List Value}, Blk U b cs -> b ≠ p -> Blk v2 b cs := fun hb hn => Xc o2 (e1.blk hb id) hn
  have h2 : PmS v2 (Grow F U) p (upd M i (some U.size)) Lf ow := by
   refine ⟨hb2, fun j q hj hq => ?_, fun j hj hq => ?_, fun k q hk hq => old (h.leaf k q hk hq) (h.fl k q hk hq).2, h.leafN, .inl h.fp, fun j q hj hq => ?_, fun k q hk hq => ⟨.inl (h.fl k q hk hq).1, (h.fl k q hk hq).2⟩, fun j k q hj hk hq1 hq2 => ?_, h.ll, fun j k q hj hk hq => ?_⟩
   ·by_cases hji : j = i
    ·subst hji
     rw [Y9] at hq; cases hq
     have hn := h.midN j hj hM
     have : ((List.range 8).map fun k => ptr (Lf (8 * j + k))) = [.pointer none, .pointer none, .pointer none, .pointer none, .pointer none, .pointer none, .pointer none, .pointer none] := by
      have : ((List.range 8).map fun k => ptr (Lf (8 * j + k))) = (List.range 8).map fun _ => Value.pointer none := by
       apply List.map_congr_left
       intro k hk
       rw [List.mem_range] at hk
       rw [hn k hk]; rfl
      rw [this]; rfl
     rw [this]
     exact Xc o2 hb1 (by omega)
    ·rw [ZB _ _ hji] at hq
     exact old (h.mid j q hj hq) (h.fm j q hj hq).2
   ·by_cases hji : j = i
    ·subst hji; rw [Y9] at hq; cases hq
    ·rw [ZB _ _ hji] at hq; exact h.midN j hj hq
   ·by_cases hji : j = i
    ·subst hji; rw [Y9] at hq; cases hq; exact ⟨.inr (Nat.le_refl _), by omega⟩
    ·rw [ZB _ _ hji] at hq; exact ⟨.inl (h.fm j q hj hq).1, (h.fm j q hj hq).2⟩
   ·by_cases hji : j = i
    ·by_cases hki : k = i
     ·omega
     ·subst hji; rw [Y9] at hq1; cases hq1
      rw [ZB _ _ hki] at hq2
      have := (h.mid k _ hk hq2).lt; omega
    ·rw [ZB _ _ hji] at hq1
     by_cases hki : k = i
     ·subst hki; rw [Y9] at hq2; cases hq2
      have := (h.mid j _ hj hq1).lt; omega
     ·rw [ZB _ _ hki] at hq2; exact h.mm j k q hj hk hq1 hq2
   ·by_cases hji : j = i
    ·subst hji; rw [Y9] at hq; cases hq
     intro hl; have := (h.leaf k _ hk hl).lt; omega
    ·rw [ZB _ _ hji] at hq; exact h.ml j k q hj hk hq
  refine nilP (h2.rM hi ?_)
  rw [Y9]
  exact hR v2 _ U.size (e1.to.trans (o2.ext.sub fun b hb => hb ▸ h.fp)) (Y9 _ _ _) h2
theorem WcQ (h : PmS U F p M Lf ow) {i j q : Nat} (hi : i < 16) (hj : j < 8) (hq : M i = some q) {R : Option Addr -> Hp -> Prop}
 (hR : ∀ σ' L' r, Ext F U σ' -> L' (8 * i + j) = some r -> PmS σ' (Grow F U) p M L' ow -> R (some ⟨r, 0, none⟩) σ') : WC.call (some ⟨q, j, none⟩) U R := by
 refine WC.of_vc ?_
 unfold WC.vc
 have hk : 8 * i + j < 128 := by omega
 refine Jn.intro (nilP (h.rL hi hq hj ?_))
 cases hL : Lf (8 * i + j) with
 | some r => exact ifF rfl (nilP (h.rL hi hq hj (by rw [hL]; exact hR U Lf r (Ext.refl _ _) hL (h.move (fun _ _ _ => rfl) fun _ _ hf => .inl hf))))
 | none =>
  refine ifT rfl (nw (cs := [.int .i64 0, .int .i64 0, .int .i64 0, .int .i64 0, .int .i64 0, .int .i64 0, .int .i64 0, .int .i64 0]) fun v1 hz e1 hb1 => nilP ?_)
  have hm := h.mid i q hi hq
  have hql := hm.lt
  have hf := h.fm i q hi hq
  refine (e1.blk hm id).s0 (by simp; omega) fun v2 o2 hb2 => ?_
  have old : ∀ {b : Nat} {cs : List Value}, Blk U b cs -> b ≠ q -> Blk v2 b cs := fun hb hn => Xc o2 (e1.blk hb id) hn
  have h2 : PmS v2 (Grow F U) p M (upd Lf (8 * i + j) (some U.size)) ow := by
   refine ⟨old h.hd (Ne.symm hf.2), fun i' q' hi' hq' => ?_, fun i' hi' hq' j' hj' => ?_, fun k r hk' hr => ?_, fun k hk' hr => ?_, .inl h.fp, fun i' q' hi' hq' => ⟨.inl (h.fm i' q' hi' hq').1, (h.fm i' q' hi' hq').2⟩, fun k r hk' hr => ?_, h.mm, fun k k' r hk1 hk2 hr1 hr2 => ?_, fun i' k q' hi' hk' hq' => ?_⟩
   ·by_cases hii : i' = i
    ·subst hii
     rw [hq] at hq'; cases hq'
     rw [Qe] at hb2
     have : ((List.range 8).map (upd (fun j => ptr (Lf (8 * i' + j))) j (.pointer (some ⟨U.size, 0, none⟩)))) = (List.range 8).map fun k => ptr (upd Lf (8 * i' + j) (some U.size) (8 * i' + k)) := by
      apply List.map_congr_left
      intro k _
      simp only [upd]
      by_cases hkj : k = j
      ·subst hkj; simp [ptr]
      ·have : ¬ 8 * i' + k = 8 * i' + j := by omega
       simp [hkj, this]
     rw [this] at hb2; exact hb2
    ·have hne : q' ≠ q := fun e => by subst e; exact hii (h.mm i' i q' hi' hi hq' hq)
     have := old (h.mid i' q' hi' hq') hne
     have e : ((List.range 8).map fun k => ptr (upd Lf (8 * i + j) (some U.size) (8 * i' + k))) = (List.range 8).map fun k => ptr (Lf (8 * i' + k)) := by
      apply List.map_congr_left
      intro k hk'
      rw [List.mem_range] at hk'
      rw [ZB _ _ (by omega)]
     rw [e]; exact this
   ·have hne : i' ≠ i := fun e => by subst e; rw [hq] at hq'; cases hq'
    rw [ZB _ _ (by omega)]
    exact h.midN i' hi' hq' j' hj'
   ·by_cases hkk : k = 8 * i + j
    ·subst hkk
     rw [Y9] at hr; cases hr
     have hn := h.leafN _ hk hL
     have : ((List.range 8).map fun j' => Value.int .i64 ((ow (8 * (8 * i + j) + j') : Nat) : Int)) = [.int .i64 0, .int .i64 0, .int .i64 0, .int .i64 0, .int .i64 0, .int .i64 0, .int .i64 0, .int .i64 0] := by
      have : ((List.range 8).map fun j' => Value.int .i64 ((ow (8 * (8 * i + j) + j') : Nat) : Int)) = (List.range 8).map fun _ => Value.int .i64 0 := by
       apply List.map_congr_left
       intro k hk'
       rw [List.mem_range] at hk'
       rw [hn k hk']; rfl
      rw [this]; rfl
     rw [this]
     exact Xc o2 hb1 (by omega)
    ·rw [ZB _ _ hkk] at hr
     exact old (h.leaf k r hk' hr) fun e => by subst e; exact h.ml i k r hi hk' hq hr
   ·by_cases hkk : k = 8 * i + j
    ·subst hkk; rw [Y9] at hr; cases hr
    ·rw [ZB _ _ hkk] at hr; exact h.leafN k hk' hr
   ·by_cases hkk : k = 8 * i + j
    ·subst hkk; rw [Y9] at hr; cases hr
     have := h.hd.lt
     exact ⟨.inr (Nat.le_refl _), by omega⟩
    ·rw [ZB _ _ hkk] at hr; exact ⟨.inl (h.fl k r hk' hr).1, (h.fl k r hk' hr).2⟩
   ·by_cases e1' : k = 8 * i + j
    ·by_cases e2' : k' = 8 * i + j
     ·omega
     ·subst e1'; rw [Y9] at hr1; cases hr1
      rw [ZB _ _ e2'] at hr2
      have := (h.leaf k' _ hk2 hr2).lt; omega
    ·rw [ZB _ _ e1'] at hr1
     by_cases e2' : k' = 8 * i + j
     ·subst e2'; rw [Y9] at hr2; cases hr2
      have := (h.leaf k _ hk1 hr1).lt; omega
     ·rw [ZB _ _ e2'] at hr2; exact h.ll k k' r hk1 hk2 hr1 hr2
   ·by_cases hkk : k = 8 * i + j
    ·subst hkk; rw [Y9]
     intro e; cases e
     have := (h.mid i' _ hi' hq').lt; omega
    ·rw [ZB _ _ hkk]; exact h.ml i' k q' hi' hk' hq'
  refine nilP (h2.rL hi hq hj ?_)
  rw [Y9]
  exact hR v2 _ U.size (e1.to.trans (o2.ext.sub fun b hb => hb ▸ hf.1)) (Y9 _ _ _) h2
end Go.Ar
namespace Go.Ar
open Go Go.Vc Go.Proofs
open Go.Bu (XA)


variable {U : Hp} {F : Rg} {p : Nat} {M Lf : Nat -> Option Nat} {ow : Nat -> Nat}
theorem Wfw (h : PmS U F p M Lf ow) {k r j no : Nat} (hk : k < 128) (hr : Lf k = some r) (hj : j < 8) {σ' : Hp} (ho : Z5 U σ' r) (hb : Blk σ' r (((List.range 8).map fun j => Value.int .i64 ((ow (8 * k + j) : Nat) : Int)).set j (.int .i64 (no : Int)))) :
 PmS σ' F p M Lf (upd ow (8 * k + j) no) := by
 refine ⟨Xc ho h.hd (Ne.symm (h.fl k r hk hr).2), fun i q hi hq => Xc ho (h.mid i q hi hq) fun e => by subst e; exact h.ml i k q hi hk hq hr, h.midN, fun k' r' hk' hr' => ?_, fun k' hk' hr' j' hj' => ?_, h.fp, h.fm, h.fl, h.mm, h.ll, h.ml⟩
 ·by_cases hkk : k' = k
  ·subst hkk
   rw [hr] at hr'; cases hr'
   rw [Qe] at hb
   have : ((List.range 8).map (upd (fun j => Value.int .i64 ((ow (8 * k' + j) : Nat) : Int)) j (.int .i64 (no : Int)))) = (List.range 8).map fun j' => Value.int .i64 ((upd ow (8 * k' + j) no (8 * k' + j') : Nat) : Int) := by
    apply List.map_congr_left
    intro a _
    simp only [upd]
    by_cases haj : a = j
    ·subst haj; simp
    ·have : ¬ 8 * k' + a = 8 * k' + j := by omega
     simp [haj, this]
   rw [this] at hb; exact hb
  ·have hne : r' ≠ r := fun e => by subst e; exact hkk (h.ll k' k r' hk' hk hr' hr)
   have := Xc ho (h.leaf k' r' hk' hr') hne
   have e : ((List.range 8).map fun a => Value.int .i64 ((upd ow (8 * k + j) no (8 * k' + a) : Nat) : Int)) = (List.range 8).map fun a => Value.int .i64 ((ow (8 * k' + a) : Nat) : Int) := by
    apply List.map_congr_left
    intro a ha
    rw [List.mem_range] at ha
    rw [ZB _ _ (by omega)]
   rw [e]; exact this
 ·have hne : k' ≠ k := fun e => by subst e; rw [hr] at hr'; cases hr'
  rw [ZB _ _ (by omega)]
  exact h.leafN k' hk' hr' j' hj'
theorem Wdn (h : PmS U F p M Lf ow) {i j q : Nat} (hi : i < 16) (hj : j < 8) (hq : M i = some q) (hz : ∀ a, a < 8 -> ow (8 * (8 * i + j) + a) = 0) {σ' : Hp} (ho : Z5 U σ' q) (hb : Blk σ' q (((List.range 8).map fun j => ptr (Lf (8 * i + j))).set j (.pointer none))) :
 PmS σ' F p M (upd Lf (8 * i + j) none) ow := by
 have hf := h.fm i q hi hq
 refine ⟨Xc ho h.hd (Ne.symm hf.2), fun i' q' hi' hq' => ?_, fun i' hi' hq' j' hj' => ?_, fun k r hk hr => ?_, fun k hk hr => ?_, h.fp, h.fm, fun k r hk hr => ?_, h.mm, fun k k' r hk1 hk2 hr1 hr2 => ?_, fun i' k q' hi' hk' hq' => ?_⟩
 ·by_cases hii : i' = i
  ·subst hii
   rw [hq] at hq'; cases hq'
   rw [Qe] at hb
   have : ((List.range 8).map (upd (fun j => ptr (Lf (8 * i' + j))) j (.pointer none))) = (List.range 8).map fun k => ptr (upd Lf (8 * i' + j) none (8 * i' + k)) := by
    apply List.map_congr_left
    intro k _
    simp only [upd]
    by_cases hkj : k = j
    ·subst hkj; simp [ptr]
    ·have : ¬ 8 * i' + k = 8 * i' + j := by omega
     simp [hkj, this]
   rw [this] at hb; exact hb
  ·have hne : q' ≠ q := fun e => by subst e; exact hii (h.mm i' i q' hi' hi hq' hq)
   have := Xc ho (h.mid i' q' hi' hq') hne
   have e : ((List.range 8).map fun k => ptr (upd Lf (8 * i + j) none (8 * i' + k))) = (List.range 8).map fun k => ptr (Lf (8 * i' + k)) := by
    apply List.map_congr_left
    intro k hk'
    rw [List.mem_range] at hk'
    rw [ZB _ _ (by omega)]
   rw [e]; exact this
 ·simp only [upd]
  split
  ·rfl
  ·exact h.midN i' hi' hq' j' hj'
 ·by_cases hkk : k = 8 * i + j
  ·subst hkk; rw [Y9] at hr; cases hr
  ·rw [ZB _ _ hkk] at hr
   exact Xc ho (h.leaf k r hk hr) fun e => by subst e; exact h.ml i k r hi hk hq hr
 ·by_cases hkk : k = 8 * i + j
  ·subst hkk; exact hz
  ·rw [ZB _ _ hkk] at hr; exact h.leafN k hk hr
 ·by_cases hkk : k = 8 * i + j
  ·subst hkk; rw [Y9] at hr; cases hr
  ·rw [ZB _ _ hkk] at hr; exact h.fl k r hk hr
 ·by_cases e1' : k = 8 * i + j
  ·subst e1'; rw [Y9] at hr1; cases hr1
  ·rw [ZB _ _ e1'] at hr1
   by_cases e2' : k' = 8 * i + j
   ·subst e2'; rw [Y9] at hr2; cases hr2
   ·rw [ZB _ _ e2'] at hr2; exact h.ll k k' r hk1 hk2 hr1 hr2
 ·by_cases hkk : k = 8 * i + j
  ·subst hkk; rw [Y9]; intro e; cases e
  ·rw [ZB _ _ hkk]; exact h.ml i' k q' hi' hk' hq'
theorem Wgl (h : PmS U F p M Lf ow) {i : Nat} (hi : i < 16) (hz : ∀ j, j < 8 -> Lf (8 * i + j) = none) {σ' : Hp} (ho : Z5 U σ' p) (hb : Blk σ' p ((Value.bool true :: (List.range 16).map fun i => ptr (M i)).set (1 + i) (.pointer none))) :
 PmS σ' F p (upd M i none) Lf ow := by
 have hset : (Value.bool true :: (List.range 16).map fun i => ptr (M i)).set (1 + i) (.pointer none) = .bool true :: (List.range 16).map fun j => ptr (upd M i none j) := by
  rw [Nat.add_comm, List.set_cons_succ, Qe]
  congr 1
  apply List.map_congr_left
  intro j _
  simp only [upd]
  split <;> rfl
 rw [hset] at hb
 have un : ∀ {j q}, upd M i none j = some q -> M j = some q := fun {j q} hq => by
  by_cases hji : j = i
  ·subst hji; rw [Y9] at hq; cases hq
  ·rwa [ZB _ _ hji] at hq
 refine ⟨hb, fun j q hj hq => Xc ho (h.mid j q hj (un hq)) (h.fm j q hj (un hq)).2, fun j hj hq => ?_, fun k q hk hq => Xc ho (h.leaf k q hk hq) (h.fl k q hk hq).2, h.leafN, h.fp, fun j q hj hq => h.fm j q hj (un hq), h.fl, fun a b q ha hb h1 h2 => h.mm a b q ha hb (un h1) (un h2), h.ll, fun a k q ha hk hq => h.ml a k q ha hk (un hq)⟩
 by_cases hji : j = i
 ·subst hji; exact hz
 ·rw [ZB _ _ hji] at hq; exact h.midN j hj hq
theorem Wiu (h : PmH U F p ow) {x no : Nat} (hx : x < 1024) {R : Hp -> Prop} (hR : ∀ σ', Ext F U σ' -> PmH σ' (Grow F U) p (upd ow x no) -> R σ') : YO.call (some ⟨p, 0, none⟩) (x : Int) (no : Int) U R := by
 refine YO.of_vc ?_
 unfold YO.vc
 obtain ⟨M, Lf, h⟩ := h
 have t1 : ((x : Int).tdiv 8) = ((x / 8 : Nat) : Int) := by rw [ZJ (by omega)]; simp
 have t2 : (((x / 8 : Nat) : Int).tdiv 8) = ((x / 8 / 8 : Nat) : Int) := by rw [ZJ (by omega)]; simp
 have t3 : (((x / 8 : Nat) : Int).tmod 8) = ((x / 8 % 8 : Nat) : Int) := by rw [ZK (by omega)]; simp
 have t4 : ((x : Int).tmod 8) = ((x % 8 : Nat) : Int) := by rw [ZK (by omega)]; simp
 have hk : 8 * (x / 8 / 8) + x / 8 % 8 = x / 8 := by omega
 have hk2 : 8 * (x / 8) + x % 8 = x := by omega
 refine nz (by decide) (arN t1 (by omega) (nz (by decide) (arN t2 (by omega) (nilP ?_))))
 refine ixA (by omega) ?_
 rw [add_lit, add_lit, Nat.zero_add, Nat.mul_one]
 refine Wdm h (by omega) fun v1 M1 q e1 hq h1 => ?_
 refine nz (by decide) (arN t1 (by omega) (nz (by decide) (nilP ?_)))
 rw [t3]
 refine ixA (by omega) ?_
 rw [add_lit, Nat.zero_add, Nat.mul_one]
 refine WcQ h1 (by omega) (by omega) hq fun v2 L2 r e2 hr h2 => ?_
 rw [hk] at hr
 have e02 : Ext F U v2 := e1.growT e2
 refine nz (by decide) (nilP ?_)
 rw [t4]
 refine ixA (by omega) ?_
 rw [add_lit, Nat.zero_add, Nat.mul_one]
 have hkl : x / 8 < 128 := by omega
 refine (h2.leaf _ r hkl hr).s0 (by simp; omega) fun v3 o3 b3 => ?_
 have h3 := Wfw h2 hkl hr (by omega) o3 b3
 rw [hk2] at h3
 have grow2 : ∀ b, Grow (Grow F U) v1 b -> Grow F U b := fun b hb => by
  rcases hb with h | h
  ·exact h
  ·exact .inr (Nat.le_trans e1.1 h)
 have e03 : Ext F U v3 := e02.newT o3.ext fun b hb => by subst hb; exact grow2 _ (h2.fl _ _ hkl hr).1
 have tail : ∀ v L4, Ext F U v -> PmS v (Grow (Grow F U) v1) p M1 L4 (upd ow x no) →
  (NilP (some ⟨q, 0, none⟩) fun a41 => LdP (a41.add 0) v fun t42 => LdP (a41.add 1) v fun t421 => LdP (a41.add 2) v fun t422 => LdP (a41.add 3) v fun t423 => LdP (a41.add 4) v fun t424 => LdP (a41.add 5) v fun t425 => LdP (a41.add 6) v fun t426 => LdP (a41.add 7) v fun t427 =>
   If (t42.isNone && (t421.isNone && (t422.isNone && (t423.isNone && (t424.isNone && (t425.isNone && (t426.isNone && (t427.isNone && true)))))))) (Nz 8 <| Ar .i64 ((x : Int).tdiv 8) fun t47 => Nz 8 <| Ar .i64 (t47.tdiv 8) fun t48 => NilP (some ⟨p, 0, none⟩) fun a49 => IxA (a49.add 1) 16 t48 1 fun a51 => St1 a51 (.pointer none) v fun v4 => R v4) (R v)) := by
  intro v L4 ev h4
  have hm := h4.mid _ q (by omega) hq
  have g : ∀ j, j < 8 -> ((List.range 8).map fun j => ptr (L4 (8 * (x / 8 / 8) + j)))[0 + j]? = some (.pointer ((L4 (8 * (x / 8 / 8) + j)).map fun q => ⟨q, 0, none⟩)) := fun j hj => by rw [Nat.zero_add, Qa _ hj]; rfl
  refine nilP (hm.rP (g 0 (by omega)) (hm.rP (g 1 (by omega)) (hm.rP (g 2 (by omega)) (hm.rP (g 3 (by omega)) (hm.rP (g 4 (by omega)) (hm.rP (g 5 (by omega)) (hm.rP (g 6 (by omega)) (hm.rP (g 7 (by omega)) ?_))))))))
  have fin : ∀ w, Ext F U w -> PmH w (Grow (Grow F U) v1) p (upd ow x no) -> R w := fun w ew hw => hR w ew (PmH.loc.mono hw fun b _ hb => grow2 b hb)
  refine iff_ (fun hall => ?_) fun _ => fin v ev ⟨_, _, h4⟩
  have hz : ∀ j, j < 8 -> L4 (8 * (x / 8 / 8) + j) = none := by
   simp only [Option.isNone_map, Bool.and_true, Bool.and_eq_true, Option.isNone_iff_eq_none] at hall
   intro j hj
   obtain ⟨a0, a1, a2, a3, a4, a5, a6, a7⟩ := hall
   match j, hj with
   | 0, _ => exact a0
   | 1, _ => exact a1
   | 2, _ => exact a2
   | 3, _ => exact a3
   | 4, _ => exact a4
   | 5, _ => exact a5
   | 6, _ => exact a6
   | 7, _ => exact a7
  refine nz (by decide) (arN t1 (by omega) (nz (by decide) (arN t2 (by omega) (nilP ?_))))
  refine ixA (by omega) ?_
  rw [add_lit, add_lit, Nat.zero_add, Nat.mul_one]
  refine h4.hd.s0 (by simp; omega) fun v4 o4 b4 => fin v4 (ev.newT o4.ext fun b hb => by subst hb; exact grow2 _ h4.fp) ⟨_, _, Wgl h4 (by omega) hz o4 b4⟩
 refine Jn.intro (nilP ?_)
 have hlf := h3.leaf _ r hkl hr
 have g : ∀ j, j < 8 -> ((List.range 8).map fun j => Value.int .i64 ((upd ow x no (8 * (x / 8) + j) : Nat) : Int))[0 + j]? = some (.int .i64 ((upd ow x no (8 * (x / 8) + j) : Nat) : Int)) := fun j hj => by rw [Nat.zero_add, Qa _ hj]
 refine hlf.rI (g 0 (by omega)) (hlf.rI (g 1 (by omega)) (hlf.rI (g 2 (by omega)) (hlf.rI (g 3 (by omega)) (hlf.rI (g 4 (by omega)) (hlf.rI (g 5 (by omega)) (hlf.rI (g 6 (by omega)) (hlf.rI (g 7 (by omega)) ?_)))))))
 refine iff_ (fun hall => ?_) fun _ => tail v3 L2 e03 h3
 have hz : ∀ j, j < 8 -> upd ow x no (8 * (8 * (x / 8 / 8) + x / 8 % 8) + j) = 0 := by
  rw [hk]
  simp only [Wbj, Bool.and_true, Bool.and_eq_true, beq_iff_eq] at hall
  intro j hj
  obtain ⟨a0, a1, a2, a3, a4, a5, a6, a7⟩ := hall
  match j, hj with
  | 0, _ => exact a0
  | 1, _ => exact a1
  | 2, _ => exact a2
  | 3, _ => exact a3
  | 4, _ => exact a4
  | 5, _ => exact a5
  | 6, _ => exact a6
  | 7, _ => exact a7
 refine nz (by decide) (arN t1 (by omega) (nz (by decide) (nilP ?_)))
 rw [t3]
 refine ixA (by omega) ?_
 rw [add_lit, Nat.zero_add, Nat.mul_one]
 have hm := h3.mid _ q (by omega) hq
 refine hm.s0 (by simp; omega) fun v5 o5 b5 => ?_
 exact tail v5 _ (e03.newT o5.ext fun b hb => by subst hb; exact grow2 _ (h3.fm _ _ (by omega) hq).1) (Wdn h3 (by omega) (by omega) hq hz o5 b5)
def setO (ow : Nat -> Nat) (a m no : Nat) : Nat -> Nat := if XA 1024 a m then fun p => if a <= p /\ p < a + m then no else ow p else ow
def pmE (a m : Int) : Int := if XA 1024 a m then 0 else 1
theorem Wbg (h : PmH U F p ow) (a m : Int) (ha : -1000000000000 <= a) (ha2 : a <= 1000000000000) (no : Nat) {R : Int -> Hp -> Prop} (h1 : XA 1024 a m = false -> R 1 U)
 (hR : ∀ x y : Nat, a = x -> m = y -> 1 <= y -> x + y <= 1024 -> ∀ σ', Ext F U σ' -> PmH σ' (Grow F U) p (setO ow x y no) -> R 0 σ') : Yc.call (some ⟨p, 0, none⟩) a m (no : Int) U R := by
 refine Yc.of_vc ?_
 unfold Yc.vc
 have bad : ¬ (0 <= a /\ 1 <= m /\ m <= 1024 - a) -> R 1 U := fun hn => h1 (by simp only [XA, ← Bool.decide_and]; exact decide_eq_false hn)
 refine GN h (ifF rfl (JnB.intro (ifD (fun c1 => JnB.intro (ifT rfl (JnB.intro (ifT rfl (ifT rfl (bad (by omega))))))) fun c1 => ?_)))
 refine JnB.intro (ifD (fun c2 => JnB.intro (ifT rfl (ifT rfl (bad (by omega))))) fun c2 => ?_)
 refine JnB.intro (ifD (fun c3 => ifT rfl (bad (by omega))) fun c3 => ar (by omega) (by omega) (ifD (fun c4 => bad (by omega)) fun c4 => ?_))
 obtain ⟨x, rfl⟩ := Int.eq_ofNat_of_zero_le (show 0 <= a by omega)
 obtain ⟨y, rfl⟩ := Int.eq_ofNat_of_zero_le (show 0 <= m by omega)
 have hok : XA 1024 (x : Int) (y : Int) = true := by simp only [XA, Bool.and_eq_true, decide_eq_true_eq]; omega
 refine YX (a := .i .i64) (fun (t : Int) v => ∃ i : Nat, t = ((x + i : Nat) : Int) /\ i <= y /\ Ext F U v /\ PmH v (Grow F U) p (fun z => if x <= z /\ z < x + i then no else ow z)) (fun t _ => x + y - t.toNat) ⟨0, rfl, by omega, Ext.refl _ _, ?_⟩ ?_
 ·have : (fun z => if x <= z /\ z < x + 0 then no else ow z) = ow := by
   funext z; rw [if_neg (by omega)]
  rw [this]; exact PmH.loc.mono h fun b _ hb => .inl hb
 rintro t v ⟨i, rfl, hi, e, hP⟩
 refine arN (m := x + y) (by omega) (by omega) (ifD (fun hlt => ?_) fun hge => ?_)
 ·refine Wiu hP (by omega) fun v5 e5 h5 => arN (m := x + (i + 1)) (by omega) (by omega) ⟨⟨i + 1, rfl, by omega, e.growT e5, ?_⟩, by omega⟩
  refine PmH.congr (PmH.loc.mono h5 fun b _ hb => ?_) fun z hz => ?_
  ·rcases hb with h | h
   ·exact h
   ·exact .inr (Nat.le_trans e.1 h)
  ·simp only [upd]
   by_cases hzi : z = x + i
   ·subst hzi; rw [if_pos rfl, if_pos (by omega)]
   ·rw [if_neg hzi]
    by_cases hin : x <= z /\ z < x + i
    ·rw [if_pos hin, if_pos (by omega)]
    ·rw [if_neg hin, if_neg (by omega)]
 ·have : i = y := by omega
  subst this
  refine hR x i rfl rfl (by omega) (by omega) v e ?_
  unfold setO; rw [hok]; exact hP
theorem Whu (h : PmH U F p ow) (a m : Nat) (ha : a <= 1000000) {no : Nat} (hno : 1 <= no) (hno2 : no <= 1000) {R : Int -> Hp -> Prop} (hR : ∀ σ', Ext F U σ' -> PmH σ' (Grow F U) p (setO ow a m no) -> R (pmE a m) σ') : X3.call (some ⟨p, 0, none⟩) a m (no : Int) U R := by
 refine X3.of_vc ?_
 unfold X3.vc
 refine GN h (JnB.intro (ifT rfl (JnB.intro (ifDF (by omega) (ifDF (by omega) ?_)))))
 refine Wbg h a m (by omega) (by omega) no (fun hk => ?_) fun x y hx hy h1 h2 σ' e hP => ?_
 ·have := hR U (Ext.refl _ _) (by unfold setO; rw [hk]; exact PmH.loc.mono h fun b _ hb => .inl hb)
  unfold pmE at this; rw [hk] at this; exact this
 ·have hx' : a = x := by omega
  have hy' : m = y := by omega
  subst hx'; subst hy'
  have hok : XA 1024 (a : Int) (m : Int) = true := by simp only [XA, Bool.and_eq_true, decide_eq_true_eq]; omega
  have := hR σ' e hP
  unfold pmE at this; rw [hok] at this; exact this
theorem Wdg (h : PmH U F p ow) (a m : Nat) (ha : a <= 1000000) {R : Int -> Hp -> Prop} (hR : ∀ σ', Ext F U σ' -> PmH σ' (Grow F U) p (setO ow a m 0) -> R (pmE a m) σ') : XO.call (some ⟨p, 0, none⟩) a m U R := by
 refine XO.of_vc ?_
 unfold XO.vc
 refine Wbg h a m (by omega) (by omega) 0 (fun hk => ?_) fun x y hx hy h1 h2 σ' e hP => ?_
 ·have := hR U (Ext.refl _ _) (by unfold setO; rw [hk]; exact PmH.loc.mono h fun b _ hb => .inl hb)
  unfold pmE at this; rw [hk] at this; exact this
 ·have hx' : a = x := by omega
  have hy' : m = y := by omega
  subst hx'; subst hy'
  have hok : XA 1024 (a : Int) (m : Int) = true := by simp only [XA, Bool.and_eq_true, decide_eq_true_eq]; omega
  have := hR σ' e hP
  unfold pmE at this; rw [hok] at this; exact this
end Go.Ar
namespace Go.Proofs
open Go.Shelf
def Tryz.keysL_ren : Go.Shelf.Ren := ⟨fun | 7 => 225 | 10 => 277 | n => n, fun | 23 => 184 | 26 => 3 | 3 => 4 | 28 => 243 | 0 => 0 | 27 => 242 | 33 => 59 | 4 => 4 | n => n, fun | n => n⟩
theorem Tryz.keysL : Go.Proofs.SlLaysZI.n7 Tryz.prog Tryz.keysL_ren := {
 mixed := by kernel_rfl
 f7 := ⟨Tryz.f225.name, by decide, Tryz.func225.trans (congrArg some (by kernel_rfl))⟩
 f10 := ⟨Tryz.f277.name, by decide, Tryz.func277.trans (congrArg some (by kernel_rfl))⟩
 t0 := Tryz.underlying0
 a0 := Tryz.isAgg0
 z0 := Tryz.sizeOf0
 v0 := Tryz.zeroValue0
 t4 := Tryz.underlying4
 a4 := Tryz.isAgg4
 z4 := Tryz.sizeOf4
 v4 := Tryz.zeroValue4
 t23 := Tryz.underlying184
 a23 := Tryz.isAgg184
 z23 := Tryz.sizeOf184
 v23 := Tryz.zeroValue184
 t26 := Tryz.underlying3
 a26 := Tryz.isAgg3
 z26 := Tryz.sizeOf3
 v26 := Tryz.zeroValue3
 t27 := Tryz.underlying242
 a27 := Tryz.isAgg242
 z27 := Tryz.sizeOf242
 v27 := Tryz.zeroValue242
 t28 := Tryz.underlying243
 a28 := Tryz.isAgg243
 z28 := Tryz.sizeOf243
 v28 := Tryz.zeroValue243
 t33 := Tryz.underlying59
 a33 := Tryz.isAgg59
 z33 := Tryz.sizeOf59
 v33 := Tryz.zeroValue59 }
def Tryz.collL_ren : Go.Shelf.Ren := ⟨fun | 8 => 224 | 11 => 276 | n => n, fun | 26 => 3 | 28 => 243 | 24 => 42 | 0 => 0 | 33 => 59 | 4 => 4 | n => n, fun | n => n⟩
theorem Tryz.collL : Go.Proofs.SlLaysZI.n8 Tryz.prog Tryz.collL_ren := {
 mixed := by kernel_rfl
 f8 := ⟨Tryz.f224.name, by decide, Tryz.func224.trans (congrArg some (by kernel_rfl))⟩
 f11 := ⟨Tryz.f276.name, by decide, Tryz.func276.trans (congrArg some (by kernel_rfl))⟩
 t0 := Tryz.underlying0
 a0 := Tryz.isAgg0
 z0 := Tryz.sizeOf0
 v0 := Tryz.zeroValue0
 t24 := Tryz.underlying42
 a24 := Tryz.isAgg42
 z24 := Tryz.sizeOf42
 v24 := Tryz.zeroValue42
 t26 := Tryz.underlying3
 a26 := Tryz.isAgg3
 z26 := Tryz.sizeOf3
 v26 := Tryz.zeroValue3
 t28 := Tryz.underlying243
 a28 := Tryz.isAgg243
 z28 := Tryz.sizeOf243
 v28 := Tryz.zeroValue243
 i26 := by kernel_rfl }
def Tryz.cloneL_ren : Go.Shelf.Ren := ⟨fun | 5 => 193 | 7 => 255 | n => n, fun | 23 => 184 | 25 => 3 | 3 => 4 | 4 => 4 | 20 => 20 | n => n, fun | n => n⟩
theorem Tryz.cloneL : Go.Proofs.SlLaysW.n5 Tryz.prog Tryz.cloneL_ren := {
 mixed := by kernel_rfl
 f5 := ⟨Tryz.f193.name, by decide, Tryz.func193.trans (congrArg some (by kernel_rfl))⟩
 f7 := Tryz.func255.trans (congrArg some (by kernel_rfl))
 t4 := Tryz.underlying4
 a4 := Tryz.isAgg4
 z4 := Tryz.sizeOf4
 v4 := Tryz.zeroValue4
 t20 := Tryz.underlying20
 a20 := Tryz.isAgg20
 z20 := Tryz.sizeOf20
 v20 := Tryz.zeroValue20
 t23 := Tryz.underlying184
 a23 := Tryz.isAgg184
 z23 := Tryz.sizeOf184
 v23 := Tryz.zeroValue184 }
end Go.Proofs
namespace Go.Bu
open Go Go.Vc Go.Proofs Go.RowKit Go.Maps Go.Sort Go.Shelf


variable {U : Hp}
def SlF (B : Nat) (h : Hp) (s : Sl) (xs : List Value) : Prop :=
 s.len = xs.length /\ (xs = [] /\ s.a = none ∨ ∃ b cs, B <= b /\ s.a = some ⟨b, 0, none⟩ /\ Blk h b cs /\ ∀ j, j < xs.length -> cs[j]? = xs[j]?)
theorem SlF.ixI {B : Nat} {h : Hp} {s : Sl} {xs : List Int} (hs : SlF B h s (xs.map (Value.int .i64))) {i : Nat} {x : Int} (hx : xs[i]? = some x) {K : Int -> Prop} (hK : K x) :
 Ix s.a s.len (i : Int) 1 fun a => LdI .i64 a h K := by
 have hi : i < xs.length := (gSi.1 hx).1
 rcases hs.2 with ⟨h0, _⟩ | ⟨b, cs, _, ha, hb, hc⟩
 ·simp at h0; subst h0; simp at hi
 ·rw [ha]
  refine ix (by omega) (by rw [hs.1]; simp; omega) ?_
  rw [add_lit]
  refine ldI ?_ hK
  rw [hb.cell]
  have := hc i (by simpa using hi)
  simpa [hx] using this
theorem Wcw {w w' : World} (h : Below w.heap.size w w') : Ext0 w.heap w'.heap := ⟨h.size, fun b hb _ => h.block b hb⟩
theorem Wgr {n : Nat} {w w' : World} (h : Below n w w') : Zb w w' := ⟨h.os, h.tape, h.output, h.size⟩
def Gj : Nat := Tryz.keysL_ren.f 10
def WgS : Nat := Tryz.keysL_ren.t 23
theorem Wha (m : Option Nat) {R : Fv -> Hp -> Prop} (hR : R ⟨Gj, #[], #[.pointer (some ⟨U.size, 0, none⟩)]⟩ (U.push (.cells #[.map m] WgS (0, 0)))) :
 Zy.call m U R := by
 rintro w rfl
 refine (callsIn_wide.1 (AnyZI.keys_in Tryz.keysL Fence.wide 5 trivial rfl m w)).mono ?_
 rintro e w' ⟨rfl, rfl⟩
 exact ⟨⟨rfl, rfl, rfl, Nat.le_of_lt (by show _ < (w.heap.push _).size; simp)⟩, [.func (.func Gj) #[] #[.pointer (some ⟨w.heap.size, 0, none⟩)]], rfl, ⟨Gj, #[], #[.pointer (some ⟨w.heap.size, 0, none⟩)]⟩, rfl, hR⟩
def I64 (x : Int) : Prop := -9223372036854775808 <= x /\ x <= 9223372036854775807
theorem Wbf {P : Program} {kt : Nat} (hk : P.underlying kt = some (.int .i64)) {w : World} {m : Nat} {c : CK} {B : List (Int × c.T)} (h : MapL w.heap m .i64 c B) (hb : ∀ x ∈ B, I64 x.1) (hs : B.length <= 1000000) :
 ∃ D : DataW Unit, w.ownsMap P kt (fun _ => some (.nil, [])) m B.length D /\ (intKeys D).Perm (B.map (·.1)) /\ Maps.size D = B.length := by
 obtain ⟨es, clk, hr, he, hn, hp, hlt⟩ := h
 have hlen : es.size = B.length := by simpa using congrArg List.length he
 have hkey : ∀ e ∈ es.toList, ∃ x : Int, e.key = .int .i64 x /\ I64 x := by
  intro e hme
  have : (e.key, e.val) ∈ es.toList.map (fun e => (e.key, e.val)) := List.mem_map_of_mem hme
  rw [he] at this
  obtain ⟨y, hy, e2⟩ := List.mem_map.1 this
  simp only [Prod.mk.injEq] at e2
  exact ⟨y.1, e2.1.symm, hb y hy⟩
 have wf : ∀ x : Int, I64 x -> (Lit.int .i64 x).wf = true := by
  rintro x ⟨h1, h2⟩
  simp [Lit.wf, IntKind.min, IntKind.max, IntKind.bits, IntKind.signed]
  omega
 have hrd : ∀ e ∈ es.toList, ∃ x : Int, e.key = .int .i64 x /\ Go.WideElems.rd P kt (fun _ => some ((.nil : DataW Unit), [])) e = some (.int .i64 x, .nil) := by
  intro e hme
  obtain ⟨x, hx, hi⟩ := hkey e hme
  refine ⟨x, hx, ?_⟩
  simp [Go.WideElems.rd, keyOf, hk, hx, mapKey, wf x hi]
 refine ⟨.map ((es.toList.map (Go.WideElems.rg P kt (fun _ => some (.nil, [])))).foldr DataW.insert []), ⟨es, clk, hr, ⟨?_, ⟨fun x hx => hlt x hx, ?_, ?_⟩, fun x hx => ?_⟩, by omega, rfl⟩, ?_, ?_⟩
 ·have : 1000000 <= maxLen := by unfold maxLen; omega
  omega
 ·exact hp.imp (fun h => Nat.ne_of_lt h)
 ·have e3 : es.toList.map (·.key) = (B.map (·.1)).map (Value.int .i64) := by
   have := congrArg (List.map Prod.fst) he
   simpa [List.map_map, Function.comp_def] using this
  rw [e3]
  exact List.Pairwise.map _ (fun a b (hne : a ≠ b) hab => hne (by simpa using hab)) hn
 ·obtain ⟨x1, _, h1⟩ := hrd x hx
  exact ⟨_, h1⟩
 ·simp only [intKeys]
  refine ((Go.WideShapes.sorted_perm _).map _).trans ?_
  rw [List.map_map]
  have : es.toList.map ((fun p => Go.intOf p.1) ∘ Go.WideElems.rg P kt (fun _ => some ((.nil : DataW Unit), []))) = B.map (·.1) := by
   have e3 : es.toList.map (·.key) = (B.map (·.1)).map (Value.int .i64) := by
    have := congrArg (List.map Prod.fst) he
    simpa [List.map_map, Function.comp_def] using this
   have e4 : es.toList.map ((fun p => Go.intOf p.1) ∘ Go.WideElems.rg P kt (fun _ => some ((.nil : DataW Unit), []))) = (es.toList.map (·.key)).map (fun v => match v with | .int _ x => x | _ => 0) := by
    rw [List.map_map]
    apply List.map_congr_left
    intro e hme
    obtain ⟨x, hx, h1⟩ := hrd e hme
    simp [Function.comp, Go.WideElems.rg, h1, hx, Go.intOf]
   rw [e4, e3, List.map_map]
   conv => rhs; rw [← List.map_id (B.map (·.1))]
   rfl
  rw [this]
 ·simp only [Maps.size]
  rw [(Go.WideShapes.sorted_perm _).length_eq]
  simp [hlen]
theorem WfI {w : World} {B e n : Nat} {v : Value} {xs : List Value} (h : w.ownsRow B e 1 v n xs) : ∃ s : Sl, v = .slice s.a s.len s.cap /\ SlF B w.heap s xs := by
 obtain ⟨hl, h⟩ := h
 rcases h with ⟨rfl, rfl⟩ | ⟨g, cap, cur, rfl, hb, hg, _, _, hcs, ht⟩
 ·exact ⟨⟨none, 0, 0⟩, rfl, by simp at hl; simp [hl], .inl ⟨by simpa using hl, rfl⟩⟩
 ·refine ⟨⟨some ⟨g, 0, none⟩, n, cap⟩, rfl, by simp at hl; simp [hl], .inr ⟨g, cur.toList, hb, rfl, ⟨e, by simpa using hg⟩, fun j hj => ?_⟩⟩
  rw [← ht, List.getElem?_take, if_pos (by omega)]
theorem WfO {w : World} {c m : Nat} {B : List (Int × Bool)} (hc : cell w.heap ⟨c, 0, none⟩ = some (.map (some m))) (hm : MapL w.heap m .i64 .b B) (hb : ∀ x ∈ B, I64 x.1) (hs : B.length <= 1000000) (n : Nat) (hn : 1 <= n) :
 SeqGives Fence.wide n Tryz.prog Gj #[.pointer (some ⟨c, 0, none⟩)] encZ (fun ss => ss.Perm (B.map (·.1))) B.length w := by
 obtain ⟨D, hD, hp, hsz⟩ := Wbf (P := Tryz.prog) Tryz.keysL.t26 hm hb hs
 have hcl : c < w.heap.size := by
  unfold cell at hc
  split at hc
  ·rename_i h; exact (Array.getElem?_eq_some_iff.1 h).1
  ·cases hc
 have := AnyZI.keys_gives (ρ := Tryz.keysL_ren) { Tryz.keysL with } Fence.wide n trivial rfl hn c m B.length D w hcl hc hD
 intro l J W hW hJ hY h0
 rw [hsz] at this
 refine (this l J W hW hJ hY h0).mono ?_
 rintro e W' ⟨he, ss, h1, h2⟩
 exact ⟨he, ss, h1.trans hp, h2⟩
theorem WcI {c m : Nat} {B : List (Int × Bool)} (hc : cell U ⟨c, 0, none⟩ = some (.map (some m))) (hm : MapL U m .i64 .b B) (hb : ∀ x ∈ B, I64 x.1) (hs : B.length <= 1000000) {R : Sl -> Hp -> Prop}
 (hR : ∀ (s : Sl) (σ' : Hp) (ss : List Int), Ext0 U σ' -> ss.Perm (B.map (·.1)) -> SlF U.size σ' s (ss.map (Value.int .i64)) -> R s σ') :
 QT.call ⟨Gj, #[], #[.pointer (some ⟨c, 0, none⟩)]⟩ U R := by
 rintro w rfl
 have hseq := WfO hc hm hb hs 3 (by omega)
 have hml : B.length <= maxLen := by unfold maxLen; omega
 have cS := AnyZI.collect_in Tryz.collL Fence.wide 5 trivial trivial rfl (by omega) Gj #[.pointer (some ⟨c, 0, none⟩)] trivial (Tryz.keysL.f10.enters rfl) _ _ hml (by omega) _ hseq
 refine (callsIn_wide.1 cS).mono ?_
 rintro e w' ⟨v, ss, rfl, hp, hrow, hnil, hbe⟩
 obtain ⟨s, rfl, hsl⟩ := WfI hrow
 exact ⟨Wgr hbe, [.slice s.a s.len s.cap], rfl, s, rfl, hR s _ ss (Wcw hbe) hp hsl⟩
theorem Wfn {m : Nat} {B : List (Int × Bool)} (hm : MapL U m .i64 .b B) {R : Option Nat -> Hp -> Prop}
 (hR : ∀ σ', σ'.size = U.size + 1 -> Ext0 U σ' -> MapL σ' U.size .i64 .b B -> R (some U.size) σ') : Zw.call (some m) U R := by
 rintro w rfl
 obtain ⟨es, clk, hr, rest⟩ := hm
 refine (AnyW.maps_Clone Tryz.cloneL m es clk w hr).mono ?_
 rintro e w' ⟨rfl, rfl⟩
 refine ⟨⟨rfl, rfl, rfl, Nat.le_of_lt (by show _ < (w.heap.push _).size; simp)⟩, [.map (some w.heap.size)], rfl, some w.heap.size, rfl, hR _ (by show (w.heap.push _).size = _; simp) (Ext.push _ _ _) ⟨es, clk, ?_, rest⟩⟩
 show (w.heap.push _)[_]? = _
 simp
end Go.Bu
namespace Go.Bu
open Go Go.Vc Go.Proofs


variable {U : Hp} {p n sb : Nat} {S : Nat -> Bool} {ms : List Nat}
theorem WiM {B : Nat} {s : Sl} {xs : List Int} (hs : SlF B U s (xs.map (Value.int .i64))) (hl : xs.length < 1000000000) {m : Int} (hm : m ∈ xs) (hle : ∀ y ∈ xs, m <= y) {R : Int -> Hp -> Prop} (hR : R m U) : XZ.call s U R := by
 refine XZ.of_vc ?_
 unfold XZ.vc
 have hlen : s.len = xs.length := by simpa using hs.1
 have hpos : 0 < xs.length := List.length_pos_of_mem hm
 refine Jn.intro (ifDF (by omega) ?_)
 have h0 : xs[0]? = some xs[0] := by simp [hpos]
 refine hs.ixI (i := 0) h0 ?_
 refine KA (a := .i .i64) (bb := .i .i64) (fun (c t : Int) h' => ∃ k : Nat, t = (k : Int) /\ k <= xs.length /\ h' = U /\ c ∈ xs /\ ∀ (j : Nat) (y : Int), j < k -> xs[j]? = some y -> c <= y) (fun _ t _ => xs.length - t.toNat)
  ⟨1, rfl, by omega, rfl, List.getElem_mem _, fun j y hj hy => ?_⟩ ?_
 ·have : j = 0 := by omega
  subst this
  rw [h0] at hy; cases hy; omega
 rintro c t h' ⟨k, rfl, hk, rfl, hc, hall⟩
 refine ifD (fun hlt => ?_) (fun hge => ?_)
 ·have hk' : k < xs.length := by omega
  have hx : xs[k]? = some xs[k] := by simp [hk']
  refine hs.ixI hx (arN (m := k + 1) (by omega) (by omega) ⟨⟨k + 1, rfl, by omega, rfl, ?_, fun j y hj hy => ?_⟩, by omega⟩)
  ·split
   ·exact List.getElem_mem _
   ·exact hc
  ·by_cases e : j = k
   ·subst e
    rw [hx] at hy; cases hy
    split <;> omega
   ·have := hall j y (by omega) hy
    split <;> omega
 ·have : k = xs.length := by omega
  subst this
  obtain ⟨j, hj, e⟩ := List.getElem_of_mem hm
  have h1 := hall j m hj (by simp [hj, e])
  have h2 := hle c hc
  have : c = m := Int.le_antisymm h1 h2
  rw [this]; exact hR
def Qj (n : Nat) (S : Nat -> Bool) (k : Nat) : List Nat := ((List.range n).filter (can S k)).map (· * 2 ^ k)
theorem Wia (hb : Bounded S n) {k q : Nat} (hc : can S k q = true) : q < n := by
 have := Zd hb (Y4.1 hc).1
 have h1 := Nat.two_pow_pos k
 have h2 : q <= q * 2 ^ k := Nat.le_mul_of_pos_right _ h1
 omega
theorem ZW (hb : Bounded S n) {k x : Nat} : x ∈ Qj n S k ↔ ∃ q, x = q * 2 ^ k /\ can S k q = true := by
 simp only [Qj, List.mem_map, List.mem_filter, List.mem_range]
 constructor
 ·rintro ⟨q, ⟨_, hc⟩, rfl⟩; exact ⟨q, rfl, hc⟩
 ·rintro ⟨q, rfl, hc⟩; exact ⟨q, ⟨Wia hb hc, hc⟩, rfl⟩
theorem Vz (n : Nat) (S : Nat -> Bool) (k : Nat) : (Qj n S k).Pairwise (· < ·) := by
 unfold Qj
 refine List.Pairwise.map _ (fun a b h => Nat.mul_lt_mul_of_pos_right h (Nat.two_pow_pos k)) ?_
 exact List.Pairwise.sublist List.filter_sublist List.pairwise_lt_range
theorem V6 (n : Nat) (S : Nat -> Bool) (k : Nat) : (Qj n S k).length = many n S k := by
 simp [Qj, many, List.countP_eq_length_filter]
theorem We4 {k : Nat} {B : List (Int × Bool)} (hK : Keys S k B) (hn : (B.map (·.1)).Nodup) (hb : Bounded S n) : (B.map (·.1)).Perm ((Qj n S k).map fun (x : Nat) => (x : Int)) := by
 rw [List.perm_ext_iff_of_nodup hn]
 ·intro x
  simp only [List.mem_map]
  constructor
  ·rintro ⟨⟨x1, x2⟩, hm, rfl⟩
   obtain ⟨_, q, hx, hc⟩ := hK.1 x1 x2 hm
   exact ⟨_, (ZW hb).2 ⟨q, rfl, hc⟩, hx.symm⟩
  ·rintro ⟨y, hy, rfl⟩
   obtain ⟨q, rfl, hc⟩ := (ZW hb).1 hy
   exact ⟨_, hK.2 q hc, rfl⟩
 ·refine List.Pairwise.map _ (fun a b (hlt : a < b) => ?_) (Vz n S k)
  intro e
  have : a = b := by exact_mod_cast e
  omega
theorem WfW {k : Nat} {B : List (Int × Bool)} (hK : Keys S k B) (hb : Bounded S n) (hn : n <= 1024) : ∀ x ∈ B, I64 x.1 := by
 rintro ⟨x, v⟩ hx
 obtain ⟨_, q, rfl, hc⟩ := hK.1 x v hx
 have := Zd hb (Y4.1 hc).1
 have := Nat.two_pow_pos k
 constructor <;> simp only <;> omega
theorem WeE (h : BH U p n S sb ms) {k : Nat} (hk : ms.length <= k) : Qj n S k = [] := by
 rw [List.eq_nil_iff_forall_not_mem]
 intro x hx
 obtain ⟨q, _, hc⟩ := (ZW h.bnd).1 hx
 have := h.fits (Zd h.bnd (Y4.1 hc).1)
 omega
theorem Wfe {h : Hp} {v : Value} {e : Nat} : cell (h.push (.cells #[v] e (0, 0))) ⟨h.size, 0, none⟩ = some v := by simp [cell]
theorem Kv (h : Hp) (o : Obj) : Ext0 h (h.push o) := Ext.push _ _ _
def isPow (a : Int) : Bool := (List.range 11).any fun k => a == ((2 ^ k : Nat) : Int)
theorem Wfj : (List.range 1025).all (fun a => a == 0 || ((a &&& (a - 1)) == 0) == ((List.range 11).any fun k => a == 2 ^ k)) = true := by decide +kernel
theorem Wid {a : Nat} (h1 : 1 <= a) (h2 : a <= 1024) : ((a &&& (a - 1)) == 0) = ((List.range 11).any fun k => a == 2 ^ k) := by
 have := List.all_eq_true.1 Wfj a (List.mem_range.2 (by omega))
 simp only [Bool.or_eq_true, beq_iff_eq] at this
 rcases this with h | h
 ·omega
 ·exact h
theorem Wfb (a : Nat) : isPow (a : Int) = ((List.range 11).any fun k => a == 2 ^ k) := by
 unfold isPow
 congr 1
 funext k
 rw [Bool.eq_iff_iff]
 simp only [beq_iff_eq]
 exact ⟨fun h => by exact_mod_cast h, fun h => by exact_mod_cast h⟩
def takeArg (pages align : Int) : Bool := decide (1 <= pages) && (decide (pages <= 1024) && (decide (1 <= align) && (decide (align <= 1024) && isPow align)))
def Zf (n : Nat) (S : Nat -> Bool) (pages align : Nat) : Nat -> Option Nat
 | 0 => none
 | k + 1 => match Zf n S pages align k with
  | some x => some x
  | none => if pages <= 2 ^ k /\ align <= 2 ^ k then (Qj n S k).head? else none
def Xj (n : Nat) (S : Nat -> Bool) (pages align : Nat) : Option Nat := Zf n S pages align 11
def takeE (n : Nat) (S : Nat -> Bool) (pages align : Int) : Int := if takeArg pages align then (match Xj n S pages.toNat align.toNat with | some _ => 0 | none => 6) else 1
def takeV (n : Nat) (S : Nat -> Bool) (pages align : Int) : Nat := if takeArg pages align then (match Xj n S pages.toNat align.toNat with | some x => x | none => 0) else 0
def takeS (n : Nat) (S : Nat -> Bool) (pages align : Int) : Nat -> Bool := if takeArg pages align then (match Xj n S pages.toNat align.toNat with | some x => take S x (x + pages.toNat) | none => S) else S
theorem Gu {n : Nat} {S : Nat -> Bool} {m a k x : Nat} (h : Zf n S m a k = some x) : ∀ j, k <= j -> Zf n S m a j = some x := by
 intro j hj
 induction j with
 | zero => have : k = 0 := by omega
           subst this; exact h
 | succ j ih =>
  by_cases e : k = j + 1
  ·subst e; exact h
  ·simp only [Zf, ih (by omega)]
theorem GD (h : BH U p n S sb ms) {m a : Nat} (hn : Zf n S m a ms.length = none) : ∀ j, ms.length <= j -> Zf n S m a j = none := by
 intro j hj
 induction j with
 | zero => have : ms.length = 0 := by omega
           rw [this] at hn; exact hn
 | succ j ih =>
  by_cases e : ms.length = j + 1
  ·rw [← e]; exact hn
  ·simp only [Zf, ih (by omega), WeE h (show ms.length <= j by omega)]
   simp
theorem WbF {k : Nat} (hpos : 0 < many n S k) : ∃ x rest, Qj n S k = x :: rest := by
 rw [← V6] at hpos
 match h : Qj n S k with
 | [] => rw [h] at hpos; simp at hpos
 | x :: r => exact ⟨x, r, rfl⟩
theorem Take_ok (h : BH U p n S sb ms) (pages align : Int) {R : Int -> Int -> Hp -> Prop}
 (hR : ∀ σ', Ext (· ∈ ms) U σ' -> BH σ' p n (takeS n S pages align) sb ms -> R ((takeV n S pages align : Nat) : Int) (takeE n S pages align) σ') : XT.call (some ⟨p, 0, none⟩) pages align U R := by
 refine XT.of_vc ?_
 unfold XT.vc
 have hn2 := h.n2
 have hl := h.len
 have bad : takeArg pages align = false -> R 0 1 U := fun e => by
  have := hR U (Ext.refl _ _)
  simp only [takeS, takeV, takeE, e, Bool.false_eq_true, if_false] at this
  exact this h
 have badP : ¬ (1 <= pages /\ pages <= 1024 /\ 1 <= align /\ align <= 1024) -> R 0 1 U := fun hn => bad (by
  simp only [takeArg, ← Bool.and_assoc, ← Bool.decide_and]
  rw [decide_eq_false]; rfl
  omega)
 refine UU h (ifF rfl (JnB.intro ?_))
 refine ifD (fun h1 => JnB.intro (ifT rfl (JnB.intro (ifT rfl (JnB.intro (ifT rfl (ifT rfl (badP (by omega))))))))) fun h1 => ?_
 refine JnB.intro (ifD (fun h2 => JnB.intro (ifT rfl (JnB.intro (ifT rfl (ifT rfl (badP (by omega))))))) fun h2 => ?_)
 refine JnB.intro (ifD (fun h3 => JnB.intro (ifT rfl (ifT rfl (badP (by omega))))) fun h3 => ?_)
 refine JnB.intro (ifD (fun h4 => ifT rfl (badP (by omega))) fun h4 => ?_)
 obtain ⟨a, rfl⟩ := Int.eq_ofNat_of_zero_le (show 0 <= align by omega)
 obtain ⟨m, rfl⟩ := Int.eq_ofNat_of_zero_le (show 0 <= pages by omega)
 refine arN (m := a - 1) (by omega) (by omega) ?_
 rw [Wac (by omega) (by omega)]
 have hand : ((((a &&& (a - 1) : Nat) : Int)) != 0) = !isPow (a : Int) := by
  rw [Wfb, ← Wid (by omega) (by omega)]
  simp only [bne, Bool.not_inj_iff]
  rw [Bool.eq_iff_iff]
  simp only [beq_iff_eq]
  omega
 rw [hand]
 cases hp : isPow (a : Int)
 ·refine ifT rfl (bad ?_)
  simp [takeArg, hp]
 refine ifF rfl ?_
 have hok : takeArg (m : Int) (a : Int) = true := by
  simp only [takeArg, hp, Bool.and_true, Bool.and_eq_true, decide_eq_true_eq]
  omega
 refine nilP (h.rB fun cap => ?_)
 refine YX (a := .i .i64) (fun t h' => ∃ k : Nat, t = (k : Int) /\ k <= ms.length /\ h' = U /\ Zf n S m a k = none) (fun t _ => ms.length - t.toNat) ⟨0, rfl, by omega, rfl, rfl⟩ ?_
 rintro t h' ⟨k, rfl, hk, rfl, hno⟩
 refine ifD (fun hlt => ?_) (fun hge => ?_)
 ·simp only at hlt
  obtain ⟨mm, hm⟩ := h.get (k := k) (by omega)
  refine h.rM hm (shl1 (by omega) (JnB.intro ?_))
  have next : Zf n S m a (k + 1) = none -> Ar .i64 ((k : Int) + 1) fun t67 => (∃ k : Nat, t67 = (k : Int) /\ k <= ms.length /\ h' = h' /\ Zf n S m a k = none) /\ ms.length - t67.toNat < ms.length - (k : Int).toNat :=
   fun hno' => arN (m := k + 1) (by omega) (by omega) ⟨⟨k + 1, rfl, by omega, rfl, hno'⟩, by omega⟩
  refine ifD (fun hbig => ?_) (fun hsm => ifF rfl (next ?_))
  ·have hbig' : m <= 2 ^ k /\ a <= 2 ^ k := by
    have : ((if (a : Int) > (m : Int) then (a : Int) else (m : Int)) <= ((2 ^ k : Nat) : Int)) := hbig
    split at this <;> omega
   refine h.mlen hm ?_
   refine ifD (fun hpos => ?_) (fun hz => next ?_)
   ·have hpos' : 0 < many n S k := by omega
    obtain ⟨x, rest, hx⟩ := WbF hpos'
    obtain ⟨q, rfl, hc⟩ := (ZW h.bnd (k := k) (x := x)).1 (by rw [hx]; simp)
    have hat : Xj n S m a = some (q * 2 ^ k) := by
     refine Gu (k := k + 1) ?_ 11 (by omega)
     simp only [Zf, hno, if_pos hbig', hx, List.head?_cons]
    have hfb := Zd h.bnd (Y4.1 hc).1
    obtain ⟨B, hB, hkk⟩ := h.maps k mm hm
    have hcount := Gb hkk hB.nodup h.bnd
    have hle : B.length <= 1024 := by
     rw [hcount]
     have := List.countP_le_length (p := can S k) (l := List.range n)
     simp only [many, List.length_range] at *
     omega
    refine Wha _ ?_
    have e1 := Kv h' (.cells #[.map (some mm)] WgS (0, 0))
    refine WcI Wfe (e1.mapL hB id) (WfW hkk h.bnd h.n2) (by omega) fun s σ' ss e2 hp hsl => ?_
    have hss := hp.trans (We4 hkk hB.nodup h.bnd)
    have hsl' := hss.length_eq
    simp only [List.length_map] at hsl'
    rw [V6, ← hcount] at hsl'
    refine WiM hsl (by omega) (m := ((q * 2 ^ k : Nat) : Int)) (hss.mem_iff.2 (by rw [hx]; simp)) (fun y hy => ?_) ?_
    ·have hy' := hss.mem_iff.1 hy
     have hsorted := Vz n S k
     rw [hx] at hy' hsorted
     simp only [List.map_cons, List.mem_cons, List.mem_map] at hy'
     rcases hy' with rfl | ⟨z, hz, rfl⟩
     ·omega
     ·have := (List.pairwise_cons.1 hsorted).1 z hz
      omega
    ·have hB2 := (h.keep0 e1).keep0 e2
     refine WgV hB2 (by omega) (fun y hy1 hy2 => QH hc (Zo.2 (by omega))) fun h3 e3 hB3 => ?_
     have := hR h3 ((e1.to.trans e2.to).trans e3)
     simp only [takeS, takeV, takeE, hok, iTn, hat, if_true] at this
     exact this hB3
   ·simp only [Zf, hno, if_pos hbig']
    have : Qj n S k = [] := List.eq_nil_of_length_eq_zero (by rw [V6]; omega)
    rw [this]; rfl
  ·have hsm' : ¬ (m <= 2 ^ k /\ a <= 2 ^ k) := by
    have : ¬ ((if (a : Int) > (m : Int) then (a : Int) else (m : Int)) <= ((2 ^ k : Nat) : Int)) := hsm
    split at this <;> omega
   simp only [Zf, hno, if_neg hsm']
 ·simp only at hge
  have : k = ms.length := by omega
  subst this
  have hat : Xj n S m a = none := GD h hno 11 (by omega)
  have := hR h' (Ext.refl _ _)
  simp only [takeS, takeV, takeE, hok, iTn, hat, if_true] at this
  exact this h
end Go.Bu
namespace Go.Ar
open Go.Bu


structure AR where
 n : Nat
 room : Nat
 tb : List Cls
 S : Nat -> Bool
 st : List Nat
 ow : Nat -> Nat
 cen : List (List SpA)
 tra : List TrA
 runs : List (Nat × Nat)
def AR.ck (A : AR) (k : Int) : Bool := decide (0 <= k) && decide (k < (A.tb.length : Int))
def Q3 (A : AR) (r : Nat × Nat) : AR := { A with ow := setO A.ow r.1 r.2 0, st := Kb A.st r.1 r.2 2 [1], S := Zg A.n A.S r.1 r.2 }
def QD (A : AR) (rs : List (Nat × Nat)) : AR := rs.foldl Q3 A
def ZA (sp : Sp) (size : Nat) : Option Nat := ((List.range (sp.st.length / size)).map (· * size)).find? fun s => s != 0 && mapE sp s size == 0
def Vi (st : List Nat) (a m : Nat) : List Nat := ((List.range m).map (a + ·)).foldl (fun l (h : Nat) => addT l h) st
def Kg (A : AR) (sp : Sp) (size : Nat) : Option (AR × Sp) := match ZA sp size with
 | none => none
 | some s => some ({ A with st := Vi A.st (s / 16) (size / 16), S := Zg A.n A.S s size }, mapS sp s size)
def ZZ (m : Nat) : Nat := if m <= 16 then 16 else if m <= 32 then 32 else 64
def useA (A : AR) (x pages no : Nat) : AR := { A with S := take A.S x (x + pages), st := Kb A.st x pages 1 [2, 3], ow := setO A.ow x pages no }
def getA (A : AR) (sp : Sp) (pages align no : Nat) : Option Nat × AR × Sp := match Xj A.n A.S pages align with
 | some x => (some x, useA A x pages no, sp)
 | none => match Kg A sp (ZZ (max pages align)) with
  | none => (none, A, sp)
  | some (A', sp') => match Xj A'.n A'.S pages align with
   | some x => (some x, useA A' x pages no, sp')
   | none => (none, A', sp')
def Z1 (A : AR) (k : Int) : Int := if A.ck k then (match A.tra[k.toNat]? with
 | some t => if t.bs = [] then 4 else 0
 | none => 5) else 1
def Y8 (A : AR) (k : Int) : List Int := if Z1 A k = 0 then (match A.tra[k.toNat]? with
 | some t => t.bs.getLast?.getD []
 | none => []) else []
def Y7 (A : AR) (k : Int) : AR := if Z1 A k = 0 then { A with tra := A.tra.modify k.toNat TrA.rem } else A
def VM (A : AR) (k : Int) (xs : List Int) : Int := if A.ck k then (match A.tb[k.toNat]?, A.cen[k.toNat]? with
 | some c, some ss => if xs.length = c.batch then (if xs.all (fun x => isTk c ss x == some true) then 0 else 8) else 1
 | _, _ => 5) else 1
def KJ (A : AR) (k : Int) (xs : List Int) : Bool := decide (VM A k xs = 0) && (match A.tra[k.toNat]? with
 | some t => decide (t.bs.length < A.room)
 | none => false)
def Qu (A : AR) (k : Int) (xs : List Int) : AR := if KJ A k xs then { A with tra := A.tra.modify k.toNat fun t => { t with bs := t.bs ++ [xs] } } else A
def Zm (A : AR) (k m : Int) : Int := if A.ck k then (if m < 0 then 1 else 0) else 1
def K8 (A : AR) (k m : Int) : List Nat × List SpA := match A.tb[k.toNat]?, A.cen[k.toNat]? with
 | some c, some ss => Z7 c m.toNat ss
 | _, _ => ([], [])
def YY (A : AR) (k m : Int) : List Nat := if Zm A k m = 0 then (K8 A k m).1 else []
def Ye (A : AR) (k m : Int) : AR := if Zm A k m = 0 then { A with cen := A.cen.set k.toNat (K8 A k m).2 } else A
def Zr (A : AR) (k : Int) (xs : List Int) : Int := if A.ck k then (match A.tb[k.toNat]?, A.cen[k.toNat]? with
 | some c, some ss => putE c ss xs
 | _, _ => 5) else 1
def Yu (A : AR) (k : Int) (xs : List Int) : AR := if Zr A k xs = 0 then (match A.tb[k.toNat]?, A.cen[k.toNat]? with
 | some c, some ss => QD { A with cen := A.cen.set k.toNat (sweep (xs.foldl (put1 c) ss)) } ((Zn (xs.foldl (put1 c) ss)).map fun s => (s, c.pages))
 | _, _ => A) else A
def KT (A : AR) (sp : Sp) (k : Int) : Int := if A.ck k then (match A.tb[k.toNat]?, A.cen[k.toNat]? with
 | some c, some ss => (match (getA A sp c.pages 1 (k.toNat + 1)).1 with
  | some x => Uw c ss x
  | none => 6)
 | _, _ => 5) else 1
def ZX (A : AR) (sp : Sp) (k : Int) : AR × Sp := if A.ck k then (match A.tb[k.toNat]?, A.cen[k.toNat]? with
 | some c, some ss => (match getA A sp c.pages 1 (k.toNat + 1) with
  | (some x, A', sp') => (if Uw c ss x = 0 then { A' with cen := A'.cen.set k.toNat (addS c ss x) } else A', sp')
  | (none, A', sp') => (A', sp'))
 | _, _ => (A, sp)) else (A, sp)
def Qo (m a : Int) : Bool := decide (1 <= m) && (decide (m <= 64) && (a == 1 || (a == 2 || (a == 4 || (a == 8 || a == 16)))))
def ZT (A : AR) (sp : Sp) (m a : Int) : Int := if Qo m a then (if (getA A sp m.toNat a.toNat 41).1.isSome then 0 else 6) else 1
def QF (A : AR) (sp : Sp) (m a : Int) : Nat := if Qo m a then (getA A sp m.toNat a.toNat 41).1.getD 0 else 0
def Yt (A : AR) (sp : Sp) (m a : Int) : AR × Sp := if Qo m a then (match getA A sp m.toNat a.toNat 41 with
 | (some x, A', sp') => ({ A' with runs := mset2 A'.runs x m.toNat }, sp')
 | (none, A', sp') => (A', sp')) else (A, sp)
where mset2 (l : List (Nat × Nat)) (x m : Nat) : List (Nat × Nat) := if l.any (fun r => r.1 == x) then l.map (fun r => if r.1 == x then (x, m) else r) else l ++ [(x, m)]
def KB (A : AR) (x : Int) : Option (Nat × Nat) := A.runs.find? fun r => (r.1 : Int) == x
def ZS (A : AR) (x : Int) : Int := if (KB A x).isSome then 0 else 8
def ZO (A : AR) (x : Int) : AR := match KB A x with
 | some r => Q3 { A with runs := A.runs.filter fun q => !((q.1 : Int) == x) } r
 | none => A
def Gv (A : AR) (p : Nat) : Option (Nat × Nat) := A.runs.find? fun r => decide (r.1 <= p) && decide (p < r.1 + r.2)
def Vu (A : AR) (x : Int) : Option (Int × Nat) := if x < 0 then none else
 let p := x.toNat / 256
 let no := if p < 1024 then A.ow p else 0
 if no = 0 then none else if no = 41 then (Gv A p).map fun r => (-1, r.1 * 256) else
 match A.tb[no - 1]?, A.cen[no - 1]? with
 | some c, some ss => (Gp c ss x).map fun a => (((no - 1 : Nat) : Int), a)
 | _, _ => none
def Ub (A : AR) (x : Int) : Bool := match Vu A x with
 | some (k, a) => if (a : Int) = x then (if k < 0 then true else (match A.tb[k.toNat]?, A.cen[k.toNat]? with
  | some c, some ss => isTk c ss x == some true
  | _, _ => false)) else false
 | none => false
def Uz (A : AR) (p : Int) : Bool := decide (0 <= p) && decide (A.st.getD p.toNat 0 ≠ 0)
def ZD (A : AR) (k : Nat) : AR := match A.tb[k]?, A.cen[k]? with
 | some c, some ss => QD { A with cen := A.cen.set k (sweep ss) } ((Zn ss).map fun s => (s, c.pages))
 | _, _ => A
def Zi (A : AR) : AR := (List.range A.tb.length).foldl ZD A
def rel1 (p : AR × Sp) (r : Nat × Nat) : AR × Sp := ({ p.1 with st := Kb p.1.st r.1 r.2 3 [2] }, Kk p.2 r.1 r.2 1)
def QL (A : AR) (want : Int) : List (Nat × Nat) := Uc (Zi A).st want
def relS (A : AR) (sp : Sp) (want : Int) : AR × Sp := if want < 0 then (A, sp) else (QL A want).foldl rel1 (Zi A, sp)
def relV (A : AR) (want : Int) : Nat := if want < 0 then 0 else ((QL A want).map (·.2)).sum
def KH (p : AR × Sp) (h : Nat) : AR × Sp := ({ p.1 with st := remT p.1.st h, S := runS p.1.n p.1.S ((h * 16 : Nat) : Int) 16 }, Kk p.2 ((h * 16 : Nat) : Int) 16 0)
def Vh (A : AR) (sp : Sp) : AR × Sp := (Z9 A.st 0).foldl KH (A, sp)
def WhN (A : AR) : Nat := (Z9 A.st 0).length
def Z8 (A : AR) (k : Nat) : AR := match A.tra[k]? with
 | some t => t.out.foldl (fun A' xs => Yu A' k xs) { A with tra := A.tra.set k t.tick }
 | none => A
def QB (A : AR) : AR := (List.range A.tra.length).foldl Z8 A
def Wcv (A : AR) : Nat := ((A.tb.zip A.tra).map fun x => x.2.bs.flatten.length * x.1.size).sum
def Wgv (A : AR) : Nat := ((A.tb.zip A.cen).map fun x => Qs x.2 * x.1.size).sum
def WbN (A : AR) : Nat := ((A.tb.zip A.cen).map fun x => x.2.length * x.1.tail).sum
def U6 (A : AR) : Nat := ((A.tb.zip A.cen).map fun x => x.2.length * x.1.pages).sum
def Vr (A : AR) : Nat := (A.runs.map (·.2)).sum
end Go.Ar
namespace Go.Proofs
open Go.Vc

set_option maxRecDepth 100000
def W9.hint : Hn := .q (.o 1) (.q (.q (.o 3) (.c (.q (.o 1) (.l)) (.l))) (.q (.o 6) (.l)))
def W9.vc (c : Option Addr) (U : Hp) (R : Sl -> Hp -> Prop) : Prop :=
 WJ.call c U fun t4 v =>
 If (!t4) (R ⟨none, 0, 0⟩ v)
 (NilP c fun a7 =>
 LdS (a7.add 3) v fun t9 =>
 Xw.call t9 v fun t10 v1 =>
 R t10 v1)
theorem W9.of_vc {c U R} (hv : W9.vc c U R) : W9.call c U R :=
 Wa Tryz.func60 (x := W9.hint) (Eq.mpr (by kernel_rfl) hv)
def Xd.hint : Hn := .q (.o 2) (.q (.k (.q (.o 4) (.c (.q (.o 2) (.l)) (.q (.o 8) (.c (.q (.o 2) (.l)) (.q (.oq 11) (.c (.q (.o 2) (.l)) (.l)))))))) (.q (.reg (.held true [8, 11] (.take 0 (.take 1 (.take 2 (.take 3 (.take 4 (.take 5 (.all [(6, .all [(7, .all [(8, .take 9 (.take 10 (.all [(11, .done)])))])])]))))))))) (.q (.o 2) (.l))))
def Xd.vc (c : Option Addr) (objects : Sl) (U : Hp) (R : Bool -> Int -> Hp -> Prop) : Prop :=
 WJ.call c U fun t8 v =>
 If (!t8) (R false 5 v)
 (NilP c fun a14 =>
 LdI .i64 (a14.add 0) v fun t16 =>
 If (((objects.len : Nat) : Int) != t16) (R false 1 v)
 (NilP c fun a20 =>
 LdS (a20.add 3) v fun t22 =>
 NilP c fun a25 =>
 LdI .i64 (a25.add 1) v fun t27 =>
 If (decide (((t22.len : Nat) : Int) ≥ t27)) (R false 0 v)
 (Held v fun S =>
 NilP c fun a31 =>
 LdH S .s (a31.add 3) fun (t33 : Sl) =>
 Wu.call objects v fun t35 v1 =>
 And (S v1) <|
 Nw (.cells #[.slice t35.a t35.len t35.cap] 42 (0, 0)) v1 fun n36 v2 =>
 And (S v2) <|
 App t33 1 24 42 [.slice none 0 0] ⟨(some n36), 1, 1⟩ v2 fun t37 v3 =>
 NilP c fun a38 =>
 St1 (a38.add 3) (.slice t37.a t37.len t37.cap) v3 fun v4 =>
 R true 0 v4)))
theorem Xd.of_vc {c objects U R} (hv : Xd.vc c objects U R) : Xd.call c objects U R :=
 Wa Tryz.func66 (x := Xd.hint) (Eq.mpr (by kernel_rfl) hv)
def WF.hint : Hn := .q (.o 2) (.q (.k (.q (.o 4) (.c (.q (.o 2) (.l)) (.q (.o 7) (.c (.q (.o 2) (.l)) (.l)))))) (.q (.o 7) (.q (.o 8) (.q (.o 10) (.q (.o 10) (.q (.o 3) (.l)))))))
def WF.vc (c : Option Addr) (U : Hp) (R : Sl -> Int -> Hp -> Prop) : Prop :=
 WJ.call c U fun t8 v =>
 If (!t8) (R ⟨none, 0, 0⟩ 5 v)
 (NilP c fun a12 =>
 LdS (a12.add 3) v fun t14 =>
 If (((t14.len : Nat) : Int) == 0) (R ⟨none, 0, 0⟩ 4 v)
 (NilP c fun a18 =>
 LdS (a18.add 3) v fun t20 =>
 Ar .i64 (((t20.len : Nat) : Int) - 1) fun last =>
 NilP c fun a24 =>
 LdS (a24.add 3) v fun t26 =>
 Ix t26.a t26.len last 1 fun a28 =>
 LdS a28 v fun out =>
 NilP c fun a32 =>
 LdS (a32.add 3) v fun t34 =>
 SlcL t34 1 0 last (t34.cap : Nat) fun t36 =>
 NilP c fun a37 =>
 St1 (a37.add 3) (.slice t36.a t36.len t36.cap) v fun v1 =>
 NilP c fun a41 =>
 LdI .i64 (a41.add 2) v1 fun t43 =>
 NilP c fun a46 =>
 St1 (a46.add 2) (.int .i64 (if last < t43 then last else t43)) v1 fun v2 =>
 R out 0 v2))
theorem WF.of_vc {c U R} (hv : WF.vc c U R) : WF.call c U R :=
 Wa Tryz.func67 (x := WF.hint) (Eq.mpr (by kernel_rfl) hv)
def Zj.hint : Hn := .q (.o 2) (.q (.q (.reg (.seq [.op, .op, .op, .grd false 2 [.op, .op], .op, .grd false 2 [.op, .op], .op, .grd false 2 [.op, .op]])) (.c (.q (.o 2) (.l)) (.l))) (.q (.o 6) (.l)))
def Zj.vc (batch : Int) (room : Int) (U : Hp) (R : Option Addr -> Int -> Hp -> Prop) : Prop :=
 JnB (fun r v =>
 JnB (fun r1 v1 =>
 JnB (fun r2 v2 =>
 If r2 (R none 1 v2)
 (Nw (.cells #[.int .i64 batch, .int .i64 room, .int .i64 0, .slice none 0 0] 180 (0, 0)) v2 fun n23 v3 =>
 R (some n23) 0 v3)) fun J2 =>
 If r1 (J2 true v1)
 (J2 (decide (room > 8)) v1)) fun J1 =>
 If r (J1 true v)
 (J1 (decide (room < 0)) v)) fun J =>
 If (decide (batch < 1)) (J true U)
 (J (decide (batch > 32)) U)
theorem Zj.of_vc {batch room U R} (hv : Zj.vc batch room U R) : Zj.call batch room U R :=
 Wa Tryz.func91 (x := Zj.hint) (Eq.mpr (by kernel_rfl) hv)
def Xq.hint : Hn := .q (.o 1) (.q (.q (.o 3) (.c (.q (.o 1) (.l)) (.l))) (.q (.o 5) (.q (.o 2) (.q (.q (.o 6) (.k (.loop [(18, .one (.i .i64))] (.q (.o 1) (.q (.c (.l) (.l)) (.q (.k (.q (.o 3) (.reg (.held true [5, 7] (.take 0 (.take 1 (.take 2 (.all [(3, .all [(4, .all [(5, .take 6 (.all [(7, .done)]))])])])))))))) (.o 2))))))) (.q (.o 1) (.l))))))
def Xq.vc (c : Option Addr) (U : Hp) (R : Option Addr -> Hp -> Prop) : Prop :=
 WJ.call c U fun t7 v =>
 If (!t7) (R none v)
 (NilP c fun a10 =>
 LdI .i64 (a10.add 0) v fun t11 =>
 LdI .i64 (a10.add 1) v fun t111 =>
 LdI .i64 (a10.add 2) v fun t112 =>
 LdS (a10.add 3) v fun t113 =>
 Nw (.cells #[.int .i64 0, .int .i64 0, .int .i64 0, .slice none 0 0] 180 (0, 0)) v fun n3 v1 =>
 St1 (n3.add 0) (.int .i64 t11) v1 fun v2 =>
 St1 (n3.add 1) (.int .i64 t111) v2 fun v3 =>
 St1 (n3.add 2) (.int .i64 t112) v3 fun v4 =>
 St1 (n3.add 3) (.slice t113.a t113.len t113.cap) v4 fun v5 =>
 St1 (n3.add 3) (.slice none 0 0) v5 fun v6 =>
 NilP c fun a14 =>
 LdS (a14.add 3) v6 fun t16 =>
 Xe [(.i .i64)] (fun I => I 0 v6) fun J (t18 : Int) v7 =>
 If (decide (t18 < ((t16.len : Nat) : Int))) (Ix t16.a t16.len t18 1 fun a20 =>
 LdS a20 v7 fun l =>
 Held v7 fun S =>
 LdH S .s (n3.add 3) fun (t23 : Sl) =>
 Wu.call l v7 fun t25 v8 =>
 And (S v8) <|
 Nw (.cells #[.slice t25.a t25.len t25.cap] 42 (0, 0)) v8 fun n26 v9 =>
 And (S v9) <|
 App t23 1 24 42 [.slice none 0 0] ⟨(some n26), 1, 1⟩ v9 fun t27 v10 =>
 St1 (n3.add 3) (.slice t27.a t27.len t27.cap) v10 fun v11 =>
 Ar .i64 (t18 + 1) fun t29 =>
 J t29 v11)
 (R (some n3) v7))
theorem Xq.of_vc {c U R} (hv : Xq.vc c U R) : Xq.call c U R :=
 Wa Tryz.func107 (x := Xq.hint) (Eq.mpr (by kernel_rfl) hv)
def WJ.hint : Hn := .q (.o 1) (.q (.reg (.seq [.op, .op, .op, .grd true 5 [.op, .op, .op, .op, .op], .op])) (.l))
def WJ.vc (c : Option Addr) (U : Hp) (R : Bool -> Hp -> Prop) : Prop :=
 JnB (fun r v =>
 R r v) fun J =>
 If (!c.isNone) (NilP c fun a7 =>
 LdI .i64 (a7.add 0) U fun t9 =>
 J (decide (t9 > 0)) U)
 (J false U)
theorem WJ.of_vc {c U R} (hv : WJ.vc c U R) : WJ.call c U R :=
 Wa Tryz.func137 (x := WJ.hint) (Eq.mpr (by kernel_rfl) hv)
def Xm.hint : Hn := .q (.o 1) (.q (.o 4) (.l))
def Xm.vc (c : Option Addr) (U : Hp) (R : Sl -> Hp -> Prop) : Prop :=
 XI.call c ⟨301, #[], #[]⟩ U fun t5 v =>
 R t5 v
theorem Xm.of_vc {c U R} (hv : Xm.vc c U R) : Xm.call c U R :=
 Wa Tryz.func250 (x := Xm.hint) (Eq.mpr (by kernel_rfl) hv)
def XI.hint : Hn := .q (.o 2) (.q (.q (.o 3) (.c (.q (.o 1) (.l)) (.l))) (.q (.o 5) (.q (.o 8) (.q (.o 11) (.q (.o 9) (.q (.o 2) (.l)))))))
def XI.vc (c : Option Addr) (way : Fv) (U : Hp) (R : Sl -> Hp -> Prop) : Prop :=
 Nw (.cells #[.func (.func way.f) way.first way.captured] 290 (0, 0)) U fun n3 v =>
 WJ.call c v fun t8 v1 =>
 If (!t8) (R ⟨none, 0, 0⟩ v1)
 (LdF (n3.add 0) v1 fun t11 =>
 Vv Tryz.prog t11 [.pointer c] [.one (.i .i64)] v1 fun n v2 =>
 NilP c fun a15 =>
 LdS (a15.add 3) v2 fun t17 =>
 SlcL t17 1 0 n n fun out =>
 NilP c fun a23 =>
 LdS (a23.add 3) v2 fun t25 =>
 SlcL t25 1 n (t25.len : Nat) (t25.cap : Nat) fun t27 =>
 WV.call t27 v2 fun t28 v3 =>
 NilP c fun a29 =>
 St1 (a29.add 3) (.slice t28.a t28.len t28.cap) v3 fun v4 =>
 NilP c fun a33 =>
 LdS (a33.add 3) v4 fun t35 =>
 NilP c fun a37 =>
 St1 (a37.add 2) (.int .i64 ((t35.len : Nat) : Int)) v4 fun v5 =>
 R out v5)
theorem XI.of_vc {c way U R} (hv : XI.vc c way U R) : XI.call c way U R :=
 Wa Tryz.func300 (x := XI.hint) (Eq.mpr (by kernel_rfl) hv)
def XG.hint : Hn := .q (.o 1) (.q (.o 7) (.l))
def XG.vc (c : Option Addr) (U : Hp) (R : Int -> Hp -> Prop) : Prop :=
 NilP c fun a4 =>
 LdI .i64 (a4.add 2) U fun t6 =>
 Ar .i64 (t6 + 1) fun t7 =>
 Nz 2 <| Ar .i64 (t7.tdiv 2) fun t8 =>
 R t8 U
theorem XG.of_vc {c U R} (hv : XG.vc c U R) : XG.call c U R :=
 Wa Tryz.func301 (x := XG.hint) (Eq.mpr (by kernel_rfl) hv)
end Go.Proofs
namespace Go.Ar
open Go Go.Vc Go.Proofs


variable {U : Hp} {F : Rg} {p batch room : Nat} {t : TrA}
def slV (s : Sl) : Value := .slice s.a s.len s.cap
def YH (xs : List Int) : List Value := xs.map (Value.int .i64)
theorem VV {l : List Int} : ∀ v ∈ YH l, one1 v = true := by
 intro v hv
 simp only [YH, List.mem_map] at hv
 obtain ⟨x, _, rfl⟩ := hv; rfl
theorem Wfv {l : List Sl} : ∀ v ∈ l.map slV, one1 v = true := by
 intro v hv
 simp only [List.mem_map] at hv
 obtain ⟨x, _, rfl⟩ := hv; rfl
def Bat (sls : List Sl) (bs : List (List Int)) (U : Hp) (D : Rg) : Prop := sls.length = bs.length /\ ∀ (i : Nat) s xs, sls[i]? = some s -> bs[i]? = some xs -> SlR s 1 (YH xs) U D /\ s.len <= s.cap
theorem Bat.loc (sls : List Sl) (bs : List (List Int)) : Lcl (Bat sls bs) := fun U σ' F G h hz hs => ⟨h.1, fun i s xs h1 h2 => ⟨SlR.loc _ _ _ _ _ _ _ (h.2 i s xs h1 h2).1 hz hs, (h.2 i s xs h1 h2).2⟩⟩
structure TfH (U : Hp) (F : Rg) (p batch room : Nat) (t : TrA) : Prop where
 mem : ∃ (sl : Sl) (sls : List Sl) (D : Rg), Blk U p [.int .i64 (batch : Int), .int .i64 (room : Int), .int .i64 (t.low : Int), .slice sl.a sl.len sl.cap] /\ RowR sl 1 (sls.map slV) U (fun b => F b /\ b ≠ p /\ ¬ D b) /\ Bat sls t.bs U D /\ (∀ b, D b -> F b /\ b ≠ p)
 fp : F p
 b1 : 1 <= batch /\ batch <= 32
 r1 : room <= 8
 few : t.bs.length <= room
 low : t.low <= t.bs.length
 all : ∀ xs ∈ t.bs, xs.length = batch
theorem TfH.loc : Lcl fun U F => TfH U F p batch room t := fun U σ' F G h hz hs => by
 obtain ⟨sl, sls, D, hb, hr, hB, hD⟩ := h.mem
 refine ⟨⟨sl, sls, fun b => D b /\ b < U.size, ?_, ?_, ?_, fun b hb => ⟨(hs b hb.2 (hD b hb.1).1).1, (hD b hb.1).2⟩⟩, (hs p hb.lt h.fp).1, h.b1, h.r1, h.few, h.low, h.all⟩
 ·obtain ⟨e, he⟩ := hb
  exact ⟨e, (hs p (Blk.lt ⟨e, he⟩) h.fp).2.trans he⟩
 ·exact RowR.loc _ _ _ _ _ _ _ hr hz fun b hb hf => ⟨⟨(hs b hb hf.1).1, hf.2.1, fun hd => hf.2.2 hd.1⟩, (hs b hb hf.1).2⟩
 ·exact Bat.loc _ _ _ _ _ _ hB hz fun b hb hd => ⟨⟨hd, hb⟩, (hs b hb (hD b hd).1).2⟩
theorem TfH.keep0 {σ' : Hp} (h : TfH U F p batch room t) (e : Ext0 U σ') : TfH σ' F p batch room t := Lcl.keep0 TfH.loc h e
theorem Vf (h : TfH U F p batch room t) {R : Bool -> Hp -> Prop} (hR : R true U) : WJ.call (some ⟨p, 0, none⟩) U R := by
 refine WJ.of_vc ?_
 unfold WJ.vc
 obtain ⟨sl, sls, D, hb, _⟩ := h.mem
 have := h.b1
 refine JnB.intro (ifT rfl (nilP (hb.rI rfl ?_)))
 rw [decide_eq_true (by omega)]
 exact hR
theorem _root_.Go.Vc.SlR.ixS {s : Sl} {F : Rg} {sls : List Sl} (h : SlR s 1 (sls.map slV) U F) {i : Nat} {x : Sl} (hx : sls[i]? = some x) {K : Sl -> Prop} (hK : K x) : Ix s.a s.len (i : Int) 1 fun a => LdS a U K := by
 have hi := (gSi.1 hx).1
 obtain ⟨b, o, ha, hc⟩ := h.cell (j := i) (v := slV x) (by simp [hx])
 have hl := h.1
 rw [List.length_map] at hl
 rw [ha]
 refine ix (by omega) (by omega) ?_
 rw [add_lit]
 exact ldS (by simpa [slV] using hc) hK
theorem Whk (h1 : 1 <= batch) (h2 : batch <= 32) (h3 : room <= 8) {R : Option Addr -> Int -> Hp -> Prop} (hR : ∀ σ' p, Ext0 U σ' -> U.size <= p -> p < σ'.size -> TfH σ' (· = p) p batch room ⟨0, []⟩ -> R (some ⟨p, 0, none⟩) 0 σ') : Zj.call batch room U R := by
 refine Zj.of_vc ?_
 unfold Zj.vc
 refine JnB.intro (ifDF (by omega) (JnB.intro (ifDF (by omega) (JnB.intro (ifDF (by omega) (ifDF (by omega) ?_))))))
 refine nw (cs := [.int .i64 batch, .int .i64 room, .int .i64 0, .slice none 0 0]) fun v hz e hb => ?_
 exact hR v _ e (Nat.le_refl _) (by omega) ⟨⟨⟨none, 0, 0⟩, [], fun _ => False, hb, RowR.nil _ _ _ _, ⟨rfl, fun i s xs h => by simp at h⟩, fun b h => h.elim⟩, rfl, ⟨h1, h2⟩, h3, by simp, by simp, by simp⟩
theorem Wfd (h : TfH U F p batch room t) {sl : Sl} {xs : List Int} {X : Rg} (hs : SlR sl 1 (YH xs) U X) (hl : xs.length <= 1000000) {R : Bool -> Int -> Hp -> Prop} (h1 : xs.length ≠ batch -> R false 1 U) (h2 : xs.length = batch -> room <= t.bs.length -> R false 0 U)
 (h3 : xs.length = batch -> t.bs.length < room -> ∀ σ', Ext F U σ' -> TfH σ' (Grow F U) p batch room { t with bs := t.bs ++ [xs] } -> R true 0 σ') : Xd.call (some ⟨p, 0, none⟩) sl U R := by
 refine Xd.of_vc ?_
 unfold Xd.vc
 have h := TfH.loc.cut h
 obtain ⟨so, sls, D, hb, hr, hB, hD⟩ := h.mem
 have hlen : sl.len = xs.length := by have := hs.1; simp [YH] at this; omega
 have hso : so.len = t.bs.length := by have := hr.1; rw [List.length_map, hB.1] at this; omega
 have hr8 := h.r1
 have hb1 := h.b1
 refine Vf h (ifF rfl (nilP (hb.rI rfl ?_)))
 rw [bneN]
 refine iff_ (fun hne => h1 (by rw [← hlen]; simpa using hne)) fun heq => ?_
 have heq' : xs.length = batch := by rw [← hlen]; simpa using heq
 refine nilP (hb.rS rfl (nilP (hb.rI rfl (ifD (fun hge => h2 heq' (by simp only at hge; omega)) fun hlt => ?_))))
 simp only at hlt
 refine ⟨fun h' => Blk h' p [.int .i64 (batch : Int), .int .i64 (room : Int), .int .i64 (t.low : Int), .slice so.a so.len so.cap], hb, nilP ⟨so, fun h' hS => by rw [add_lit, hS.cell]; rfl, ?_⟩⟩
 refine K4 hs VV (by omega) fun s' v1 hl1 e1 hr1 => ⟨e1.blk hb id, ?_⟩
 refine nw (cs := [.slice s'.a s'.len s'.cap]) fun v2 hz2 e2 hb2 => ⟨(e1.trans e2).blk hb id, ?_⟩
 have hr2 := (RowR.loc _ _ _).keep0 ((RowR.loc _ _ _).keep0 hr e1) e2
 refine hr2.app (ys := [slV s']) rfl rfl ?_ (by simp [one1, slV]) ?_ ?_ Nat.zero_lt_one fun s2 v3 hl3 e3 hr3 => nilP ?_
 ·intro j u hu
  rw [add_lit, Nat.zero_add, hb2.cell]; exact hu
 ·simp only; have : (so.len + 1) * 24 <= 9 * 24 := Nat.mul_le_mul (by omega) (by omega); omega
 ·simp only; omega
 ·have hb3 := e3.blk ((e1.trans e2).blk hb id) fun hh => hh.2.1 rfl
  have hplt := hb.lt
  have hs1 := e1.1
  refine hb3.s1 (by simp) fun v4 o4 hb4 => h3 heq' (by omega) v4 ?_ ?_
  ·exact ((Ext0.to (e1.trans e2)).trans (e3.sub fun b hb => hb.1.1)).trans (o4.ext.sub fun b hb => hb ▸ h.fp.1)
  ·refine ⟨⟨s2, sls ++ [s'], fun b => D b /\ b < U.size ∨ U.size <= b /\ b < v1.size, hb4, ?_, ⟨by simp [hB.1], fun i s ys hi hy => ?_⟩, fun b hb => ?_⟩, .inl h.fp.1, h.b1, h.r1, by simp; omega, by have := h.low; simp; omega, fun ys hy => ?_⟩
   ·rw [List.map_append]
    refine (RowR.loc _ _ _).keep ((RowR.loc _ _ _).mono hr3 fun b _ hb => ?_) o4.ext fun b _ hb he => hb.2.1 he
    rcases hb with hb | hb
    ·exact ⟨.inl hb.1.1, hb.2.1, fun hd => by
      rcases hd with hd | hd
      ·exact hb.2.2 hd.1
      ·have := hb.1.2; omega⟩
    ·exact ⟨.inr (by omega), by omega, fun hd => by rcases hd with hd | hd <;> omega⟩
   ·have mv : ∀ {s : Sl} {ys : List Int} {G : Rg}, SlR s 1 (YH ys) v2 G -> (∀ b, G b -> b ≠ p /\ ¬ (Cut F U b /\ b ≠ p /\ ¬ D b)) -> SlR s 1 (YH ys) v4 G := fun hS hn =>
     (SlR.loc _ _ _).keep ((SlR.loc _ _ _).keep hS e3 fun b _ hb => (hn b hb).2) o4.ext fun b _ hb he => (hn b hb).1 he
    rcases Nat.lt_or_ge i sls.length with hi' | hi'
    ·rw [List.getElem?_append_left hi'] at hi
     rw [List.getElem?_append_left (by rw [← hB.1]; exact hi')] at hy
     obtain ⟨k1, k2⟩ := hB.2 i s ys hi hy
     refine ⟨(SlR.loc _ _ _).mono (mv ((SlR.loc _ _ _).keep0 ((SlR.loc _ _ _).keep0 ((SlR.loc _ _ _).mono k1 (G := fun b => D b /\ b < U.size) fun b hb hd => ⟨hd, hb⟩) e1) e2) fun b hd => ⟨(hD b hd.1).2, fun hh => hh.2.2 hd.1⟩) fun b _ hd => .inl hd, k2⟩
    ·rw [List.getElem?_append_right hi'] at hi
     rw [List.getElem?_append_right (by rw [← hB.1]; exact hi')] at hy
     have hi0 : i - sls.length = 0 := by
      have := (gSi.1 hi).1
      simp at this; omega
     rw [hi0] at hi
     rw [show i - t.bs.length = 0 by rw [← hB.1]; exact hi0] at hy
     simp at hi hy; subst hi; subst hy
     have hcap : s'.len <= s'.cap := by
      rcases hr1.2 with ⟨q1, q2⟩ | ⟨_, _, _, _, _, q, _⟩
      ·omega
      ·exact q
     refine ⟨(SlR.loc _ _ _).mono (mv ((SlR.loc _ _ _).keep0 ((SlR.loc _ _ _).mono hr1.slR (G := fun b => U.size <= b /\ b < v1.size) fun b hb hd => ⟨hd, hb⟩) e2) fun b hd => ⟨by omega, fun hh => by have := hh.1.2; omega⟩) fun b _ hd => .inr hd, hcap⟩
   ·rcases hb with hd | hd
    ·exact ⟨.inl (hD b hd.1).1.1, (hD b hd.1).2⟩
    ·exact ⟨.inr hd.1, by omega⟩
   ·rcases List.mem_append.1 hy with h | h
    ·exact TfH.all ‹_› ys h
    ·simp at h; subst h; exact heq'
theorem WbC (h : TfH U F p batch room t) (h0 : t.bs = []) {R : Sl -> Int -> Hp -> Prop} (hR : R ⟨none, 0, 0⟩ 4 U) : WF.call (some ⟨p, 0, none⟩) U R := by
 refine WF.of_vc ?_
 unfold WF.vc
 obtain ⟨so, sls, D, hb, hr, hB, hD⟩ := h.mem
 have hso : so.len = t.bs.length := by have := hr.1; rw [List.length_map, hB.1] at this; omega
 refine Vf h (ifF rfl (nilP (hb.rS rfl (ifT ?_ hR))))
 simp [hso, h0]
theorem WdN (h : TfH U F p batch room t) (h0 : t.bs ≠ []) {R : Sl -> Int -> Hp -> Prop} (hR : ∀ out σ', Ext F U σ' -> SlR out 1 (YH (t.bs.getLast?.getD [])) σ' F -> out.len <= out.cap -> TfH σ' F p batch room t.rem -> R out 0 σ') : WF.call (some ⟨p, 0, none⟩) U R := by
 refine WF.of_vc ?_
 unfold WF.vc
 obtain ⟨so, sls, D, hb, hr, hB, hD⟩ := h.mem
 have hso : so.len = t.bs.length := by have := hr.1; rw [List.length_map, hB.1] at this; omega
 have hpos := List.length_pos_iff.2 h0
 have hr8 := h.r1
 have hfw := h.few
 have hlow := h.low
 have hl0 : t.bs.length - 1 < sls.length := by rw [hB.1]; omega
 obtain ⟨o, ho⟩ : ∃ o, sls[t.bs.length - 1]? = some o := ⟨_, gGe hl0⟩
 have hlast : t.bs[t.bs.length - 1]? = some (t.bs.getLast?.getD []) := by
  rw [List.getLast?_eq_getElem?, gGe (by omega)]; rfl
 obtain ⟨k1, k2⟩ := hB.2 _ o _ ho hlast
 refine Vf h (ifF rfl (nilP (hb.rS rfl (ifF ?_ ?_))))
 ·simp only [beq_eq_false_iff_ne]; omega
 refine nilP (hb.rS rfl (arN (m := t.bs.length - 1) (by simp only; omega) (by omega) (nilP (hb.rS rfl ?_))))
 refine hr.slR.ixS ho (nilP (hb.rS rfl ?_))
 have hcap : so.len <= so.cap := by
  rcases hr.2 with ⟨q1, q2⟩ | ⟨_, _, _, _, _, q, _⟩
  ·omega
  ·exact q
 refine slc (lo := 0) (by omega) (by first | omega | (simp only; omega)) (by first | omega | (simp only; omega)) (nilP (hb.s1 (by simp) fun v1 o1 hb1 => nilP (hb1.rI rfl (nilP ?_))))
 refine hb1.s1 (by simp) fun v2 o2 hb2 => ?_
 have e12 : Ext (· = p) U v2 := o1.ext.trans o2.ext
 have hmin : (if ((t.bs.length - 1 : Nat) : Int) < (t.low : Int) then ((t.bs.length - 1 : Nat) : Int) else (t.low : Int)) = ((min t.low (t.bs.length - 1) : Nat) : Int) := by split <;> omega
 rw [hmin] at hb2
 refine hR o v2 (e12.sub fun b hb => hb ▸ h.fp) ((SlR.loc _ _ _).mono ((SlR.loc _ _ _).keep k1 e12 fun b _ hb he => (hD b hb).2 he) fun b _ hd => (hD b hd).1) k2 ⟨⟨_, sls.dropLast, D, hb2, ?_, ⟨by simp [hB.1, TrA.rem], fun i s xs hi hx => ?_⟩, hD⟩, h.fp, h.b1, h.r1, by simp [TrA.rem]; omega, by simp [TrA.rem]; omega, fun xs hx => h.all xs (List.dropLast_subset _ hx)⟩
 ·refine (RowR.loc _ _ _).keep ?_ e12 fun b _ hb he => hb.2.1 he
  refine ⟨by simp [hB.1], ?_⟩
  rcases hr.2 with ⟨q1, q2⟩ | ⟨b, cs, hq, ha, hbb, hle, hcl, ht⟩
  ·omega
  ·refine .inr ⟨b, cs, hq, ?_, hbb, by simp only; omega, by simp only; omega, ?_⟩
   ·simp only [ha]; split <;> simp [add_lit]
   ·simp only [List.length_map] at ht ⊢
    have hd : sls.dropLast.map slV = (sls.map slV).take (sls.length - 1) := by rw [List.dropLast_eq_take, List.map_take]
    rw [hd, ← ht, List.take_take, List.length_dropLast]
    congr 1; omega
 ·have hil : i < t.bs.length - 1 := by
   have := (gSi.1 hx).1
   simpa [TrA.rem] using this
  rw [List.dropLast_eq_take, List.getElem?_take] at hi
  simp only [TrA.rem, List.dropLast_eq_take, List.getElem?_take] at hx
  rw [if_pos (by rw [hB.1]; exact hil)] at hi
  rw [if_pos hil] at hx
  obtain ⟨m1, m2⟩ := hB.2 i s xs hi hx
  exact ⟨(SlR.loc _ _ _).keep m1 e12 fun b _ hb he => (hD b hb).2 he, m2⟩
theorem WeI {s : Sl} {vs : List Value} (h : SlR s 1 vs U F) (h1 : ∀ v ∈ vs, one1 v = true) (hl : s.len <= 1000000) {R : Sl -> Hp -> Prop}
 (hR : ∀ s' σ', s'.len = s.len -> Ext0 U σ' -> RowR s' 1 vs σ' (fun b => U.size <= b) -> R s' σ') : WV.call s U R := by
 refine WV.of_vc ?_
 unfold WV.vc
 exact GU h (by decide) rfl h1 (by decide) hl hR
def OutR (out : Sl) (bs : List (List Int)) (U : Hp) (G : Rg) : Prop := ∃ sls : List Sl, SlR out 1 (sls.map slV) U G /\ Bat sls bs U G
theorem OutR.loc (out : Sl) (bs : List (List Int)) : Lcl (OutR out bs) := fun U σ' F G ⟨sls, h1, h2⟩ hz hs => ⟨sls, SlR.loc _ _ _ _ _ _ _ h1 hz hs, Bat.loc _ _ _ _ _ _ h2 hz hs⟩
theorem Whq (h : TfH U F p batch room t) {R : Sl -> Hp -> Prop} (hR : ∀ out σ', Ext F U σ' -> OutR out t.out σ' F -> TfH σ' (Grow F U) p batch room t.tick -> R out σ') : Xm.call (some ⟨p, 0, none⟩) U R := by
 refine Xm.of_vc ?_
 unfold Xm.vc
 refine XI.of_vc ?_
 unfold XI.vc
 have hFF := h
 have h := TfH.loc.cut h
 obtain ⟨so, sls, D, hb, hr, hB, hD⟩ := h.mem
 have hso : so.len = t.bs.length := by have := hr.1; rw [List.length_map, hB.1] at this; omega
 have hr8 := h.r1
 have hfw := h.few
 have hlow := h.low
 obtain ⟨n, hn⟩ : ∃ n, n = (t.low + 1) / 2 := ⟨_, rfl⟩
 have hnl : n <= t.bs.length := by omega
 refine nw (cs := [.func (.func 301) #[] #[]]) fun v1 hz1 e1 hb1 => ?_
 have h1 := h.keep0 e1
 have hbv := e1.blk hb id
 refine Vf h1 (ifF rfl ?_)
 refine ⟨⟨301, #[], #[]⟩, by rw [add_lit, hb1.cell]; rfl, ?_⟩
 refine WaO (all := #[.pointer (some ⟨p, 0, none⟩)]) (by kernel_rfl) (by simp) ?_
 refine XG.of_vc ?_
 unfold XG.vc
 refine nilP (hbv.rI rfl (arN (m := t.low + 1) (by omega) (by omega) (nz (by decide) (arN (m := n) (by rw [ZJ (by omega)]; omega) (by omega) ?_))))
 refine nilP (hbv.rS rfl ?_)
 have hcap : so.len <= so.cap := by
  rcases hr.2 with ⟨q1, q2⟩ | ⟨_, _, _, _, _, q, _⟩
  ·omega
  ·exact q
 have hr1 := (RowR.loc _ _ _).keep0 hr e1
 have hB1 := (Bat.loc _ _).keep0 hB e1
 refine slc (lo := 0) (by omega) (by omega) (by first | omega | (simp only; omega)) (nilP (hbv.rS rfl (slc (by first | omega | (simp only; omega)) (by first | omega | (simp only; omega)) (by first | omega | (simp only; omega)) ?_)))
 have hsub : ∀ (s : Sl) (a m : Nat), (s.len = m) -> a + m <= sls.length -> (m = 0 ∨ ∀ b, so.a = some ⟨b, 0, none⟩ -> s.a = some ⟨b, a, none⟩) -> SlR s 1 (((sls.drop a).take m).map slV) v1 (fun b => Cut F U b /\ b ≠ p /\ ¬ D b) := by
  intro s a m hs ham hsa
  refine ⟨by simp; omega, ?_⟩
  rcases Nat.eq_zero_or_pos m with h0 | h0
  ·left; subst h0; simp
  ·rcases hr1.slR.2 with q | ⟨b, o, cs, q1, q2, q3, q4⟩
   ·have : sls = [] := by simpa using q
    subst this; simp at ham; omega
   ·rcases hr1.2 with ⟨z1, z2⟩ | ⟨b', cs', w1, w2, w3, w4, w5, w6⟩
    ·rw [hB.1] at ham; omega
    ·rcases hsa with hm | hsa
     ·omega
     ·refine .inr ⟨b', a, cs', w1, hsa b' w2, w3.q, fun j hj => ?_⟩
      simp only [List.length_map, List.length_take, List.length_drop] at hj
      have : cs'[a + j]? = (sls.map slV)[a + j]? := by
       rw [← w6, List.getElem?_take, if_pos (by rw [List.length_map]; omega)]
      rw [this]
      simp only [List.getElem?_map, List.getElem?_take, List.getElem?_drop]
      rw [if_pos (by omega)]
 have hso2 : so.len = sls.length := by rw [hB.1]; exact hso
 refine WeI (hsub _ n (sls.length - n) (by simp only; omega) (by omega) ?_) Wfv (by simp only; omega) fun s' v3 hl3 e3 hr3 => ?_
 ·by_cases hz : so.cap = n
  ·left; omega
  ·right
   intro b hbs
   simp only [if_neg hz, hbs]; simp [add_lit]
 have hb3 := e3.blk hbv id
 refine nilP (hb3.s1 (by simp) fun v4 o4 hb4 => nilP (hb4.rS rfl (nilP (hb4.s1 (by simp) fun v5 o5 hb5 => ?_))))
 have e45 : Ext (· = p) v3 v5 := o4.ext.trans o5.ext
 have hs1 := e1.1
 have hs3 := e3.1
 have hplt := hb.lt
 have htk : (sls.drop 0).take n = sls.take n := by simp
 refine hR _ v5 ?_ ⟨sls.take n, ?_, ?_⟩ ⟨⟨s', sls.drop n, fun b => D b /\ b < U.size, ?_, ?_, ?_, ?_⟩, .inl hFF.fp, h.b1, h.r1, ?_, ?_, ?_⟩
 ·exact (Ext0.to (e1.trans e3)).trans (e45.sub fun b hb => hb ▸ hFF.fp)
 ·have := hsub ⟨if n = 0 then so.a else so.a.map (·.add (0 * 1)), n - 0, n - 0⟩ 0 n (by simp) (by omega) (by
   by_cases hz : n = 0
   ·exact .inl hz
   ·right; intro b hbs
    simp only [if_neg hz, hbs]; simp [add_lit])
  rw [htk] at this
  exact (SlR.loc _ _ _).mono ((SlR.loc _ _ _).keep ((SlR.loc _ _ _).keep0 this e3) e45 fun b _ hb he => hb.2.1 he) fun b _ hb => hb.1.1
 ·refine ⟨by simp [hB.1, TrA.out, hn], fun i s xs hi hx => ?_⟩
  simp only [TrA.out, ← hn] at hx
  rw [List.getElem?_take] at hi hx
  split at hi
  ·rename_i hin
   rw [if_pos hin] at hx
   obtain ⟨m1, m2⟩ := hB1.2 i s xs hi hx
   exact ⟨(SlR.loc _ _ _).mono ((SlR.loc _ _ _).keep ((SlR.loc _ _ _).keep0 m1 e3) e45 fun b _ hb he => (hD b hb).2 he) fun b _ hb => (hD b hb).1.1, m2⟩
  ·cases hi
 ·have : ((s'.len : Nat) : Int) = ((t.tick.low : Nat) : Int) := by
   rw [hl3]; simp only [TrA.tick, List.length_drop, ← hn]; omega
  rw [this] at hb5
  exact hb5
 ·have hh : ((sls.drop n).take (sls.length - n)) = sls.drop n := List.take_of_length_le (by simp)
  rw [hh] at hr3
  refine (RowR.loc _ _ _).keep ((RowR.loc _ _ _).mono hr3 fun b _ hb => ?_) e45 fun b _ hb he => hb.2.1 he
  exact ⟨.inr (by omega), by omega, fun hd => by omega⟩
 ·refine ⟨by simp [hB.1, TrA.tick, hn], fun i s xs hi hx => ?_⟩
  simp only [TrA.tick, ← hn] at hx
  rw [List.getElem?_drop] at hi hx
  obtain ⟨m1, m2⟩ := hB.2 _ s xs hi hx
  exact ⟨(SlR.loc _ _ _).keep ((SlR.loc _ _ _).keep0 ((SlR.loc _ _ _).keep0 ((SlR.loc _ _ _).mono m1 (G := fun b => D b /\ b < U.size) fun b hb hd => ⟨hd, hb⟩) e1) e3) e45 fun b _ hb he => (hD b hb.1).2 he, m2⟩
 ·exact fun b hd => ⟨.inl (hD b hd.1).1.1, (hD b hd.1).2⟩
 ·simp only [TrA.tick, List.length_drop]; omega
 ·simp [TrA.tick]
 ·exact fun xs hx => h.all xs (List.mem_of_mem_drop hx)
end Go.Ar
namespace Go.Ar
open Go Go.Vc Go.Proofs


variable {U : Hp} {F : Rg} {p batch room : Nat} {t : TrA}
theorem Wh0 {n : Nat} (hn : n <= 1000000) {R : Sl -> Hp -> Prop} (hR : ∀ s' σ', Ext0 U σ' -> RowR s' 1 [] σ' (fun b => U.size <= b) -> R s' σ') : XB.call ⟨none, 0, 0⟩ (n : Int) U R := by
 refine XB.of_vc ?_
 unfold XB.vc
 refine Jn.intro (ifDF (by omega) (arN (m := 0) (by simp) (by omega) (arN (m := n) (by simp) (by omega) (ifD (fun hpos => ?_) fun h0 => hR _ _ (Ext.refl _ _) (RowR.nil _ _ _ _)))))
 refine slc (lo := 0) (hi := 0) (mx := 0) (by omega) (by omega) (by simp) ?_
 refine ⟨by omega, [], by simp, by simp [Rd], by simp [one1], by simp only [iTn]; omega, by simp only [iTn]; omega, by omega, fun hin => by simp only [iTn] at hin; omega, fun hout cc hcc => ?_⟩
 refine nw fun v1 hz1 e1 hb1 => ?_
 simp only [iTn] at *
 have hcc' : n <= cc := by omega
 refine slc (lo := 0) (hi := 0) (mx := cc) (by omega) (by omega) (by simp only; omega) (hR _ v1 e1 ⟨by simp, .inr ⟨U.size, _, Nat.le_refl _, ?_, hb1, by simp, ?_, by simp⟩⟩)
 ·simp only
  split <;> simp [add_lit]
 ·simp only [List.nil_append, List.length_append, List.length_flatten, List.map_replicate, List.sum_replicate_nat, List.length_cons, List.length_nil, Nat.sub_zero]
  omega
theorem Wai (bs : List (List Int)) {i : Nat} {xs : List Int} (h : bs[i]? = some xs) : (bs.take (i + 1)).flatten = (bs.take i).flatten ++ xs := by
 rw [List.take_add_one, h]; simp
theorem TfH.flat (h : TfH U F p batch room t) : t.bs.flatten.length <= 256 := by
 have key : ∀ l : List (List Int), (∀ xs ∈ l, xs.length = batch) -> l.flatten.length = batch * l.length := by
  intro l
  induction l with
  | nil => intro _; simp
  | cons x l ih =>
   intro hl
   rw [List.flatten_cons, List.length_append, hl x (by simp), ih fun xs hx => hl xs (by simp [hx]), List.length_cons, Nat.mul_add]; omega
 rw [key t.bs h.all]
 have h1 := h.b1
 have h2 := h.few
 have h3 := h.r1
 have : batch * t.bs.length <= 32 * 8 := Nat.mul_le_mul h1.2 (by omega)
 omega
theorem Wfa (bs : List (List Int)) (i : Nat) : (bs.take i).flatten.length <= bs.flatten.length := by
 conv => rhs; rw [← List.take_append_drop i bs, List.flatten_append, List.length_append]
 omega
theorem Whn (h : TfH U F p batch room t) {R : Sl -> Hp -> Prop} (hR : ∀ s' σ', Ext0 U σ' -> s'.len = t.bs.flatten.length -> RowR s' 1 (YH t.bs.flatten) σ' (fun b => U.size <= b) -> R s' σ') : W9.call (some ⟨p, 0, none⟩) U R := by
 refine W9.of_vc ?_
 unfold W9.vc
 have hfl := h.flat
 obtain ⟨so, sls, D, hb, hr, hB, hD⟩ := h.mem
 have hso : so.len = t.bs.length := by have := hr.1; rw [List.length_map, hB.1] at this; omega
 have hfw := h.few
 have hr8 := h.r1
 refine Vf h (ifF rfl (nilP (hb.rS rfl ?_)))
 refine Xw.of_vc ?_
 unfold Xw.vc
 refine KA (a := .i .i64) (bb := .i .i64) (fun (n tt : Int) v => ∃ i : Nat, tt = (i : Int) /\ i <= t.bs.length /\ v = U /\ n = (((t.bs.take i).flatten.length : Nat) : Int)) (fun _ tt _ => t.bs.length - tt.toNat) ⟨0, rfl, by omega, rfl, by simp⟩ ?_
 rintro n tt v ⟨i, rfl, hi, rfl, rfl⟩
 refine ifD (fun hlt => ?_) fun hge => ?_
 ·simp only at hlt
  have hi' : i < t.bs.length := by omega
  have his : i < sls.length := by rw [hB.1]; exact hi'
  refine hr.slR.ixS (gGe his) ?_
  obtain ⟨m1, m2⟩ := hB.2 i _ _ (gGe his) (gGe hi')
  have hl1 : sls[i].len = t.bs[i].length := by have := m1.1; simp [YH] at this; omega
  have ft := Wai t.bs (gGe hi')
  have fl := Wfa t.bs (i + 1)
  refine arN (m := (t.bs.take (i + 1)).flatten.length) (by rw [ft, List.length_append, hl1]; omega) (by omega) (ifDF (by omega) (arN (m := i + 1) (by omega) (by omega) ⟨⟨i + 1, rfl, by omega, rfl, rfl⟩, by omega⟩))
 ·have hii : i = t.bs.length := by simp only at hge; omega
  subst hii
  rw [List.take_length]
  refine Wh0 (by omega) fun s1 v1 e1 hr1 => ?_
  refine KA (a := .s) (bb := .i .i64) (fun (s : Sl) (tt : Int) w => ∃ i : Nat, tt = (i : Int) /\ i <= t.bs.length /\ Ext0 v w /\ RowR s 1 (YH (t.bs.take i).flatten) w (fun b => v.size <= b)) (fun _ tt _ => t.bs.length - tt.toNat) ⟨0, rfl, by omega, e1, by simpa [YH] using hr1⟩ ?_
  rintro s tt w ⟨i, rfl, hi, e, hrow⟩
  refine ifD (fun hlt => ?_) fun hge => ?_
  ·simp only at hlt
   have hi' : i < t.bs.length := by omega
   have his : i < sls.length := by rw [hB.1]; exact hi'
   refine ((RowR.loc _ _ _).keep0 hr e).slR.ixS (gGe his) ?_
   obtain ⟨m1, m2⟩ := hB.2 i _ _ (gGe his) (gGe hi')
   have hl1 : sls[i].len = t.bs[i].length := by have := m1.1; simp [YH] at this; omega
   have hlb := h.all _ (List.getElem_mem hi')
   have hb1 := h.b1
   have ft := Wai t.bs (gGe hi')
   have fl := Wfa t.bs (i + 1)
   have hsl : s.len = (t.bs.take i).flatten.length := by have := hrow.1; simp only [YH, List.length_map] at this; omega
   rw [ft, List.length_append] at fl
   refine hrow.app (ys := YH t.bs[i]) rfl (by simp [YH]; omega) ((SlR.loc _ _ _).keep0 m1 e).rd VV ?_ (by omega) (by omega) fun s' w' hl' e' ho' => ?_
   ·have : (s.len + sls[i].len) * 8 <= 512 * 8 := Nat.mul_le_mul (by omega) (by omega)
    omega
   ·refine arN (m := i + 1) (by omega) (by omega) ⟨⟨i + 1, rfl, by omega, Ext.fresh e e' fun _ h => h, ?_⟩, by omega⟩
    rw [ft]
    have : YH ((t.bs.take i).flatten ++ t.bs[i]) = YH (t.bs.take i).flatten ++ YH t.bs[i] := by simp [YH]
    rw [this]
    exact (RowR.loc _ _ _).mono ho' fun b _ hb => by
     rcases hb with h | h
     ·exact h
     ·exact Nat.le_trans e.1 h
  ·have hii : i = t.bs.length := by simp only at hge; omega
   subst hii
   rw [List.take_length] at hrow
   exact hR s w e (by have := hrow.1; simp only [YH, List.length_map] at this; omega) hrow
theorem WdY (h : TfH U F p batch room t) {R : Option Addr -> Hp -> Prop} (hR : ∀ σ' p', Ext0 U σ' -> U.size <= p' -> TfH σ' (fun b => U.size <= b) p' batch room t -> R (some ⟨p', 0, none⟩) σ') : Xq.call (some ⟨p, 0, none⟩) U R := by
 refine Xq.of_vc ?_
 unfold Xq.vc
 obtain ⟨so, sls, D, hb, hr, hB, hD⟩ := h.mem
 have hso : so.len = t.bs.length := by have := hr.1; rw [List.length_map, hB.1] at this; omega
 have hfw := h.few
 have hr8 := h.r1
 have hbb := h.b1
 refine Vf h (ifF rfl (nilP (hb.rI rfl (hb.rI rfl (hb.rI rfl (hb.rS rfl ?_))))))
 refine nw (cs := [.int .i64 0, .int .i64 0, .int .i64 0, .slice none 0 0]) fun v1 hz1 e1 b1 => b1.s1 (by simp) fun v2 o2 b2 => b2.s1 (by simp) fun v3 o3 b3 => b3.s1 (by simp) fun v4 o4 b4 => b4.s1 (by simp) fun v5 o5 b5 => b5.s1 (by simp) fun v6 o6 b6 => ?_
 have e6 : Ext0 U v6 := Ext.fresh e1 ((((o2.ext.trans o3.ext).trans o4.ext).trans o5.ext).trans o6.ext) fun i hi => by omega
 refine nilP ((e6.blk hb id).rS rfl ?_)
 refine YX (a := .i .i64) (fun (tt : Int) v => ∃ (i : Nat) (sl : Sl) (qs : List Sl) (E : Rg), tt = (i : Int) /\ i <= t.bs.length /\ Ext0 U v /\ Blk v U.size [.int .i64 (batch : Int), .int .i64 (room : Int), .int .i64 (t.low : Int), .slice sl.a sl.len sl.cap] ∧
  RowR sl 1 (qs.map slV) v (fun b => U.size < b /\ ¬ E b) /\ Bat qs (t.bs.take i) v E /\ (∀ b, E b -> U.size < b /\ b < v.size)) (fun tt _ => t.bs.length - tt.toNat)
  ⟨0, ⟨none, 0, 0⟩, [], fun _ => False, rfl, by omega, e6, b6, RowR.nil _ _ _ _, ⟨by simp, fun i s xs hi => by simp at hi⟩, fun b h => h.elim⟩ ?_
 rintro tt v ⟨i, sl, qs, E, rfl, hi, e, hbn, hrn, hBn, hE⟩
 refine ifD (fun hlt => ?_) fun hge => ?_
 ·simp only at hlt
  have hi' : i < t.bs.length := by omega
  have his : i < sls.length := by rw [hB.1]; exact hi'
  have htl : (t.bs.take i).length = i := by rw [List.length_take]; omega
  have hsl : sl.len = i := by have := hrn.1; rw [List.length_map, hBn.1, htl] at this; omega
  refine ((RowR.loc _ _ _).keep0 hr e).slR.ixS (gGe his) ?_
  obtain ⟨m1, m2⟩ := hB.2 i _ _ (gGe his) (gGe hi')
  have hl1 : sls[i].len = t.bs[i].length := by have := m1.1; simp [YH] at this; omega
  have hlb := h.all _ (List.getElem_mem hi')
  refine ⟨fun h' => Blk h' U.size [.int .i64 (batch : Int), .int .i64 (room : Int), .int .i64 (t.low : Int), .slice sl.a sl.len sl.cap], hbn, ⟨sl, fun h' hS => by rw [add_lit, hS.cell]; rfl, ?_⟩⟩
  refine K4 ((SlR.loc _ _ _).keep0 m1 e) VV (by omega) fun s' v8 hl8 e8 hr8 => ⟨e8.blk hbn id, ?_⟩
  refine nw (cs := [.slice s'.a s'.len s'.cap]) fun v9 hz9 e9 hb9 => ⟨(e8.trans e9).blk hbn id, ?_⟩
  have hrn' := (RowR.loc _ _ _).mono hrn (G := fun b => U.size < b /\ ¬ E b /\ b < v.size) fun b hb hf => ⟨hf.1, hf.2, hb⟩
  have hr9 := (RowR.loc _ _ _).keep0 ((RowR.loc _ _ _).keep0 hrn' e8) e9
  have hv0 : U.size < v.size := hbn.lt
  have hs8 := e8.1
  have hs9 := e9.1
  refine hr9.app (ys := [slV s']) rfl rfl ?_ (by simp [one1, slV]) ?_ ?_ Nat.zero_lt_one fun s2 v10 hl10 e10 hr10 => ?_
  ·intro j u hu
   rw [add_lit, Nat.zero_add, hb9.cell]; exact hu
  ·simp only; have : (sl.len + 1) * 24 <= 9 * 24 := Nat.mul_le_mul (by omega) (by omega); omega
  ·simp only; omega
  ·have hb10 := e10.blk ((e8.trans e9).blk hbn id) fun hh => by omega
   refine hb10.s1 (by simp) fun v11 o11 hb11 => ?_
   have hs10 := e10.1
   have e011 : Ext0 U v11 := Ext.fresh (Ext.fresh ((e.trans e8).trans e9) e10 fun b hb => by omega) o11.ext fun b hb => by omega
   refine arN (m := i + 1) (by omega) (by omega) ⟨⟨i + 1, s2, qs ++ [s'], fun b => E b ∨ v.size <= b /\ b < v8.size, rfl, by omega, e011, hb11, ?_, ⟨?_, fun j s xs hj hx => ?_⟩, fun b hb => ?_⟩, by omega⟩
   ·rw [List.map_append]
    refine (RowR.loc _ _ _).keep ((RowR.loc _ _ _).mono hr10 fun b _ hb => ?_) o11.ext fun b _ hb he => by have := hb.1; omega
    rcases hb with hb | hb
    ·exact ⟨hb.1, fun hd => by
      rcases hd with hd | hd
      ·exact hb.2.1 hd
      ·omega⟩
    ·exact ⟨by omega, fun hd => by
      rcases hd with hd | hd
      ·have := (hE b hd).2; omega
      ·omega⟩
   ·rw [List.length_append, hBn.1, htl, List.length_take]; simp; omega
   ·have mv : ∀ {s : Sl} {ys : List Int} {G : Rg}, SlR s 1 (YH ys) v9 G -> (∀ b, G b -> U.size < b /\ ¬ (U.size < b /\ ¬ E b /\ b < v.size)) -> SlR s 1 (YH ys) v11 G := fun hS hn =>
     (SlR.loc _ _ _).keep ((SlR.loc _ _ _).keep hS e10 fun b _ hb => (hn b hb).2) o11.ext fun b _ hb he => by have := (hn b hb).1; omega
    have htk : t.bs.take (i + 1) = t.bs.take i ++ [t.bs[i]] := by rw [List.take_add_one, gGe hi']; rfl
    rw [htk] at hx
    have hql : qs.length = i := by rw [hBn.1, htl]
    rcases Nat.lt_or_ge j i with hji | hji
    ·rw [List.getElem?_append_left (by omega)] at hj
     rw [List.getElem?_append_left (by omega)] at hx
     obtain ⟨k1, k2⟩ := hBn.2 j s xs hj hx
     exact ⟨(SlR.loc _ _ _).mono (mv ((SlR.loc _ _ _).keep0 ((SlR.loc _ _ _).keep0 k1 e8) e9) fun b hd => ⟨(hE b hd).1, fun hh => hh.2.1 hd⟩) fun b _ hd => .inl hd, k2⟩
    ·rw [List.getElem?_append_right (by omega)] at hj
     rw [List.getElem?_append_right (by omega)] at hx
     have hj0 : j = i := by
      have := (gSi.1 hj).1
      simp at this; omega
     subst hj0
     rw [hql, Nat.sub_self] at hj
     rw [htl, Nat.sub_self] at hx
     simp at hj hx; subst hj; subst hx
     have hcap : s'.len <= s'.cap := by
      rcases hr8.2 with ⟨q1, q2⟩ | ⟨_, _, _, _, _, q, _⟩
      ·omega
      ·exact q
     exact ⟨(SlR.loc _ _ _).mono (mv ((SlR.loc _ _ _).keep0 ((SlR.loc _ _ _).mono hr8.slR (G := fun b => v.size <= b /\ b < v8.size) fun b hb hd => ⟨hd, hb⟩) e9) fun b hd => ⟨by omega, fun hh => by omega⟩) fun b _ hd => .inr hd, hcap⟩
   ·have hs11 := o11.1
    rcases hb with hd | hd
    ·have := hE b hd; omega
    ·omega
 ·have hii : i = t.bs.length := by simp only at hge; omega
  subst hii
  rw [List.take_length] at hBn
  refine hR v U.size e (Nat.le_refl _) ⟨⟨sl, qs, E, hbn, (RowR.loc _ _ _).mono hrn fun b _ hb => ⟨Nat.le_of_lt hb.1, by omega, hb.2⟩, hBn, fun b hb => ⟨Nat.le_of_lt (hE b hb).1, by have := (hE b hb).1; omega⟩⟩, Nat.le_refl _, h.b1, h.r1, h.few, h.low, h.all⟩
end Go.Ar
namespace Go.Ar
open Go Go.Vc Go.Proofs
open Go.Bu (XA)


variable {U : Hp} {F : Rg} {p : Nat} {ow : Nat -> Nat}
def Q4 (l : List (Nat × Nat × Nat)) : List Value := l.flatMap fun r => [.int .i64 (r.1 : Int), .int .i64 (r.2.1 : Int), .int .i64 (r.2.2 : Int)]
theorem KM (l : List (Nat × Nat × Nat)) : (Q4 l).length = 3 * l.length := by
 induction l with
 | nil => rfl
 | cons x l ih => simp only [Q4, List.flatMap_cons, List.length_append, List.length_cons, List.length_nil] at *; omega
theorem K0 (a b : List (Nat × Nat × Nat)) : Q4 (a ++ b) = Q4 a ++ Q4 b := by simp [Q4]
theorem Wak {l : List (Nat × Nat × Nat)} {i : Nat} {r : Nat × Nat × Nat} (h : l[i]? = some r) :
 (Q4 l)[3 * i]? = some (.int .i64 (r.1 : Int)) /\ (Q4 l)[3 * i + 1]? = some (.int .i64 (r.2.1 : Int)) /\ (Q4 l)[3 * i + 2]? = some (.int .i64 (r.2.2 : Int)) := by
 induction l generalizing i with
 | nil => simp at h
 | cons x l ih =>
  have e : Q4 (x :: l) = [.int .i64 (x.1 : Int), .int .i64 (x.2.1 : Int), .int .i64 (x.2.2 : Int)] ++ Q4 l := by simp [Q4]
  rw [e]
  cases i with
  | zero => simp at h; subst h; simp
  | succ i =>
   have := ih (i := i) (by simpa using h)
   rw [show 3 * (i + 1) = 3 * i + 3 by omega]
   simpa using this
def KG (ow : Nat -> Nat) (x : Nat) (l : List (Nat × Nat × Nat)) : Prop :=
 l.length <= x /\ (∀ r ∈ l, 1 <= r.2.1 /\ r.1 + r.2.1 <= x /\ ∀ y, r.1 <= y -> y < r.1 + r.2.1 -> ow y = r.2.2) /\ ∀ y, y < x -> ow y ≠ 0 -> ∃ r ∈ l, r.1 <= y /\ y < r.1 + r.2.1
theorem KG.skip {x : Nat} {l : List (Nat × Nat × Nat)} (h : KG ow x l) (h0 : ow x = 0) : KG ow (x + 1) l :=
 ⟨by have := h.1; omega, fun r hr => ⟨(h.2.1 r hr).1, by have := (h.2.1 r hr).2.1; omega, (h.2.1 r hr).2.2⟩, fun y hy hn => h.2.2 y (by
  rcases Nat.lt_or_ge y x with h1 | h1
  ·exact h1
  ·have : y = x := by omega
   subst this; exact absurd h0 hn) hn⟩
theorem KG.new {x : Nat} {l : List (Nat × Nat × Nat)} (h : KG ow x l) : KG ow (x + 1) (l ++ [(x, 1, ow x)]) := by
 refine ⟨by simp; exact h.1, fun r hr => ?_, fun y hy hn => ?_⟩
 ·rcases List.mem_append.1 hr with h1 | h1
  ·exact ⟨(h.2.1 r h1).1, by have := (h.2.1 r h1).2.1; omega, (h.2.1 r h1).2.2⟩
  ·simp at h1; subst h1
   exact ⟨Nat.le_refl _, Nat.le_refl _, fun y h1 h2 => by simp only at h1 h2 ⊢; rw [show y = x by omega]⟩
 ·rcases Nat.lt_or_ge y x with h1 | h1
  ·obtain ⟨r, hr, h2⟩ := h.2.2 y h1 hn
   exact ⟨r, List.mem_append_left _ hr, h2⟩
  ·exact ⟨(x, 1, ow x), by simp, by simp only; omega⟩
theorem KG.more {x a m no : Nat} {l : List (Nat × Nat × Nat)} (h : KG ow x (l ++ [(a, m, no)])) (he : a + m = x) (hno : ow x = no) : KG ow (x + 1) (l ++ [(a, m + 1, no)]) := by
 refine ⟨by have := h.1; simp at this ⊢; omega, fun r hr => ?_, fun y hy hn => ?_⟩
 ·rcases List.mem_append.1 hr with h1 | h1
  ·have := h.2.1 r (List.mem_append_left _ h1)
   exact ⟨this.1, by omega, this.2.2⟩
  ·simp at h1; subst h1
   have := h.2.1 (a, m, no) (by simp)
   refine ⟨by simp only; omega, by simp only; omega, fun y h1 h2 => ?_⟩
   simp only at h1 h2 ⊢
   rcases Nat.lt_or_ge y (a + m) with h3 | h3
   ·exact this.2.2 y h1 h3
   ·rw [show y = x by omega]; exact hno
 ·rcases Nat.lt_or_ge y x with h1 | h1
  ·obtain ⟨r, hr, h2⟩ := h.2.2 y h1 hn
   rcases List.mem_append.1 hr with h3 | h3
   ·exact ⟨r, List.mem_append_left _ h3, h2⟩
   ·simp at h3; subst h3
    exact ⟨(a, m + 1, no), by simp, by simp only at h2 ⊢; omega⟩
  ·exact ⟨(a, m + 1, no), by simp, by simp only; have := h.2.1 (a, m, no) (by simp); simp only at this; omega⟩
set_option maxRecDepth 20000 in
theorem Wft (h : PmH U F p ow) {R : Sl -> Hp -> Prop} (hR : ∀ s σ' l, Ext0 U σ' -> KG ow 1024 l -> RowR s 3 (Q4 l) σ' (fun b => U.size <= b) -> R s σ') : Yg.call (some ⟨p, 0, none⟩) U R := by
 refine Yg.of_vc ?_
 unfold Yg.vc
 refine KA (a := .s) (bb := .i .i64) (fun (out : Sl) (t : Int) v => ∃ (x : Nat) (l : List (Nat × Nat × Nat)), t = (x : Int) /\ x <= 1024 /\ Ext0 U v /\ KG ow x l /\ RowR out 3 (Q4 l) v (fun b => U.size <= b)) (fun _ t _ => 1024 - t.toNat)
  ⟨0, [], rfl, by omega, Ext.refl _ _, ⟨by simp, by simp, fun y hy => by omega⟩, RowR.nil _ _ _ _⟩ ?_
 rintro out t v ⟨x, l, rfl, hx, e, hM, hrow⟩
 refine ifD (fun hlt => ?_) fun hge => ?_
 ·have hx' : x < 1024 := by omega
  have hlen : out.len = l.length := by have := hrow.1; rw [KM] at this; omega
  have hll := hM.1
  refine WgW (PmH.loc.keep0 h e) _ ?_
  have hv : owI ow (x : Int) = ow x := by unfold owI; rw [if_pos (by omega)]; rfl
  rw [hv]
  refine ar (by omega) (by omega) ?_
  rw [Wbj]
  refine iff_ (fun h0 => ?_) fun h0 => ?_
  ·exact arN (m := x + 1) (by omega) (by omega) ⟨⟨x + 1, l, rfl, by omega, e, hM.skip (by simpa using h0), hrow⟩, by omega⟩
  have new : ∀ ty1 ty2 : Nat, Nw (.cells #[.int .i64 (x : Int), .int .i64 1, .int .i64 ((ow x : Nat) : Int)] ty1 (0, 0)) v fun n20 v5 => App out 3 24 ty2 [.int .i64 0, .int .i64 0, .int .i64 0] ⟨(some n20), 1, 1⟩ v5 fun out1 v6 =>
   Ar .i64 ((x : Int) + 1) fun t602 => (∃ (x' : Nat) (l : List (Nat × Nat × Nat)), t602 = (x' : Int) /\ x' <= 1024 /\ Ext0 U v6 /\ KG ow x' l /\ RowR out1 3 (Q4 l) v6 (fun b => U.size <= b)) /\ 1024 - t602.toNat < 1024 - (x : Int).toNat := by
   intro ty1 ty2
   refine hrow.push (vs := [.int .i64 (x : Int), .int .i64 1, .int .i64 ((ow x : Nat) : Int)]) (fun b hb => Nat.le_trans e.1 hb) rfl rfl (by simp [one1]) (by omega) (by omega) fun s' v6 hl' e' ho' => ?_
   refine arN (m := x + 1) (by omega) (by omega) ⟨⟨x + 1, _, rfl, by omega, Ext.fresh e e' fun _ h => h, hM.new, ?_⟩, by omega⟩
   rw [K0]; exact ho'
  refine JnB.intro ?_
  rcases List.eq_nil_or_concat l with hl0 | ⟨l', ⟨a, m, no⟩, hl'⟩
  ·subst hl0
   refine ifDF (by simp at hlen; omega) (JnB.intro (ifF rfl (ifF rfl (new _ _))))
  ·rw [List.concat_eq_append] at hl'
   subst hl'
   have hlast : (l' ++ [(a, m, no)])[l'.length]? = some (a, m, no) := by simp
   have hg := Wak hlast
   simp only at hg
   have hlen' : out.len = l'.length + 1 := by rw [hlen]; simp
   have hnn : ((out.len : Nat) : Int) - 1 = ((l'.length : Nat) : Int) := by omega
   have hr := (hM.2.1 (a, m, no) (by simp))
   simp only at hr
   have hcell : ∀ {d : Nat} {y : Int} {K : Int -> Prop}, d < 3 -> (Q4 (l' ++ [(a, m, no)]))[3 * l'.length + d]? = some (.int .i64 y) -> K y -> Ix out.a out.len (((out.len : Nat) : Int) - 1) 3 fun z => LdI .i64 (z.add d) v K := by
    intro d y K hd hy hK
    obtain ⟨b, o, ha, hc⟩ := hrow.slR.cell hy
    rw [ha, hnn]
    refine ix (by omega) (by omega) ?_
    rw [add_lit, add_lit]
    refine ldI ?_ hK
    rw [show o + (l'.length : Int).toNat * 3 + d = o + (3 * l'.length + d) by omega]; exact hc
   refine ifDT (by omega) (hcell (d := 0) (by omega) hg.1 (hcell (d := 1) (by omega) hg.2.1 (arN (m := a + m) (by omega) (by omega) (JnB.intro ?_))))
   rw [beqN]
   refine iff_ (fun hc1 => hcell (d := 2) (by omega) hg.2.2 ?_) fun hc1 => ifF rfl (new _ _)
   rw [beqN]
   refine iff_ (fun hc2 => ?_) fun hc2 => new _ _
   have e1 : a + m = x := by simpa using hc1
   have e2 : no = ow x := by simpa using hc2
   refine hcell (d := 1) (by omega) hg.2.1 (arN (m := m + 1) (by omega) (by omega) ?_)
   rcases hrow.2 with ⟨h0, _⟩ | ⟨b, cs, hq, hab, hbb, hle, hcl, htt⟩
   ·omega
   rw [hab, hnn]
   refine ix (by omega) (by omega) ?_
   rw [add_lit, add_lit]
   refine hrow.st (j := 3 * l'.length + 1) (by rw [KM]; simp; omega) (fun b' hb' => by rw [hab] at hb'; cases hb'; congr 1; omega) fun v7 e7 hr7 => ?_
   refine arN (m := x + 1) (by omega) (by omega) ⟨⟨x + 1, l' ++ [(a, m + 1, no)], rfl, by omega, Ext.fresh e e7 fun _ h => h, hM.more e1 e2.symm, ?_⟩, by omega⟩
   have : (Q4 (l' ++ [(a, m, no)])).set (3 * l'.length + 1) (.int .i64 ((m + 1 : Nat) : Int)) = Q4 (l' ++ [(a, m + 1, no)]) := by
    rw [K0, K0, List.set_append_right _ _ (by rw [KM]; omega), KM]
    rw [show 3 * l'.length + 1 - 3 * l'.length = 1 by omega]
    simp [Q4]
   rw [this] at hr7
   exact hr7
 ·have hxx : x = 1024 := by omega
  subst hxx
  exact hR out v l e hM hrow
theorem KU (h : PmH U F p ow) {R : Option Addr -> Hp -> Prop} (hR : ∀ σ' p', Ext0 U σ' -> U.size <= p' -> PmH σ' (fun b => U.size <= b) p' ow -> R (some ⟨p', 0, none⟩) σ') : W6.call (some ⟨p, 0, none⟩) U R := by
 refine W6.of_vc ?_
 unfold W6.vc
 refine GN h (ifF rfl (WeM fun v1 p' e1 hp' hP1 => Wft (PmH.loc.keep0 h e1) fun s v2 l e2 hM hrow => ?_))
 have hlen : s.len = l.length := by have := hrow.1; rw [KM] at this; omega
 have hll := hM.1
 have hP2 := PmH.loc.cut (PmH.loc.keep0 (PmH.loc.cut hP1) e2)
 have hs1 := e1.1
 have hs2 := e2.1
 refine YX (a := .i .i64) (fun (t : Int) v => ∃ i : Nat, t = (i : Int) /\ i <= l.length /\ Ext0 U v /\ (∃ G : Rg, (∀ b, G b -> U.size <= b /\ (b < v1.size ∨ v2.size <= b)) /\ PmH v G p' (fun y => if (l.take i).any (fun r => decide (r.1 <= y) && decide (y < r.1 + r.2.1)) then ow y else 0)) /\ RowR s 3 (Q4 l) v (fun b => v1.size <= b /\ b < v2.size) /\ v2.size <= v.size) (fun t _ => l.length - t.toNat)
  ⟨0, rfl, by omega, e1.trans e2, ⟨_, fun b hb => ⟨hb.1.1, .inl hb.1.2⟩, PmH.congr hP2 fun x hx => by simp⟩, (RowR.loc _ _ _).mono hrow fun b hb hf => ⟨hf, hb⟩, Nat.le_refl _⟩ ?_
 rintro t v ⟨i, rfl, hi, e, ⟨G, hG, hP⟩, hr, hv2⟩
 refine ifD (fun hlt => ?_) fun hge => ?_
 ·have hi' : i < l.length := by omega
  have hx : l[i]? = some l[i] := gGe hi'
  have hg := Wak hx
  have hm := hM.2.1 l[i] (List.getElem_mem hi')
  generalize l[i] = r at hx hg hm
  obtain ⟨a, m, no⟩ := r
  simp only at hg hm
  obtain ⟨b, o, ha, hc0⟩ := hr.slR.cell hg.1
  obtain ⟨b1, o1, ha1, hc1⟩ := hr.slR.cell hg.2.1
  obtain ⟨b2, o2, ha2, hc2⟩ := hr.slR.cell hg.2.2
  rw [ha] at ha1 ha2
  cases ha1; cases ha2
  rw [ha]
  refine ix (by omega) (by omega) ?_
  rw [add_lit]
  have ee : o + (i : Int).toNat * 3 = o + 3 * i := by omega
  rw [ee]
  refine ldI0 (by simpa using hc0) (ldI0 (by rw [Nat.add_assoc]; exact hc1) (ldI0 (by rw [Nat.add_assoc]; exact hc2) ?_))
  refine nw (cs := [.int .i64 0, .int .i64 0, .int .i64 0]) fun v4 hz4 e4 hb4 => hb4.s1 (by simp) fun v5 o5 b5 => b5.s1 (by simp) fun v6 o6 b6 => b6.s1 (by simp) fun v7 o7 b7 => b7.rI rfl (b7.rI rfl (b7.rI rfl ?_))
  have e47 : Ext0 v v7 := Ext.fresh (Ext.fresh (Ext.fresh e4 o5.ext fun i hi => by omega) o6.ext fun i hi => by omega) o7.ext fun i hi => by omega
  have hP7 := PmH.loc.cut (PmH.loc.keep0 (PmH.loc.cut hP) e47)
  have hv7 := e47.1
  have step : ∀ v8, Ext (Cut (Cut G v) v7) v7 v8 -> PmH v8 (Grow (Cut (Cut G v) v7) v7) p' (setO (fun y => if (l.take i).any (fun r => decide (r.1 <= y) && decide (y < r.1 + r.2.1)) then ow y else 0) a m no) -> Ar .i64 ((i : Int) + 1) fun t25 =>
   (∃ j : Nat, t25 = (j : Int) /\ j <= l.length /\ Ext0 U v8 /\ (∃ G : Rg, (∀ b, G b -> U.size <= b /\ (b < v1.size ∨ v2.size <= b)) /\ PmH v8 G p' (fun y => if (l.take j).any (fun r => decide (r.1 <= y) && decide (y < r.1 + r.2.1)) then ow y else 0)) /\ RowR s 3 (Q4 l) v8 (fun b => v1.size <= b /\ b < v2.size) /\ v2.size <= v8.size) /\ l.length - t25.toNat < l.length - (i : Int).toNat := by
   intro v8 e8 h8
   have hv8 := e8.1
   refine arN (m := i + 1) (by omega) (by omega) ⟨⟨i + 1, rfl, by omega, Ext.fresh (e.trans e47) e8 fun b hb => (hG b hb.1.1).1, ⟨_, fun b hb => ?_, PmH.congr h8 fun y hy => ?_⟩, (RowR.loc _ _ _).keep ((RowR.loc _ _ _).keep0 hr e47) e8 fun b _ hb hc => by have := (hG b hc.1.1).2; omega, by omega⟩, by omega⟩
   ·rcases hb with hb | hb
    ·exact hG b hb.1.1
    ·exact ⟨by have := e.1; omega, .inr (by omega)⟩
   ·have htk : l.take (i + 1) = l.take i ++ [(a, m, no)] := by rw [List.take_add_one, hx]; rfl
    have hok : XA 1024 (a : Int) (m : Int) = true := by simp only [XA, Bool.and_eq_true, decide_eq_true_eq]; omega
    simp only [setO, hok, if_true, htk, List.any_append, List.any_cons, List.any_nil, Bool.or_false]
    by_cases hin : a <= y /\ y < a + m
    ·rw [if_pos hin, if_pos (by simp [hin])]
     exact (hm.2.2 y hin.1 hin.2).symm
    ·rw [if_neg hin]
     have : (decide (a <= y) && decide (y < a + m)) = false := by
      rw [← Bool.not_eq_true]; simpa using hin
     rw [this, Bool.or_false]
  refine Wbg hP7 a m (by omega) (by omega) no (fun hk => ?_) fun x y hx hy h1 h2 v8 e8 h8 => ?_
  ·have : XA 1024 (a : Int) (m : Int) = true := by simp only [XA, Bool.and_eq_true, decide_eq_true_eq]; omega
   rw [this] at hk; cases hk
  ·have hxa : x = a := by omega
   have hym : y = m := by omega
   subst hxa; subst hym
   exact step v8 e8 h8
 ·have hii : i = l.length := by omega
  subst hii
  rw [List.take_length] at hP
  refine hR v p' e hp' (PmH.congr (PmH.loc.mono hP fun b _ hb => (hG b hb).1) fun x hx => ?_)
  by_cases h0 : ow x = 0
  ·simp [h0]
  ·obtain ⟨r, hr1, hr2⟩ := hM.2.2 x hx h0
   rw [if_pos (List.any_eq_true.2 ⟨r, hr1, by simpa using hr2⟩)]
end Go.Ar
namespace Go.Proofs
open Go.Vc

set_option maxRecDepth 100000
def Wv.hint : Hn := .q (.o 1) (.q (.q (.o 3) (.c (.q (.o 1) (.l)) (.l))) (.q (.o 6) (.l)))
def Wv.vc (s : Option Addr) (U : Hp) (R : Int -> Hp -> Prop) : Prop :=
 Xs.call s U fun t4 v =>
 If (!t4) (R 0 v)
 (NilP s fun a7 =>
 LdS (a7.add 0) v fun t9 =>
 R ((t9.len : Nat) : Int) v)
theorem Wv.of_vc {s U R} (hv : Wv.vc s U R) : Wv.call s U R :=
 Wa Tryz.func27 (x := Wv.hint) (Eq.mpr (by kernel_rfl) hv)
def Yo.hint : Hn := .q (.o 1) (.q (.q (.o 3) (.c (.q (.o 1) (.l)) (.l))) (.q (.reg (.heldJ true [] [(3, .one .p)] (.take 0 (.take 1 (.take 2 (.take 3 (.take 4 (.take 7 (.take 8 (.take 9 (.take 10 (.all [(5, .all [(6, .take 11 (.all [(12, .take 13 (.done))]))]), (6, .all [(5, .take 11 (.all [(12, .take 13 (.done))]))])])))))))))))) (.q (.reg (.tail 8 [.op, .op, .op, .op, .op, .op, .op, .op] [.op])) (.q (.q (.o 5) (.k (.loop [] (.q (.reg (.seq [.it .i64 .s, .op])) (.q (.c (.l) (.l)) (.k (.q (.reg (.seq [.it .i64 .s, .op, .op, .op, .op])) (.reg (.held true [7] (.take 0 (.take 1 (.take 2 (.take 3 (.take 4 (.take 5 (.all [(6, .all [(7, .done)])])))))))))))))))) (.q (.o 2) (.l))))))
def Yo.vc (s : Option Addr) (U : Hp) (R : Option Addr -> Hp -> Prop) : Prop :=
 Xs.call s U fun t7 v =>
 If (!t7) (R none v)
 (Jn [.p] (fun (vx : Option Addr) v1 =>
 NilP vx fun a23 =>
 LdS (a23.add 0) v1 fun t25 =>
 NilP s fun a27 =>
 LdS (a27.add 0) v1 fun t29 =>
 Cpy t25 2 t29 v1 fun t30 v2 =>
 NilP s fun a32 =>
 LdM (a32.add 1) v2 fun t34 =>
 Rng .i64 .s t34 v2 fun it v3 =>
 Xe [] (fun I => I v3) fun J1 v4 =>
 Nxt .i64 .s it v4 (R vx v4)
 (fun key val v5 =>
 Ent .i64 .s it v5 fun key1 val1 =>
 Held v5 fun S1 =>
 NilP vx fun a42 =>
 LdH S1 .m (a42.add 1) fun (t44 : Option Nat) =>
 Wu.call val1 v5 fun t47 v6 =>
 And (S1 v6) <|
 MSet .i64 .s t44 key1 t47 v6 fun v7 =>
 J1 v7)) fun J =>
 Held v fun S =>
 NilP s fun a10 =>
 LdH S .s (a10.add 0) fun (t12 : Sl) =>
 NilP s fun a17 =>
 LdH S (.i .i64) (a17.add 2) fun (t19 : Int) =>
 (Mk ((t12.len : Nat) : Int) ((t12.len : Nat) : Int) 2 126 [.bool false, .bool false] v fun t14 v8 =>
 And (S v8) <|
 Nw (.map #[] 0) v8 fun n15 v9 =>
 And (S v9) <|
 Nw (.cells #[.slice t14.a t14.len t14.cap, .map (some n15.block), .int .i64 t19] 81 (0, 0)) v9 fun n21 v10 =>
 And (S v10) <|
 J (some n21) v10) ∧
 (Nw (.map #[] 0) v fun n151 v11 =>
 And (S v11) <|
 Mk ((t12.len : Nat) : Int) ((t12.len : Nat) : Int) 2 126 [.bool false, .bool false] v11 fun t141 v12 =>
 And (S v12) <|
 Nw (.cells #[.slice t141.a t141.len t141.cap, .map (some n151.block), .int .i64 t19] 81 (0, 0)) v12 fun n211 v13 =>
 And (S v13) <|
 J (some n211) v13))
theorem Yo.of_vc {s U R} (hv : Yo.vc s U R) : Yo.call s U R :=
 Wa Tryz.func34 (x := Yo.hint) (Eq.mpr (by kernel_rfl) hv)
def ZP.hint : Hn := .q (.o 2) (.q (.q (.reg (.seq [.op, .op, .op, .grd false 2 [.op, .op]])) (.c (.q (.o 2) (.l)) (.l))) (.q (.o 7) (.l)))
def ZP.vc (pages : Int) (U : Hp) (R : Option Addr -> Int -> Hp -> Prop) : Prop :=
 JnB (fun r v =>
 If r (R none 1 v)
 (Mk pages pages 2 126 [.bool false, .bool false] v fun t11 v1 =>
 Nw (.map #[] 0) v1 fun n12 v2 =>
 Nw (.cells #[.slice t11.a t11.len t11.cap, .map (some n12.block), .int .i64 0] 81 (0, 0)) v2 fun n14 v3 =>
 R (some n14) 0 v3)) fun J =>
 If (decide (pages < 1)) (J true U)
 (J (decide (pages > 1024)) U)
theorem ZP.of_vc {pages U R} (hv : ZP.vc pages U R) : ZP.call pages U R :=
 Wa Tryz.func36 (x := ZP.hint) (Eq.mpr (by kernel_rfl) hv)
def Yj.hint : Hn := .q (.o 1) (.q (.q (.o 4) (.q (.o 2) (.c (.q (.o 2) (.l)) (.l)))) (.q (.o 5) (.q (.o 1) (.l))))
def Yj.vc (s : Option Addr) (addr : Int) (value : Int) (U : Hp) (R : Int -> Hp -> Prop) : Prop :=
 Xu.call s addr 1 U fun ve v =>
 If (ve != 0) (R ve v)
 (Nz 8 <| Ar .i64 (addr.tdiv 8) fun t16 =>
 YP.call s t16 value v fun v1 =>
 R 0 v1)
theorem Yj.of_vc {s addr value U R} (hv : Yj.vc s addr value U R) : Yj.call s addr value U R :=
 Wa Tryz.func45 (x := Yj.hint) (Eq.mpr (by kernel_rfl) hv)
def XE.hint : Hn := .q (.o 1) (.q (.o 6) (.l))
def XE.vc (s : Option Addr) (start : Int) (pages : Int) (U : Hp) (R : Int -> Hp -> Prop) : Prop :=
 LdB ((Addr.mk 0 0 none).add 0) U fun t10 =>
 LdB ((Addr.mk 0 0 none).add 1) U fun t101 =>
 XQ.call s start pages t10 t101 U fun t11 v =>
 R t11 v
theorem XE.of_vc {s start pages U R} (hv : XE.vc s start pages U R) : XE.call s start pages U R :=
 Wa Tryz.func72 (x := XE.hint) (Eq.mpr (by kernel_rfl) hv)
def Yh.hint : Hn := .q (.o 1) (.q (.o 6) (.l))
def Yh.vc (s : Option Addr) (start : Int) (pages : Int) (U : Hp) (R : Int -> Hp -> Prop) : Prop :=
 LdB ((Addr.mk 1 0 none).add 0) U fun t10 =>
 LdB ((Addr.mk 1 0 none).add 1) U fun t101 =>
 XQ.call s start pages t10 t101 U fun t11 v =>
 R t11 v
theorem Yh.of_vc {s start pages U R} (hv : Yh.vc s start pages U R) : Yh.call s start pages U R :=
 Wa Tryz.func76 (x := Yh.hint) (Eq.mpr (by kernel_rfl) hv)
def Xs.hint : Hn := .q (.o 1) (.q (.reg (.seq [.op, .op, .op, .grd true 6 [.op, .op, .op, .op, .op, .op], .op])) (.l))
def Xs.vc (s : Option Addr) (U : Hp) (R : Bool -> Hp -> Prop) : Prop :=
 JnB (fun r v =>
 R r v) fun J =>
 If (!s.isNone) (NilP s fun a7 =>
 LdS (a7.add 0) U fun t9 =>
 J (decide (((t9.len : Nat) : Int) > 0)) U)
 (J false U)
theorem Xs.of_vc {s U R} (hv : Xs.vc s U R) : Xs.call s U R :=
 Wa Tryz.func77 (x := Xs.hint) (Eq.mpr (by kernel_rfl) hv)
def YC.hint : Hn := .q (.o 2) (.q (.q (.o 4) (.q (.o 2) (.c (.q (.o 3) (.l)) (.l)))) (.q (.o 6) (.l)))
def YC.vc (s : Option Addr) (addr : Int) (U : Hp) (R : Int -> Int -> Hp -> Prop) : Prop :=
 Xu.call s addr 1 U fun ve v =>
 If (ve != 0) (R 0 ve v)
 (Nz 8 <| Ar .i64 (addr.tdiv 8) fun t15 =>
 YM.call s t15 v fun t16 v1 =>
 R t16 0 v1)
theorem YC.of_vc {s addr U R} (hv : YC.vc s addr U R) : YC.call s addr U R :=
 Wa Tryz.func84 (x := YC.hint) (Eq.mpr (by kernel_rfl) hv)
def Xu.hint : Hn := .q (.o 1) (.q (.k (.q (.o 4) (.c (.q (.o 1) (.l)) (.q (.o 3) (.c (.q (.o 1) (.l)) (.q (.reg (.seq [.op, .op, .op, .grd false 3 [.op, .op, .op], .op])) (.c (.q (.o 1) (.l)) (.l)))))))) (.q (.o 10) (.q (.q (.reg (.heldJ true [] [(50, .one .b)] (.take 0 (.take 1 (.take 2 (.take 3 (.take 4 (.take 5 (.take 6 (.take 7 (.split 39 (.take 8 (.take 9 (.take 10 (.take 11 (.take 12 (.take 13 (.take 14 (.take 15 (.take 16 (.take 17 (.take 18 (.done)))))))))))) (.take 8 (.take 9 (.take 10 (.take 11 (.take 12 (.take 13 (.take 14 (.take 15 (.take 16 (.all [(17, .take 18 (.done))]))))))))))))))))))))) (.c (.q (.o 1) (.l)) (.l))) (.q (.o 1) (.l)))))
def Xu.vc (s : Option Addr) (addr : Int) (words : Int) (U : Hp) (R : Int -> Hp -> Prop) : Prop :=
 Xs.call s U fun t11 v =>
 If (!t11) (R 5 v)
 (If (words == 0) (R 0 v)
 (JnB (fun r v1 =>
 If r (R 7 v1)
 (Nz 256 <| Ar .i64 (addr.tdiv 256) fun first =>
 Nz 8 <| Ar .i64 (addr.tdiv 8) fun t27 =>
 Ar .i64 (t27 + words) fun t29 =>
 Ar .i64 (t29 - 1) fun t30 =>
 Nz 32 <| Ar .i64 (t30.tdiv 32) fun last =>
 Jn [.b] (fun (t50 : Bool) v2 =>
 If t50 (R 7 v2)
 (R 0 v2)) fun J1 =>
 Held v1 fun S =>
 NilP s fun a34 =>
 LdH S .s (a34.add 0) fun (t36 : Sl) =>
 If (decide (last ≥ ((t36.len : Nat) : Int))) (J1 true v1)
 (NilP s fun a41 =>
 LdH S .s (a41.add 0) fun (t43 : Sl) =>
 Ar .i64 (last + 1) fun t46 =>
 SlcL t43 2 first t46 (t43.cap : Nat) fun t47 =>
 LdH S .b ((Addr.mk 1 0 none).add 0) fun (t48 : Bool) =>
 LdH S .b ((Addr.mk 1 0 none).add 1) fun (t481 : Bool) =>
 Wj.call t47 t48 t481 v1 fun t49 v3 =>
 And (S v3) <|
 J1 t49 v3))) fun J =>
 If (decide (addr < 0)) (J true v)
 (Nz 8 <|
 J ((addr.tmod 8) != 0) v)))
theorem Xu.of_vc {s addr words U R} (hv : Xu.vc s addr words U R) : Xu.call s addr words U R :=
 Wa Tryz.func112 (x := Xu.hint) (Eq.mpr (by kernel_rfl) hv)
def YP.hint : Hn := .q (.o 3) (.sjn [] (.q (.oq 9) (.c (.q (.reg (.tail 7 [.op, .op, .op, .op, .op, .op, .op] [.op])) (.q (.reg (.held true [6] (.take 0 (.take 1 (.take 2 (.take 3 (.take 4 (.all [(5, .all [(6, .done)])])))))))) (.reg (.tail 13 [.op, .op, .op, .op, .op, .op, .op, .op, .op, .op, .op, .op, .op] [.op])))) (.l))) (.o 11))
def YP.vc (s : Option Addr) (word : Int) (value : Int) (U : Hp) (R : Hp -> Prop) : Prop :=
 Nz 32 <| Ar .i64 (word.tdiv 32) fun p =>
 Jn [] (fun v =>
 NilP s fun a45 =>
 LdM (a45.add 1) v fun t47 =>
 Lk .i64 .s t47 p v fun t49 =>
 Nz 32 <|
 Ix (t49.getD ⟨none, 0, 0⟩).a (t49.getD ⟨none, 0, 0⟩).len (word.tmod 32) 1 fun a53 =>
 St1 a53 (.int .i64 value) v fun v1 =>
 R v1) fun J =>
 NilP s fun a10 =>
 LdS (a10.add 0) U fun t12 =>
 Ix t12.a t12.len p 2 fun a14 =>
 LdB (a14.add 0) U fun t15 =>
 LdB (a14.add 1) U fun t151 =>
 LdB ((Addr.mk 2 0 none).add 0) U fun t16 =>
 LdB ((Addr.mk 2 0 none).add 1) U fun t161 =>
 If (!((t15 == t16) && ((t151 == t161) && true))) (NilP s fun a19 =>
 LdS (a19.add 0) U fun t21 =>
 LdB ((Addr.mk 2 0 none).add 0) U fun t23 =>
 LdB ((Addr.mk 2 0 none).add 1) U fun t231 =>
 Ix t21.a t21.len p 2 fun a24 =>
 St1 (a24.add 0) (.bool t23) U fun v2 =>
 St1 (a24.add 1) (.bool t231) v2 fun v3 =>
 Held v3 fun S =>
 NilP s fun a26 =>
 LdH S .m (a26.add 1) fun (t28 : Option Nat) =>
 Mk 32 32 8 3 [.int .i64 0] v3 fun t30 v4 =>
 And (S v4) <|
 MSet .i64 .s t28 p t30 v4 fun v5 =>
 NilP s fun a33 =>
 LdI .i64 (a33.add 2) v5 fun t35 =>
 NilP s fun a37 =>
 LdM (a37.add 1) v5 fun t39 =>
 MLen .i64 .s t39 v5 fun t40 =>
 NilP s fun a42 =>
 St1 (a42.add 2) (.int .i64 (if t40 > t35 then t40 else t35)) v5 fun v6 =>
 J v6)
 (J U)
theorem YP.of_vc {s word value U R} (hv : YP.vc s word value U R) : YP.call s word value U R :=
 Wa Tryz.func113 (x := YP.hint) (Eq.mpr (by kernel_rfl) hv)
def XQ.hint : Hn := .q (.o 2) (.q (.o 9) (.q (.k (.q (.o 3) (.c (.q (.o 2) (.l)) (.q (.o 4) (.c (.q (.o 1) (.l)) (.l)))))) (.q (.o 5) (.q (.o 1) (.l)))))
def XQ.vc (s : Option Addr) (start : Int) (pages : Int) (to : Bool) (to1 : Bool) (U : Hp) (R : Int -> Hp -> Prop) : Prop :=
 Nw (.cells #[.bool to, .bool to1] 126 (0, 0)) U fun n7 v =>
 Yw.call s start pages v fun t15 t151 v1 =>
 If (t151 != 0) (R t151 v1)
 (LdB ((Addr.mk 1 0 none).add 0) v1 fun t24 =>
 LdB ((Addr.mk 1 0 none).add 1) v1 fun t241 =>
 Wj.call t15 t24 t241 v1 fun t25 v2 =>
 If t25 (R 7 v2)
 (LdB (n7.add 0) v2 fun t29 =>
 LdB (n7.add 1) v2 fun t291 =>
 Yy.call s start pages t29 t291 v2 fun v3 =>
 R 0 v3))
theorem XQ.of_vc {s start pages to to1 U R} (hv : XQ.vc s start pages to to1 U R) : XQ.call s start pages to to1 U R :=
 Wa Tryz.func156 (x := XQ.hint) (Eq.mpr (by kernel_rfl) hv)
def YM.hint : Hn := .q (.o 1) (.q (.q (.o 12) (.q (.o 1) (.c (.q (.o 6) (.l)) (.l)))) (.q (.o 1) (.l)))
def YM.vc (s : Option Addr) (word : Int) (U : Hp) (R : Int -> Hp -> Prop) : Prop :=
 NilP s fun a9 =>
 LdM (a9.add 1) U fun t11 =>
 Nz 32 <| Ar .i64 (word.tdiv 32) fun t13 =>
 Lk .i64 .s t11 t13 U fun t14 =>
 If t14.isSome (Nz 32 <|
 Ix (t14.getD ⟨none, 0, 0⟩).a (t14.getD ⟨none, 0, 0⟩).len (word.tmod 32) 1 fun a21 =>
 LdI .i64 a21 U fun t22 =>
 R t22 U)
 (R 0 U)
theorem YM.of_vc {s word U R} (hv : YM.vc s word U R) : YM.call s word U R :=
 Wa Tryz.func170 (x := YM.hint) (Eq.mpr (by kernel_rfl) hv)
def Yw.hint : Hn := .q (.o 2) (.q (.k (.q (.o 4) (.c (.q (.o 2) (.l)) (.q (.reg (.seq [.op, .op, .op, .grd false 2 [.op, .op], .op, .grd false 7 [.op, .op, .op, .op, .op, .op, .op], .op, .grd false 9 [.op, .op, .op, .op, .op, .op, .op, .op, .op], .op])) (.c (.q (.o 2) (.l)) (.l)))))) (.q (.o 11) (.l)))
def Yw.vc (s : Option Addr) (start : Int) (pages : Int) (U : Hp) (R : Sl -> Int -> Hp -> Prop) : Prop :=
 Xs.call s U fun t10 v =>
 If (!t10) (R ⟨none, 0, 0⟩ 5 v)
 (JnB (fun r v1 =>
 JnB (fun r1 v2 =>
 JnB (fun r2 v3 =>
 If r2 (R ⟨none, 0, 0⟩ 1 v3)
 (NilP s fun a40 =>
 LdS (a40.add 0) v3 fun t42 =>
 Ar .i64 (start + pages) fun t46 =>
 SlcL t42 2 start t46 (t42.cap : Nat) fun t47 =>
 R t47 0 v3)) fun J2 =>
 If r1 (J2 true v2)
 (NilP s fun a31 =>
 LdS (a31.add 0) v2 fun t33 =>
 Ar .i64 (((t33.len : Nat) : Int) - start) fun t36 =>
 J2 (decide (pages > t36)) v2)) fun J1 =>
 If r (J1 true v1)
 (NilP s fun a22 =>
 LdS (a22.add 0) v1 fun t24 =>
 J1 (decide (start > ((t24.len : Nat) : Int))) v1)) fun J =>
 If (decide (start < 0)) (J true v)
 (J (decide (pages < 1)) v))
theorem Yw.of_vc {s start pages U R} (hv : Yw.vc s start pages U R) : Yw.call s start pages U R :=
 Wa Tryz.func219 (x := Yw.hint) (Eq.mpr (by kernel_rfl) hv)
def Yy.hint : Hn := .q (.o 1) (.q (.o 2) (.k (.loop [(8, .one (.i .i64))] (.q (.q (.o 5) (.c (.l) (.l))) (.q (.k (.q (.reg (.tail 7 [.op, .op, .op, .op, .op, .op, .op] [.op])) (.o 6))) (.o 3))))))
def Yy.vc (s : Option Addr) (start : Int) (pages : Int) (to : Bool) (to1 : Bool) (U : Hp) (R : Hp -> Prop) : Prop :=
 Nw (.cells #[.bool to, .bool to1] 126 (0, 0)) U fun n7 v =>
 Xe [(.i .i64)] (fun I => I start v) fun J (p : Int) v1 =>
 Ar .i64 (start + pages) fun t13 =>
 If (decide (p < t13)) (NilP s fun a18 =>
 LdS (a18.add 0) v1 fun t20 =>
 LdB (n7.add 0) v1 fun t22 =>
 LdB (n7.add 1) v1 fun t221 =>
 Ix t20.a t20.len p 2 fun a23 =>
 St1 (a23.add 0) (.bool t22) v1 fun v2 =>
 St1 (a23.add 1) (.bool t221) v2 fun v3 =>
 NilP s fun a25 =>
 LdM (a25.add 1) v3 fun t27 =>
 MDel .i64 .s t27 p v3 fun v4 =>
 Ar .i64 (p + 1) fun p1 =>
 J p1 v4)
 (R v1)
theorem Yy.of_vc {s start pages to to1 U R} (hv : Yy.vc s start pages to to1 U R) : Yy.call s start pages to to1 U R :=
 Wa Tryz.func220 (x := Yy.hint) (Eq.mpr (by kernel_rfl) hv)
def YI.hint : Hn := .q (.o 1) (.q (.o 9) (.q (.k (.q (.o 3) (.c (.q (.o 2) (.l)) (.q (.o 3) (.c (.q (.o 1) (.l)) (.l)))))) (.q (.o 5) (.q (.o 1) (.l)))))
def YI.vc (s : Option Addr) (start : Int) (pages : Int) (U : Hp) (R : Int -> Hp -> Prop) : Prop :=
 Yw.call s start pages U fun t13 t131 v =>
 If (t131 != 0) (R t131 v)
 (Wg.call t13 ⟨279, #[], #[]⟩ v fun t22 v1 =>
 If t22 (R 5 v1)
 (LdB ((Addr.mk 0 0 none).add 0) v1 fun t26 =>
 LdB ((Addr.mk 0 0 none).add 1) v1 fun t261 =>
 Yy.call s start pages t26 t261 v1 fun v2 =>
 R 0 v2))
theorem YI.of_vc {s start pages U R} (hv : YI.vc s start pages U R) : YI.call s start pages U R :=
 Wa Tryz.func226 (x := YI.hint) (Eq.mpr (by kernel_rfl) hv)
def Ys.hint : Hn := .q (.o 2) (.q (.o 4) (.l))
def Ys.vc (p : Bool) (p1 : Bool) (U : Hp) (R : Bool -> Hp -> Prop) : Prop :=
 Nw (.cells #[.bool p, .bool p1] 126 (0, 0)) U fun n1 v =>
 LdB (n1.add 0) v fun t3 =>
 LdB (n1.add 1) v fun t31 =>
 LdB ((Addr.mk 1 0 none).add 0) v fun t4 =>
 LdB ((Addr.mk 1 0 none).add 1) v fun t41 =>
 R (!((t3 == t4) && ((t31 == t41) && true))) v
theorem Ys.of_vc {p p1 U R} (hv : Ys.vc p p1 U R) : Ys.call p p1 U R :=
 Wa Tryz.func279 (x := Ys.hint) (Eq.mpr (by kernel_rfl) hv)
end Go.Proofs
namespace Go.Ar
open Go Go.Vc Go.Proofs
open Go.Bu (XA)


variable {U : Hp} {F : Rg} {p q r : Nat} {sp : Sp}
structure Gl (U : Hp) : Prop where
 c0 : cell U ⟨0, 0, none⟩ = some (.bool true)
 c1 : cell U ⟨0, 1, none⟩ = some (.bool false)
 u0 : cell U ⟨1, 0, none⟩ = some (.bool false)
 u1 : cell U ⟨1, 1, none⟩ = some (.bool false)
structure Gd (U : Hp) : Prop where
 d0 : cell U ⟨2, 0, none⟩ = some (.bool true)
 d1 : cell U ⟨2, 1, none⟩ = some (.bool true)
def Off (F : Rg) : Prop := ∀ b, F b -> b ≠ 0 /\ b ≠ 1
theorem ZM {h : Hp} {b o : Nat} {v : Value} (hc : cell h ⟨b, o, none⟩ = some v) : b < h.size := (UQ hc).1
theorem Gl.keep {σ' : Hp} (g : Gl U) (e : Ext F U σ') (hF : Off F) : Gl σ' := by
 have n1 : ¬ F 0 := fun h => (hF _ h).1 rfl
 have n2 : ¬ F 1 := fun h => (hF _ h).2 rfl
 exact ⟨(ZV e (ZM g.c0) n1).trans g.c0, (ZV e (ZM g.c1) n1).trans g.c1, (ZV e (ZM g.u0) n2).trans g.u0, (ZV e (ZM g.u1) n2).trans g.u1⟩
theorem Gd.keep {σ' : Hp} (g : Gd U) (e : Ext F U σ') (hF : ¬ F 2) : Gd σ' := ⟨(ZV e (ZM g.d0) hF).trans g.d0, (ZV e (ZM g.d1) hF).trans g.d1⟩
theorem Gd.keep0 {σ' : Hp} (g : Gd U) (e : Ext0 U σ') : Gd σ' := g.keep e id
theorem Gl.keep0 {σ' : Hp} (g : Gl U) (e : Ext0 U σ') : Gl σ' := g.keep e fun _ h => h.elim
theorem Off.grow (hF : Off F) (g : Gl U) : Off (Grow F U) := fun b hb => by
 rcases hb with h | h
 ·exact hF b h
 ·have h1 := ZM g.c0; have h2 := ZM g.u0
  exact ⟨by omega, by omega⟩
theorem Off.sub {G : Rg} (hF : Off F) (h : ∀ b, G b -> F b) : Off G := fun b hb => hF b (h b hb)
def pgC : Nat -> Bool × Bool
 | 0 => (false, false)
 | 1 => (true, false)
 | _ => (true, true)
def pgV (st : List Nat) : List Value := st.flatMap fun x => [.bool (pgC x).1, .bool (pgC x).2]
theorem Qf (l : List Nat) : (pgV l).length = 2 * l.length := by
 induction l with
 | nil => rfl
 | cons x l ih => simp only [pgV, List.flatMap_cons, List.length_append, List.length_cons, List.length_nil] at *; omega
theorem Wdp {l : List Nat} {i x : Nat} (h : l[i]? = some x) : (pgV l)[2 * i]? = some (.bool (pgC x).1) /\ (pgV l)[2 * i + 1]? = some (.bool (pgC x).2) := by
 induction l generalizing i with
 | nil => simp at h
 | cons y l ih =>
  have e : pgV (y :: l) = [.bool (pgC y).1, .bool (pgC y).2] ++ pgV l := by simp [pgV]
  rw [e]
  cases i with
  | zero => simp at h; subst h; simp
  | succ i =>
   have := ih (i := i) (by simpa using h)
   rw [show 2 * (i + 1) = 2 * i + 2 by omega]
   simpa using this
theorem Wdi {l : List Nat} {i v : Nat} (h : i < l.length) (rest : List Value) : ((pgV l ++ rest).set (2 * i) (.bool (pgC v).1)).set (2 * i + 1) (.bool (pgC v).2) = pgV (l.set i v) ++ rest := by
 induction l generalizing i with
 | nil => simp at h
 | cons y l ih =>
  have e : ∀ z m, pgV (z :: m) = .bool (pgC z).1 :: .bool (pgC z).2 :: pgV m := fun z m => by simp [pgV]
  cases i with
  | zero => simp [e]
  | succ i =>
   have := ih (i := i) (by simpa using h)
   rw [List.set_cons_succ, e, e, show 2 * (i + 1) = 2 * i + 1 + 1 by omega]
   simp only [List.cons_append, List.set_cons_succ]
   rw [this]
theorem WdB {x y : Nat} (hx : x <= 2) (hy : y <= 2) : (((pgC x).1 == (pgC y).1) && (((pgC x).2 == (pgC y).2) && true)) = (x == y) := by
 match x, y, hx, hy with
 | 0, 0, _, _ => rfl
 | 1, 1, _, _ => rfl
 | 2, 2, _, _ => rfl
 | 0, 1, _, _ => rfl
 | 0, 2, _, _ => rfl
 | 1, 0, _, _ => rfl
 | 1, 2, _, _ => rfl
 | 2, 0, _, _ => rfl
 | 2, 1, _, _ => rfl
theorem Qd {α : Type} (x : Int × α) (l : List (Int × α)) (k : Int) : mget (x :: l) k = if x.1 = k then some x.2 else mget l k := by
 unfold mget
 rw [List.find?_cons]
 by_cases h : x.1 = k
 ·simp [h]
 ·have : (x.1 == k) = false := by simpa using h
  rw [this, if_neg h]
theorem Wf0 {α : Type} (l : List (Int × α)) (n k : Int) (v : α) : mget (l.map fun x => if x.1 == n then (n, v) else x) k = if k = n then (if l.any (fun x => x.1 == n) then some v else none) else mget l k := by
 induction l with
 | nil => simp [mget]
 | cons x l ih =>
  rw [List.map_cons, Qd, ih, Qd, List.any_cons]
  by_cases hx : x.1 = n
  ·by_cases hk : k = n
   ·subst hk; simp [hx]
   ·have : ¬ n = k := fun e => hk e.symm
    simp [hx, hk, this]
  ·have hx' : (x.1 == n) = false := by simpa using hx
   simp only [hx', Bool.false_eq_true, if_false, Bool.false_or]
   by_cases hk : k = n
   ·subst hk; simp [hx]
   ·simp [hk]
theorem Wdq {α : Type} (l : List (Int × α)) (n k : Int) (v : α) (h : l.any (fun x => x.1 == n) = false) : mget (l ++ [(n, v)]) k = if k = n then some v else mget l k := by
 induction l with
 | nil =>
  rw [List.nil_append, Qd]
  by_cases hk : k = n
  ·simp [hk]
  ·have : ¬ n = k := fun e => hk e.symm
   simp [hk, this, mget]
 | cons x l ih =>
  rw [List.any_cons, Bool.or_eq_false_iff] at h
  rw [List.cons_append, Qd, ih h.2, Qd]
  have hx : ¬ x.1 = n := by simpa using h.1
  by_cases hk : k = n
  ·subst hk; simp [hx]
  ·simp [hk]
theorem Ka {α : Type} (l : List (Int × α)) (n k : Int) (v : α) : mget (mset l n v) k = if k = n then some v else mget l k := by
 unfold mset
 cases h : l.any (fun x => x.1 == n)
 ·rw [if_neg (by simp), Wdq l n k v h]
 ·rw [if_pos rfl, Wf0, h]; simp
theorem Wav {α : Type} (l : List (Int × α)) (n k : Int) : mget (mdel l n) k = if k = n then none else mget l k := by
 unfold mdel
 induction l with
 | nil => simp [mget]
 | cons x l ih =>
  rw [List.filter_cons, Qd]
  by_cases hx : x.1 = n
  ·have : (!(x.1 == n)) = false := by simp [hx]
   rw [this]
   simp only [Bool.false_eq_true, if_false, ih]
   by_cases hk : k = n
   ·simp [hk]
   ·have : ¬ x.1 = k := fun e => hk (e.symm.trans hx)
    simp [hk, this]
  ·have : (!(x.1 == n)) = true := by simpa using hx
   rw [this, if_pos rfl, Qd, ih]
   by_cases hk : k = n
   ·subst hk; simp [hx]
   ·simp [hk]
theorem U1 {α : Type} {l : List (Int × α)} {k : Int} : (mget l k).isSome = true ↔ k ∈ l.map (·.1) := by
 unfold mget
 rw [Option.isSome_map, List.find?_isSome]
 simp
def WdH (U : Hp) (s : Sl) (b : Nat) (f : Nat -> Int) : Prop := s.a = some ⟨b, 0, none⟩ /\ s.len = 32 /\ 32 <= s.cap /\ ∃ cs, Blk U b cs /\ 32 <= cs.length /\ ∀ j, j < 32 -> cs[j]? = some (.int .i64 (f j))
structure SpH2 (U : Hp) (F : Rg) (p q r : Nat) (l : List (Int × Sl)) (B : Nat -> Nat) (sp : Sp) : Prop where
 hd : ∃ cap, sp.st.length <= cap /\ Blk U p [.slice (some ⟨q, 0, none⟩) sp.st.length cap, .map (some r), .int .i64 (sp.pk : Int)]
 row : ∃ rest, Blk U q (pgV sp.st ++ rest)
 map : MapL U r .i64 .s l
 keys : ∀ x : Int, (mget l x).isSome = true ↔ ∃ k : Nat, x = k /\ sp.st[k]? = some 2
 wd : ∀ (k : Nat) s, mget l (k : Int) = some s -> WdH U s (B k) fun j => sp.wd (32 * k + j)
 inj : ∀ k k' : Nat, sp.st[k]? = some 2 -> sp.st[k']? = some 2 -> B k = B k' -> k = k'
 out : ∀ k : Nat, sp.st[k]? = some 2 -> F (B k) /\ B k ≠ p /\ B k ≠ q /\ B k ≠ r
 fs : F p /\ F q /\ F r /\ p ≠ q /\ p ≠ r /\ q ≠ r
 zero : ∀ w : Nat, sp.st[w / 32]? ≠ some 2 -> sp.wd w = 0
 n1 : 1 <= sp.st.length
 n2 : sp.st.length <= 1024
 le2 : ∀ x ∈ sp.st, x <= 2
 pk : sp.pk <= 1024
def SpH3 (U : Hp) (F : Rg) (p : Nat) (sp : Sp) : Prop := ∃ q r l B, SpH2 U F p q r l B sp
theorem SpH2.entry {l : List (Int × Sl)} {B : Nat -> Nat} (h : SpH2 U F p q r l B sp) {k : Nat} (hk : sp.st[k]? = some 2) : ∃ s, mget l (k : Int) = some s /\ WdH U s (B k) fun j => sp.wd (32 * k + j) := by
 have := (h.keys (k : Int)).2 ⟨k, rfl, hk⟩
 obtain ⟨s, hs⟩ := Option.isSome_iff_exists.1 this
 exact ⟨s, hs, h.wd k s hs⟩
theorem SpH2.dirty {l : List (Int × Sl)} {B : Nat -> Nat} (h : SpH2 U F p q r l B sp) {k : Nat} {s : Sl} (hs : mget l (k : Int) = some s) : sp.st[k]? = some 2 := by
 obtain ⟨k', e, hk⟩ := (h.keys (k : Int)).1 (by rw [hs]; rfl)
 have : k = k' := by omega
 subst this; exact hk
theorem SpH3.loc : Lcl fun U F => SpH3 U F p sp := fun U σ' F G ⟨q, r, l, B, h⟩ hz hs => by
 have kb : ∀ {b : Nat} {cs : List Value}, Blk U b cs -> F b -> Blk σ' b cs /\ G b := by
  rintro b cs ⟨e, he⟩ hf
  have := hs b (Blk.lt ⟨e, he⟩) hf
  exact ⟨⟨e, this.2.trans he⟩, this.1⟩
 obtain ⟨c, hc, hd⟩ := h.hd
 obtain ⟨rest, hrow⟩ := h.row
 obtain ⟨es, clk, hr, hm⟩ := h.map
 have hrr := hs r (Array.getElem?_eq_some_iff.1 hr).1 h.fs.2.2.1
 refine ⟨q, r, l, B, ⟨c, hc, (kb hd h.fs.1).1⟩, ⟨rest, (kb hrow h.fs.2.1).1⟩, ⟨es, clk, hrr.2.trans hr, hm⟩, h.keys, fun k s hk => ?_, h.inj, fun k hk => ?_, ⟨(kb hd h.fs.1).2, (kb hrow h.fs.2.1).2, hrr.1, h.fs.2.2.2⟩, h.zero, h.n1, h.n2, h.le2, h.pk⟩
 ·obtain ⟨w1, w2, w3, cs, w4, w5⟩ := h.wd k s hk
  exact ⟨w1, w2, w3, cs, (kb w4 (h.out k (h.dirty hk)).1).1, w5⟩
 ·obtain ⟨s, hsk, w1, w2, w3, cs, w4, w5⟩ := h.entry hk
  exact ⟨(kb w4 (h.out k hk).1).2, (h.out k hk).2⟩
theorem SpH3.keep0 {σ' : Hp} (h : SpH3 U F p sp) (e : Ext0 U σ') : SpH3 σ' F p sp := Lcl.keep0 SpH3.loc h e
variable {l : List (Int × Sl)} {B : Nat -> Nat}
theorem SpH2.rS (h : SpH2 U F p q r l B sp) {K : Sl -> Prop} (hK : ∀ cap, sp.st.length <= cap -> K ⟨some ⟨q, 0, none⟩, sp.st.length, cap⟩) : LdS (Addr.add ⟨p, 0, none⟩ 0) U K := by
 obtain ⟨c, hc, hd⟩ := h.hd
 exact hd.rS rfl (hK c hc)
theorem SpH2.rM (h : SpH2 U F p q r l B sp) {K : Option Nat -> Prop} (hK : K (some r)) : LdM (Addr.add ⟨p, 0, none⟩ 1) U K := by
 obtain ⟨c, hc, hd⟩ := h.hd
 exact hd.rM rfl hK
theorem SpH2.rPg (h : SpH2 U F p q r l B sp) {i x : Nat} (hx : sp.st[i]? = some x) {K : Bool -> Bool -> Prop} (hK : K (pgC x).1 (pgC x).2) : LdB (Addr.add ⟨q, 2 * i, none⟩ 0) U fun a => LdB (Addr.add ⟨q, 2 * i, none⟩ 1) U fun b => K a b := by
 obtain ⟨rest, hrow⟩ := h.row
 have hi := (gSi.1 hx).1
 have hg := Wdp hx
 refine hrow.rB (x := (pgC x).1) ?_ (hrow.rB (x := (pgC x).2) ?_ hK)
 ·rw [Nat.add_zero, List.getElem?_append_left (by rw [Qf]; omega)]; exact hg.1
 ·rw [List.getElem?_append_left (by rw [Qf]; omega)]; exact hg.2
theorem VQ (h : SpH3 U F p sp) {R : Bool -> Hp -> Prop} (hR : R true U) : Xs.call (some ⟨p, 0, none⟩) U R := by
 refine Xs.of_vc ?_
 unfold Xs.vc
 obtain ⟨q, r, l, B, h⟩ := h
 have := h.n1
 refine JnB.intro (ifT rfl (nilP (h.rS fun cap _ => ?_)))
 rw [decide_eq_true (by simp only; omega)]
 exact hR
theorem QG (h : SpH3 U F p sp) {R : Int -> Hp -> Prop} (hR : R (sp.st.length : Int) U) : Wv.call (some ⟨p, 0, none⟩) U R := by
 refine Wv.of_vc ?_
 unfold Wv.vc
 have h' := h
 obtain ⟨q, r, l, B, h⟩ := h
 exact VQ h' (ifF rfl (nilP (h.rS fun cap _ => hR)))
theorem SpH2.len_l (h : SpH2 U F p q r l B sp) : l.length = sp.st.count 2 := by
 have hn := h.map.nodup
 have hp : (l.map (·.1)).Perm (((List.range sp.st.length).filter fun k => sp.st[k]? == some 2).map fun k => ((k : Nat) : Int)) := by
  rw [List.perm_ext_iff_of_nodup hn]
  ·intro x
   rw [← U1, h.keys]
   simp only [List.mem_map, List.mem_filter, List.mem_range, beq_iff_eq]
   constructor
   ·rintro ⟨k, rfl, hk⟩
    exact ⟨k, ⟨(gSi.1 hk).1, hk⟩, rfl⟩
   ·rintro ⟨k, ⟨_, hk⟩, rfl⟩
    exact ⟨k, rfl, hk⟩
  ·have hnd : ((List.range sp.st.length).filter fun k => sp.st[k]? == some 2).Pairwise (· ≠ ·) := List.Pairwise.sublist List.filter_sublist List.nodup_range
   exact List.Pairwise.map _ (fun a b (hne : a ≠ b) hab => hne (by exact_mod_cast hab)) hnd
 have hl := hp.length_eq
 simp only [List.length_map] at hl
 rw [hl, ← List.countP_eq_length_filter]
 have key : ∀ st : List Nat, (List.range st.length).countP (fun k => st[k]? == some 2) = st.count 2 := by
  intro st
  induction st with
  | nil => rfl
  | cons x st ih =>
   rw [List.length_cons, List.range_succ_eq_map, List.countP_cons, List.countP_map, List.count_cons, ← ih]
   congr 1
 exact key sp.st
end Go.Ar