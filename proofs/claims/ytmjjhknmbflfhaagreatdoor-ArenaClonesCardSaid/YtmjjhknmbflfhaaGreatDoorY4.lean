/- Texts joined. -/
import Derived.Test.YtmjjhknmbflfhaaGreatDoorY3
set_option linter.unusedVariables false
set_option linter.unusedSimpArgs false
namespace Go.Ar
open Go Go.Vc Go.Proofs
open Go.Bu (XA)


variable {U : Hp} {F : Rg} {p q r : Nat} {sp : Sp} {l : List (Int × Sl)} {B : Nat -> Nat}
theorem WfT (l : List Nat) (n : Nat) : pgV (l.take n) = (pgV l).take (2 * n) := by
 induction l generalizing n with
 | nil => simp [pgV]
 | cons y l ih =>
  have e : ∀ z m, pgV (z :: m) = .bool (pgC z).1 :: .bool (pgC z).2 :: pgV m := fun z m => by simp [pgV]
  cases n with
  | zero => simp [pgV]
  | succ n =>
   rw [List.take_succ_cons, e, e, ih, show 2 * (n + 1) = 2 * n + 1 + 1 by omega]
   simp
theorem WgE (l : List Nat) (n : Nat) : pgV (l.drop n) = (pgV l).drop (2 * n) := by
 induction l generalizing n with
 | nil => simp [pgV]
 | cons y l ih =>
  have e : ∀ z m, pgV (z :: m) = .bool (pgC z).1 :: .bool (pgC z).2 :: pgV m := fun z m => by simp [pgV]
  cases n with
  | zero => simp [pgV]
  | succ n =>
   rw [List.drop_succ_cons, e, ih, show 2 * (n + 1) = 2 * n + 1 + 1 by omega]
   simp
theorem WbH (n v : Nat) : pgV (List.replicate n v) = (List.replicate n [Value.bool (pgC v).1, .bool (pgC v).2]).flatten := by
 induction n with
 | zero => rfl
 | succ n ih => rw [List.replicate_succ, List.replicate_succ, List.flatten_cons, ← ih]; simp [pgV]
theorem _root_.Go.Vc.SlR.rPg {s : Sl} {l : List Nat} (h : SlR s 2 (pgV l) U F) {i x : Nat} (hx : l[i]? = some x) {K : Bool -> Bool -> Prop} (hK : K (pgC x).1 (pgC x).2) :
 Ix s.a s.len (i : Int) 2 fun a => LdB (a.add 0) U fun u => LdB (a.add 1) U fun w => K u w := by
 have hi := (gSi.1 hx).1
 have hg := Wdp hx
 obtain ⟨b, o, ha, hc⟩ := h.cell hg.1
 obtain ⟨b1, o1, ha1, hc1⟩ := h.cell hg.2
 rw [ha] at ha1; cases ha1
 have hl := h.1
 rw [Qf] at hl
 rw [ha]
 refine ix (by omega) (by omega) ?_
 rw [add_lit]
 refine ldB ?_ (ldB ?_ hK) <;> rw [add_lit]
 ·rw [show o + (i : Int).toNat * 2 + 0 = o + 2 * i by omega]; exact hc
 ·rw [show o + (i : Int).toNat * 2 + 1 = o + (2 * i + 1) by omega]; exact hc1
theorem _root_.Go.Vc.SlR.lenP {s : Sl} {l : List Nat} (h : SlR s 2 (pgV l) U F) : s.len = l.length := by
 have := h.1; rw [Qf] at this; omega
theorem WeB {s : Sl} {xs : List Nat} (h : SlR s 2 (pgV xs) U F) (hl : xs.length <= 1000000) (h2 : ∀ x ∈ xs, x <= 2) {v : Nat} (hv : v <= 2) {R : Int -> Hp -> Prop}
 (hR : ∀ (t : Int) σ', Ext0 U σ' -> decide (t ≥ 0) = xs.contains v -> R t σ') : Wm.call s (pgC v).1 (pgC v).2 U R := by
 refine Wm.of_vc ?_
 unfold Wm.vc
 have hlen := h.lenP
 refine nw (cs := [.bool (pgC v).1, .bool (pgC v).2]) fun w hz e hb => ?_
 have h := (SlR.loc _ _ _).keep0 h e
 refine YX (a := .i .i64) (fun (t : Int) h' => ∃ i : Nat, t = (i : Int) /\ i <= xs.length /\ h' = w /\ ∀ j, j < i -> xs[j]? ≠ some v) (fun t _ => xs.length - t.toNat) ⟨0, rfl, by omega, rfl, fun j hj => by omega⟩ ?_
 rintro t h' ⟨i, rfl, hi, rfl, hno⟩
 refine ifD (fun hlt => ?_) fun hge => ?_
 ·have hi' : i < xs.length := by omega
  have hx : xs[i]? = some xs[i] := gGe hi'
  refine hb.rB rfl (hb.rB rfl (h.rPg hx ?_))
  rw [WdB hv (h2 _ (List.getElem_mem hi'))]
  refine iff_ (fun he => ?_) fun he => ?_
  ·have : v = xs[i] := by simpa using he
   refine hR _ _ e ?_
   have hc : xs.contains v = true := by rw [this]; simp
   rw [hc, decide_eq_true (by omega)]
  ·have he' : ¬ v = xs[i] := by simpa using he
   refine arN (m := i + 1) (by omega) (by omega) ⟨⟨i + 1, rfl, by omega, rfl, fun j hj => ?_⟩, by omega⟩
   by_cases e : j = i
   ·subst e; rw [hx]; intro e2; cases e2; exact he' rfl
   ·exact hno j (by omega)
 ·refine hR _ _ e ?_
  have : xs.contains v = false := by
   simp only [List.contains_eq_mem, decide_eq_false_iff_not]
   intro hm
   obtain ⟨j, hj⟩ := List.getElem?_of_mem hm
   have := (gSi.1 hj).1
   exact hno j (by omega) hj
  rw [this]; rfl
theorem Uo {s : Sl} {xs : List Nat} (h : SlR s 2 (pgV xs) U F) (hl : xs.length <= 1000000) (h2 : ∀ x ∈ xs, x <= 2) {v : Nat} (hv : v <= 2) {R : Bool -> Hp -> Prop}
 (hR : ∀ σ', Ext0 U σ' -> R (xs.contains v) σ') : Wj.call s (pgC v).1 (pgC v).2 U R := by
 refine Wj.of_vc ?_
 unfold Wj.vc
 refine nw (cs := [.bool (pgC v).1, .bool (pgC v).2]) fun w hz e hb => hb.rB rfl (hb.rB rfl ?_)
 refine WeB ((SlR.loc _ _ _).keep0 h e) hl h2 hv fun t σ' e' ht => ?_
 rw [ht]; exact hR σ' (Ext.trans e e')
theorem WcK (g : Gl U) {x : Nat} (hx : x <= 2) {R : Bool -> Hp -> Prop} (hR : ∀ σ', Ext0 U σ' -> R (x != 0) σ') : Ys.call (pgC x).1 (pgC x).2 U R := by
 refine Ys.of_vc ?_
 unfold Ys.vc
 refine nw (cs := [.bool (pgC x).1, .bool (pgC x).2]) fun v hz e hb => hb.rB rfl (hb.rB rfl ?_)
 have g := g.keep0 e
 refine ldB (by rw [← g.u0]; rfl) (ldB (by rw [← g.u1]; rfl) ?_)
 have e0 : (((pgC x).1 == false) && (((pgC x).2 == false) && true)) = (x == 0) := WdB hx (y := 0) (by omega)
 rw [e0]
 exact hR v e
theorem Wg1 {s : Sl} {xs : List Nat} (h : SlR s 2 (pgV xs) U F) (g : Gl U) (hl : xs.length <= 1000000) (h2 : ∀ x ∈ xs, x <= 2) {R : Bool -> Hp -> Prop}
 (hR : ∀ σ', Ext0 U σ' -> R (xs.any (· != 0)) σ') : Wg.call s ⟨279, #[], #[]⟩ U R := by
 refine Wg.of_vc ?_
 unfold Wg.vc
 refine Wl.of_vc ?_
 unfold Wl.vc
 have hlen := h.lenP
 refine YX (a := .i .i64) (fun (t : Int) h' => ∃ i : Nat, t = (i : Int) /\ i <= xs.length /\ Ext0 U h' /\ ∀ (j x : Nat), j < i -> xs[j]? = some x -> x = 0) (fun t _ => xs.length - t.toNat) ⟨0, rfl, by omega, Ext.refl _ _, fun j x hj => by omega⟩ ?_
 rintro t w ⟨i, rfl, hi, e, hno⟩
 refine ifD (fun hlt => ?_) fun hge => ?_
 ·have hi' : i < xs.length := by omega
  have hx : xs[i]? = some xs[i] := gGe hi'
  refine ((SlR.loc _ _ _).keep0 h e).rPg hx ?_
  refine WaO (all := #[.agg #[.bool (pgC xs[i]).1, .bool (pgC xs[i]).2]]) (by kernel_rfl) (by simp) ?_
  refine WcK (g.keep0 e) (h2 _ (List.getElem_mem hi')) fun w' e' => ?_
  refine iff_ (fun he => ?_) fun he => ?_
  ·have : xs.any (· != 0) = true := List.any_eq_true.2 ⟨_, List.getElem_mem hi', he⟩
   have := hR w' (Ext.trans e e')
   rw [‹xs.any (· != 0) = true›] at this
   show R (decide ((i : Int) ≥ 0)) _
   rw [decide_eq_true (by omega)]; exact this
  ·have he' : xs[i] = 0 := by simpa using he
   refine arN (m := i + 1) (by omega) (by omega) ⟨⟨i + 1, rfl, by omega, Ext.trans e e', fun j x hj hjx => ?_⟩, by omega⟩
   by_cases e : j = i
   ·subst e; rw [hx] at hjx; cases hjx; exact he'
   ·exact hno j x (by omega) hjx
 ·have : xs.any (· != 0) = false := by
   rw [List.any_eq_false]
   intro x hm
   obtain ⟨j, hj⟩ := List.getElem?_of_mem hm
   have := (gSi.1 hj).1
   simpa using hno j x (by omega) hj
  have := hR w e
  rw [‹xs.any (· != 0) = false›] at this
  exact this
theorem SpH2.part (h : SpH2 U F p q r l B sp) {x y c : Nat} (hl : x + y <= sp.st.length) : SlR ⟨some ⟨q, 2 * x, none⟩, y, c⟩ 2 (pgV ((sp.st.drop x).take y)) U F := by
 obtain ⟨rest, hrow⟩ := h.row
 have hlen : (pgV ((sp.st.drop x).take y)).length = y * 2 := by rw [Qf, List.length_take, List.length_drop]; omega
 refine ⟨hlen, .inr ⟨q, 2 * x, _, h.fs.2.1, rfl, hrow.q, fun j hj => ?_⟩⟩
 rw [hlen] at hj
 rw [List.getElem?_append_left (by rw [Qf]; omega), WfT, WgE, List.getElem?_take, if_pos (by omega), List.getElem?_drop]
theorem WgR (h : SpH3 U F p sp) (a m : Int) {R : Sl -> Int -> Hp -> Prop} (h0 : XA sp.st.length a m = false -> R ⟨none, 0, 0⟩ 1 U)
 (h1 : ∀ (x y : Nat) s, a = x -> m = y -> 1 <= y -> x + y <= sp.st.length -> SlR s 2 (pgV ((sp.st.drop x).take y)) U F -> R s 0 U) : Yw.call (some ⟨p, 0, none⟩) a m U R := by
 refine Yw.of_vc ?_
 unfold Yw.vc
 have h' := h
 obtain ⟨q, r, l, B, h⟩ := h
 have n2 := h.n2
 have bad : ¬ (0 <= a /\ 1 <= m /\ m <= sp.st.length - a) -> R ⟨none, 0, 0⟩ 1 U := fun hn => h0 (by simp only [XA, ← Bool.decide_and]; exact decide_eq_false hn)
 refine VQ h' (ifF rfl (JnB.intro (ifD (fun c1 => JnB.intro (ifT rfl (JnB.intro (ifT rfl (ifT rfl (bad (by omega))))))) fun c1 => ?_)))
 refine JnB.intro (ifD (fun c2 => JnB.intro (ifT rfl (ifT rfl (bad (by omega))))) fun c2 => nilP (h.rS fun cap hc => ?_))
 simp only
 refine JnB.intro (ifD (fun c3 => ifT rfl (bad (by omega))) fun c3 => ?_)
 refine nilP (h.rS fun cap hc => ar (by simp only; omega) (by simp only; omega) ?_)
 simp only
 refine ifD (fun c4 => bad (by omega)) fun c4 => ?_
 obtain ⟨x, rfl⟩ := Int.eq_ofNat_of_zero_le (show 0 <= a by omega)
 obtain ⟨y, rfl⟩ := Int.eq_ofNat_of_zero_le (show 0 <= m by omega)
 refine nilP (h.rS fun cap hc => arN (m := x + y) (by omega) (by omega) ?_)
 refine slc (by omega) (by simp only; omega) (Nat.le_refl _) ?_
 simp only
 rw [if_neg (by omega)]
 refine h1 x y _ rfl rfl (by omega) (by omega) ?_
 have := h.part (x := x) (y := y) (c := cap - x) (by omega)
 have e : (Option.map (fun (u : Addr) => u.add (x * 2)) (some (⟨q, 0, none⟩ : Addr))) = some ⟨q, 2 * x, none⟩ := by
  simp only [Option.map_some, add_lit]; congr 2; omega
 rw [e, Nat.add_sub_cancel_left]
 exact this
def Sp.set1 (s : Sp) (k v : Nat) : Sp := { s with st := s.st.set k v, wd := fun w => if k * 32 <= w /\ w < (k + 1) * 32 then 0 else s.wd w }
theorem WdT {st : List Nat} (h : ∀ x ∈ st, x <= 2) {k v : Nat} (hv : v <= 2) : ∀ x ∈ st.set k v, x <= 2 := by
 intro x hx
 rcases List.mem_or_eq_of_mem_set hx with h1 | h1
 ·exact h x h1
 ·omega
theorem SpH2.set1 (h : SpH2 U F p q r l B sp) {k v : Nat} (hk : k < sp.st.length) (hv : v <= 1) {σ' : Hp} (e : Ext (fun b => b = q ∨ b = r) U σ') {rest : List Value}
 (hb : Blk σ' q (pgV (sp.st.set k v) ++ rest)) (hm : MapL σ' r .i64 .s (mdel l (k : Int))) : SpH2 σ' F p q r (mdel l (k : Int)) B (sp.set1 k v) := by
 have g2 : ∀ j : Nat, (sp.st.set k v)[j]? = some 2 ↔ j ≠ k /\ sp.st[j]? = some 2 := fun j => by
  rw [List.getElem?_set]
  by_cases hjk : k = j
  ·subst hjk
   rw [if_pos rfl, if_pos hk]
   constructor
   ·intro h; have : v = 2 := by simpa using h
    omega
   ·intro h; exact absurd rfl h.1
  ·rw [if_neg hjk]; exact ⟨fun h => ⟨fun e => hjk e.symm, h⟩, fun h => h.2⟩
 obtain ⟨c, hc, hd⟩ := h.hd
 have np : ¬ (p = q ∨ p = r) := by have := h.fs; omega
 refine ⟨⟨c, by simpa [Sp.set1] using hc, by simpa [Sp.set1] using e.blk hd np⟩, ⟨rest, hb⟩, hm, fun x => ?_, fun j s hs => ?_, fun j j' h1 h2 => ?_, fun j hj => ?_, h.fs, fun w hw => ?_, by simpa [Sp.set1] using h.n1, by simpa [Sp.set1] using h.n2, WdT h.le2 (by omega), h.pk⟩
 ·rw [Wav]
  by_cases hx : x = (k : Int)
  ·rw [if_pos hx]
   constructor
   ·intro h; cases h
   ·rintro ⟨j, rfl, hj⟩
    have := (g2 j).1 hj
    omega
  ·rw [if_neg hx, h.keys]
   constructor
   ·rintro ⟨j, rfl, hj⟩; exact ⟨j, rfl, (g2 j).2 ⟨by omega, hj⟩⟩
   ·rintro ⟨j, rfl, hj⟩; exact ⟨j, rfl, ((g2 j).1 hj).2⟩
 ·rw [Wav] at hs
  by_cases hx : (j : Int) = (k : Int)
  ·rw [if_pos hx] at hs; cases hs
  ·rw [if_neg hx] at hs
   obtain ⟨w1, w2, w3, cs, w4, w5, w6⟩ := h.wd j s hs
   have ho := h.out j (h.dirty hs)
   refine ⟨w1, w2, w3, cs, e.blk w4 (by omega), w5, fun i hi => ?_⟩
   rw [w6 i hi]
   simp only [Sp.set1]
   rw [if_neg (by omega)]
 ·exact h.inj j j' ((g2 j).1 h1).2 ((g2 j').1 h2).2
 ·exact h.out j ((g2 j).1 hj).2
 ·simp only [Sp.set1] at hw ⊢
  by_cases hin : k * 32 <= w /\ w < (k + 1) * 32
  ·rw [if_pos hin]
  ·rw [if_neg hin]
   refine h.zero w fun h2 => hw ((g2 _).2 ⟨by omega, h2⟩)
theorem Sp.set_zero (s : Sp) (a v : Nat) : s.set a 0 v = s := by
 have h1 : setR s.st a (a + 0) v = s.st := by
  apply List.ext_getElem?
  intro i
  rw [VN]
  cases s.st[i]? with
  | none => rfl
  | some x => simp only [Option.map_some]; rw [if_neg (by omega)]
 have h2 : (fun w => if a * 32 <= w /\ w < (a + 0) * 32 then 0 else s.wd w) = s.wd := by
  funext w; rw [if_neg (by omega)]
 simp only [Sp.set, h1, h2]
theorem Sp.set_succ (s : Sp) (a m v : Nat) (h : a + m < s.st.length) : (s.set a m v).set1 (a + m) v = s.set a (m + 1) v := by
 have h1 : (setR s.st a (a + m) v).set (a + m) v = setR s.st a (a + (m + 1)) v := by
  apply List.ext_getElem?
  intro i
  rw [List.getElem?_set, VN, VN, ZL]
  by_cases hi : a + m = i
  ·subst hi
   rw [if_pos rfl, if_pos h, gGe h, Option.map_some, if_pos (by omega)]
  ·rw [if_neg hi]
   cases s.st[i]? with
   | none => rfl
   | some x =>
    simp only [Option.map_some]
    by_cases hin : a <= i /\ i < a + m
    ·rw [if_pos hin, if_pos (by omega)]
    ·rw [if_neg hin, if_neg (by omega)]
 have h2 : (fun w => if (a + m) * 32 <= w /\ w < (a + m + 1) * 32 then 0 else (if a * 32 <= w /\ w < (a + m) * 32 then 0 else s.wd w)) = fun w => if a * 32 <= w /\ w < (a + (m + 1)) * 32 then 0 else s.wd w := by
  funext w
  by_cases h1 : (a + m) * 32 <= w /\ w < (a + m + 1) * 32
  ·rw [if_pos h1, if_pos (by omega)]
  ·rw [if_neg h1]
   by_cases h2 : a * 32 <= w /\ w < (a + m) * 32
   ·rw [if_pos h2, if_pos (by omega)]
   ·rw [if_neg h2, if_neg (by omega)]
 simp only [Sp.set, Sp.set1, h1, h2]
theorem Wdo (h : SpH3 U F p sp) {x y v : Nat} (hl : x + y <= sp.st.length) (hv : v <= 1) {R : Hp -> Prop} (hR : ∀ σ', Ext F U σ' -> SpH3 σ' F p (sp.set x y v) -> R σ') :
 Yy.call (some ⟨p, 0, none⟩) x y (pgC v).1 (pgC v).2 U R := by
 refine Yy.of_vc ?_
 unfold Yy.vc
 have hn2 : sp.st.length <= 1024 := by obtain ⟨q, r, l, B, h⟩ := h; exact h.n2
 have hcut : SpH3 U (Cut F U) p sp := Lcl.cut SpH3.loc h
 refine nw (cs := [.bool (pgC v).1, .bool (pgC v).2]) fun u hz e hb => ?_
 have hc := hcut.keep0 e
 refine YX (a := .i .i64) (fun (t : Int) w => ∃ i : Nat, t = ((x + i : Nat) : Int) /\ i <= y /\ Ext (Cut F U) u w /\ Blk w U.size [.bool (pgC v).1, .bool (pgC v).2] /\ SpH3 w (Cut F U) p (sp.set x i v)) (fun t _ => x + y - t.toNat)
  ⟨0, rfl, by omega, Ext.refl _ _, hb, by rw [Sp.set_zero]; exact hc⟩ ?_
 rintro t w ⟨i, rfl, hi, ew, hbw, q, r, l, B, hw⟩
 refine arN (m := x + y) (by omega) (by omega) (ifD (fun hlt => ?_) fun hge => ?_)
 ·have hlen : (sp.set x i v).st.length = sp.st.length := ZL _ _ _ _
  refine nilP (hw.rS fun cap hcap => hbw.rB rfl (hbw.rB rfl (ix (by omega) (by simp only; omega) ?_)))
  rw [add_lit, show 0 + ((x + i : Nat) : Int).toNat * 2 = 2 * (x + i) by omega]
  obtain ⟨rest, hrow⟩ := hw.row
  have hk : x + i < (sp.set x i v).st.length := by omega
  refine hrow.s1 (by rw [List.length_append, Qf]; omega) fun w1 o1 b1 => b1.s1 (by rw [List.length_set, List.length_append, Qf]; omega) fun w2 o2 b2 => ?_
  rw [Nat.add_zero, Wdi hk] at b2
  have e2 : Ext (· = q) w w2 := o1.ext.trans o2.ext
  obtain ⟨c, hc', hd⟩ := hw.hd
  have hd2 := e2.blk hd hw.fs.2.2.2.1
  refine nilP (hd2.rM rfl ⟨l, e2.mapL hw.map (fun e => hw.fs.2.2.2.2.2 e.symm), fun w3 ho3 _ hm3 => ?_⟩)
  have o3 := ho3 r rfl
  have e3 : Ext (fun b => b = q ∨ b = r) w w3 := (e2.sub fun b hb => .inl hb).trans (o3.ext.sub fun b hb => .inr hb)
  have h3 := hw.set1 hk hv e3 (Xc o3 b2 hw.fs.2.2.2.2.2) hm3
  rw [Sp.set_succ _ _ _ _ (by omega)] at h3
  have e4 : Ext (Cut F U) w w3 := e3.sub fun b hb => by
   rcases hb with rfl | rfl
   ·exact hw.fs.2.1
   ·exact hw.fs.2.2.1
  refine arN (m := x + (i + 1)) (by omega) (by omega) ⟨⟨i + 1, rfl, by omega, ew.trans e4, e4.blk hbw fun hf => by have := hf.2; omega, _, _, _, _, h3⟩, by omega⟩
 ·have : i = y := by omega
  subst this
  refine hR w (Ext.cut (e.to.trans ew)) (Lcl.mono SpH3.loc ⟨q, r, l, B, hw⟩ fun b _ hb => hb.1)
theorem Wir (h : SpH3 U F p sp) (g : Gl U) (hF : Off F) (a m : Int) {R : Int -> Hp -> Prop} (hR : ∀ σ', Ext F U σ' -> SpH3 σ' F p (mapS sp a m) -> R (mapE sp a m) σ') :
 YI.call (some ⟨p, 0, none⟩) a m U R := by
 refine YI.of_vc ?_
 unfold YI.vc
 have hle : (∀ x ∈ sp.st, x <= 2) /\ sp.st.length <= 1024 := by obtain ⟨q, r, l, B, h⟩ := h; exact ⟨h.le2, h.n2⟩
 refine WgR h a m (fun hk => ?_) fun x y s hx hy h1 h2 hs => ?_
 ·have e1 : mapE sp a m = 1 := by unfold mapE; rw [hk]; rfl
  have e2 : mapS sp a m = sp := by unfold mapS; rw [e1]; rfl
  have := hR U (Ext.refl _ _)
  rw [e1, e2] at this
  exact ifT rfl (this h)
 ·subst hx; subst hy
  have hk : XA sp.st.length (x : Int) (y : Int) = true := by simp only [XA, Bool.and_eq_true, decide_eq_true_eq]; omega
  refine ifF rfl (Wg1 hs g (by rw [List.length_take, List.length_drop]; omega) (fun z hz => hle.1 z (List.mem_of_mem_drop (List.mem_of_mem_take hz))) fun σ1 e1 => ?_)
  have em : mapE sp x y = if ((sp.st.drop x).take y).any (· != 0) then 5 else 0 := by unfold mapE; rw [hk]; rfl
  refine iff_ (fun hany => ?_) fun hany => ?_
  ·rw [hany] at em
   have e2 : mapS sp x y = sp := by unfold mapS; rw [em]; rfl
   have := hR σ1 (Ext0.to e1)
   rw [em, e2] at this
   exact this (h.keep0 e1)
  ·rw [hany] at em
   have e2 : mapS sp x y = sp.set x y 1 := by unfold mapS; rw [em]; rfl
   have g1 := g.keep0 e1
   refine ldB (by rw [← g1.c0]; rfl) (ldB (by rw [← g1.c1]; rfl) ?_)
   refine Wdo (v := 1) (h.keep0 e1) h2 (by omega) fun σ2 e3 h3 => ?_
   have := hR σ2 (Ext.trans (Ext0.to e1) e3)
   rw [em, e2] at this
   exact this h3
theorem Wcj (h : SpH3 U F p sp) (g : Gl U) (hF : Off F) (a m : Int) {v : Nat} (hv : v <= 1) {R : Int -> Hp -> Prop} (hR : ∀ σ', Ext F U σ' -> SpH3 σ' F p (Kk sp a m v) -> R (VC sp a m) σ') :
 XQ.call (some ⟨p, 0, none⟩) a m (pgC v).1 (pgC v).2 U R := by
 refine XQ.of_vc ?_
 unfold XQ.vc
 have hle : (∀ x ∈ sp.st, x <= 2) /\ sp.st.length <= 1024 := by obtain ⟨q, r, l, B, h⟩ := h; exact ⟨h.le2, h.n2⟩
 have hcut : SpH3 U (Cut F U) p sp := Lcl.cut SpH3.loc h
 refine nw (cs := [.bool (pgC v).1, .bool (pgC v).2]) fun u hz e hb => ?_
 have hu := hcut.keep0 e
 have back : ∀ w s', SpH3 w (Cut F U) p s' -> SpH3 w F p s' := fun w s' h => Lcl.mono SpH3.loc h fun b _ hb => hb.1
 refine WgR hu a m (fun hk => ?_) fun x y s hx hy h1 h2 hs => ?_
 ·have e1 : VC sp a m = 1 := by unfold VC; rw [hk]; rfl
  have e2 : Kk sp a m v = sp := by unfold Kk; rw [e1]; rfl
  have := hR u (Ext0.to e)
  rw [e1, e2] at this
  exact ifT rfl (this (back _ _ hu))
 ·subst hx; subst hy
  have hk : XA sp.st.length (x : Int) (y : Int) = true := by simp only [XA, Bool.and_eq_true, decide_eq_true_eq]; omega
  have gu := g.keep0 e
  refine ifF rfl (ldB (by rw [← gu.u0]; rfl) (ldB (by rw [← gu.u1]; rfl) ?_))
  refine Uo (v := 0) hs (by rw [List.length_take, List.length_drop]; omega) (fun z hz => hle.1 z (List.mem_of_mem_drop (List.mem_of_mem_take hz))) (by omega) fun σ1 e1 => ?_
  have em : VC sp x y = if ((sp.st.drop x).take y).contains 0 then 7 else 0 := by unfold VC; rw [hk]; rfl
  refine iff_ (fun hany => ?_) fun hany => ?_
  ·rw [hany] at em
   have e2 : Kk sp x y v = sp := by unfold Kk; rw [em]; rfl
   have := hR σ1 (Ext0.to (Ext.trans e e1))
   rw [em, e2] at this
   exact this (back _ _ (hu.keep0 e1))
  ·rw [hany] at em
   have e2 : Kk sp x y v = sp.set x y v := by unfold Kk; rw [em]; rfl
   have hb1 := Ext.blk e1 hb id
   refine hb1.rB rfl (hb1.rB rfl ?_)
   refine Wdo (hu.keep0 e1) h2 hv fun σ2 e3 h3 => ?_
   have := hR σ2 (Ext.cut (Ext.trans (Ext0.to (Ext.trans e e1)) e3))
   rw [em, e2] at this
   exact this (back _ _ h3)
theorem Wgm (h : SpH3 U F p sp) (g : Gl U) (hF : Off F) (a m : Int) {R : Int -> Hp -> Prop} (hR : ∀ σ', Ext F U σ' -> SpH3 σ' F p (Kk sp a m 0) -> R (VC sp a m) σ') :
 Yh.call (some ⟨p, 0, none⟩) a m U R := by
 refine Yh.of_vc ?_
 unfold Yh.vc
 exact ldB (n := (pgC 0).1) g.u0 (ldB (n := (pgC 0).2) g.u1 (Wcj (v := 0) h g hF a m (by omega) hR))
theorem Wdb (h : SpH3 U F p sp) (g : Gl U) (hF : Off F) (a m : Int) {R : Int -> Hp -> Prop} (hR : ∀ σ', Ext F U σ' -> SpH3 σ' F p (Kk sp a m 1) -> R (VC sp a m) σ') :
 XE.call (some ⟨p, 0, none⟩) a m U R := by
 refine XE.of_vc ?_
 unfold XE.vc
 exact ldB (n := (pgC 1).1) g.c0 (ldB (n := (pgC 1).2) g.c1 (Wcj (v := 1) h g hF a m (by omega) hR))
end Go.Ar
namespace Go.Ar
open Go Go.Vc Go.Proofs
open Go.Bu (XA)


variable {U : Hp} {F : Rg} {p q r : Nat} {sp : Sp} {l : List (Int × Sl)} {B : Nat -> Nat}
theorem G8 (h : SpH3 U F p sp) (g : Gl U) (x : Int) (hx : x <= 1000000000000) {R : Int -> Hp -> Prop} (hR : ∀ σ', Ext0 U σ' -> R (accE sp x) σ') :
 Xu.call (some ⟨p, 0, none⟩) x 1 U R := by
 refine Xu.of_vc ?_
 unfold Xu.vc
 have h' := h
 obtain ⟨q, r, l, B, h⟩ := h
 have n2 := h.n2
 have bad : (x < 0 ∨ x % 8 ≠ 0) -> R 7 U := fun hb => by
  have := hR U (Ext.refl _ _); unfold accE at this; rw [if_pos hb] at this; exact this
 refine VQ h' (ifF rfl (ifF rfl (JnB.intro (ifD (fun c1 => ifT rfl (bad (.inl c1))) fun c1 => nz (by decide) ?_))))
 obtain ⟨y, rfl⟩ := Int.eq_ofNat_of_zero_le (show 0 <= x by omega)
 refine iff_ (fun c2 => ?_) fun c2 => ?_
 ·refine bad (.inr ?_)
  rw [ZK (by omega)] at c2
  simpa using c2
 have h8 : y % 8 = 0 := by
  rw [ZK (by omega)] at c2
  have : ((y : Int) % 8) = 0 := by simpa using c2
  omega
 have ok : ¬ ((y : Int) < 0 ∨ (y : Int) % 8 ≠ 0) := by omega
 refine nz (by decide) (arN (m := y / 256) (by rw [ZJ (by omega)]; simp) (by omega) (nz (by decide) (arN (m := y / 8) (by rw [ZJ (by omega)]; simp) (by omega) ?_)))
 refine arN (m := y / 8 + 1) (by omega) (by omega) (arN (m := y / 8) (by omega) (by omega) (nz (by decide) (arN (m := y / 256) (by rw [ZJ (by omega)]; simp; omega) (by omega) ?_)))
 have fin : ∀ (b : Bool) σ', Ext0 U σ' -> (b = true ↔ sp.st.getD (y / 256) 0 = 0) -> If b (R 7 σ') (R 0 σ') := fun b σ' e hb => by
  have := hR σ' e
  unfold accE at this; rw [if_neg ok] at this
  refine iff_ (fun h => ?_) fun h => ?_
  ·rw [if_pos (by simpa using hb.1 h)] at this; exact this
  ·rw [if_neg (fun hn => by rw [hb.2 (by simpa using hn)] at h; cases h)] at this; exact this
 obtain ⟨c, hc, hd⟩ := h.hd
 refine Jn.intro ⟨fun m => Blk m p [.slice (some ⟨q, 0, none⟩) sp.st.length c, .map (some r), .int .i64 (sp.pk : Int)] /\ Gl m, ⟨hd, g⟩, ?_⟩
 refine nilP ⟨⟨some ⟨q, 0, none⟩, sp.st.length, c⟩, fun m hm => by rw [add_lit, hm.1.cell]; rfl, ?_⟩
 refine ifD (fun c3 => ?_) fun c3 => ?_
 ·simp only at c3
  refine fin _ U (Ext.refl _ _) ⟨fun _ => ?_, fun _ => rfl⟩
  rw [List.getD_eq_getElem?_getD, List.getElem?_eq_none (by omega)]; rfl
 simp only at c3
 refine nilP ⟨⟨some ⟨q, 0, none⟩, sp.st.length, c⟩, fun m hm => by rw [add_lit, hm.1.cell]; rfl, ?_⟩
 refine arN (m := y / 256 + 1) (by omega) (by omega) (slc (by omega) (by simp only; omega) (Nat.le_refl _) ?_)
 simp only
 rw [if_neg (by omega)]
 refine ⟨false, fun m hm => hm.2.u0, ⟨false, fun m hm => hm.2.u1, ?_⟩⟩
 have e : (Option.map (fun (u : Addr) => u.add (y / 256 * 2)) (some (⟨q, 0, none⟩ : Addr))) = some ⟨q, 2 * (y / 256), none⟩ := by
  simp only [Option.map_some, add_lit]; congr 2; omega
 rw [e, Nat.add_sub_cancel_left]
 have hp := h.part (x := y / 256) (y := 1) (c := c - y / 256) (by omega)
 refine Uo (v := 0) hp (by rw [List.length_take, List.length_drop]; omega) (fun z hz => h.le2 z (List.mem_of_mem_drop (List.mem_of_mem_take hz))) (by omega) fun σ' e' => ?_
 refine ⟨⟨e'.blk hd id, g.keep0 e'⟩, fin _ σ' e' ?_⟩
 have hi : y / 256 < sp.st.length := by omega
 rw [List.getD_eq_getElem?_getD, gGe hi, List.drop_eq_getElem_cons hi, List.take_succ_cons, List.take_zero]
 simp [eq_comm]
theorem WhQ (h : SpH3 U F p sp) {w : Nat} (hw : w <= 1000000000000) {R : Int -> Hp -> Prop} (hR : R (sp.wd w) U) : YM.call (some ⟨p, 0, none⟩) (w : Int) U R := by
 refine YM.of_vc ?_
 unfold YM.vc
 obtain ⟨q, r, l, B, h⟩ := h
 refine nilP (h.rM (nz (by decide) (arN (m := w / 32) (by rw [ZJ (by omega)]; simp) (by omega) ⟨l, h.map, ?_⟩)))
 cases hg : mget l ((w / 32 : Nat) : Int) with
 | none =>
  refine ifF rfl ?_
  have : sp.st[w / 32]? ≠ some 2 := fun hk => by
   have := (h.keys _).2 ⟨_, rfl, hk⟩
   rw [hg] at this; cases this
  rw [h.zero w this] at hR; exact hR
 | some s =>
  obtain ⟨w1, w2, w3, cs, w4, w5, w6⟩ := h.wd _ s hg
  refine ifT rfl (nz (by decide) ?_)
  simp only [Option.getD_some]
  have tm : ((w : Int).tmod 32) = ((w % 32 : Nat) : Int) := by rw [ZK (by omega)]; simp
  rw [w1, tm]
  refine ix (by omega) (by omega) ?_
  rw [add_lit]
  refine w4.rI0 ?_ hR
  rw [show 0 + ((w % 32 : Nat) : Int).toNat * 1 = w % 32 by omega, w6 _ (by omega)]
  simp only
  rw [show 32 * (w / 32) + w % 32 = w by omega]
theorem Wh6 (h : SpH3 U F p sp) (g : Gl U) (x : Int) (hx : x <= 1000000000000) {R : Int -> Int -> Hp -> Prop} (hR : ∀ σ', Ext0 U σ' -> R (if accE sp x = 0 then sp.wd (x.toNat / 8) else 0) (accE sp x) σ') :
 YC.call (some ⟨p, 0, none⟩) x U R := by
 refine YC.of_vc ?_
 unfold YC.vc
 refine G8 h g x hx fun σ' e => ?_
 have := hR σ' e
 refine iff_ (fun hc => ?_) fun hc => ?_
 ·have hne : ¬ accE sp x = 0 := by simpa using hc
  rw [if_neg hne] at this; exact this
 ·have h0 : accE sp x = 0 := by simpa using hc
  rw [if_pos h0, h0] at this
  have hx0 : 0 <= x := by
   rcases (by omega : x < 0 ∨ 0 <= x) with hlt | hge
   ·unfold accE at h0; rw [if_pos (.inl hlt)] at h0; cases h0
   ·exact hge
  obtain ⟨y, rfl⟩ := Int.eq_ofNat_of_zero_le hx0
  exact nz (by decide) (arN (m := y / 8) (by rw [ZJ (by omega)]; simp) (by omega) (WhQ (h.keep0 e) (by omega) this))
theorem SpH2.dirt (h : SpH2 U F p q r l B sp) {k : Nat} (hk : k < sp.st.length) (hn : sp.st[k]? ≠ some 2) {σ' : Hp} {b : Nat} {s : Sl} {T : Rg} (e : Ext T U σ') (hT : ∀ i, i < U.size -> T i -> i = q ∨ i = r) (hz : U.size <= b) {rest : List Value}
 (hb : Blk σ' q (pgV (sp.st.set k 2) ++ rest)) (hm : MapL σ' r .i64 .s (mset l (k : Int) s)) (ha : s.a = some ⟨b, 0, none⟩) (hl : s.len = 32) (hc : s.cap = 32) (hw : Blk σ' b (List.replicate 32 (.int .i64 0))) :
 SpH2 σ' (Grow F U) p q r (mset l (k : Int) s) (fun j => if j = k then b else B j) { sp with st := sp.st.set k 2 } := by
 have g2 : ∀ j : Nat, (sp.st.set k 2)[j]? = some 2 ↔ j = k ∨ sp.st[j]? = some 2 := fun j => by
  rw [List.getElem?_set]
  by_cases hjk : k = j
  ·subst hjk
   rw [if_pos rfl, if_pos hk]; simp
  ·rw [if_neg hjk]
   exact ⟨fun h => .inr h, fun h => h.resolve_left fun e => hjk e.symm⟩
 obtain ⟨c, hc', hd⟩ := h.hd
 obtain ⟨_, hrow⟩ := h.row
 have hp := hd.lt; have hq := hrow.lt; have hr := h.map.lt
 have hs := e.1
 have hfs := h.fs
 have old : ∀ {j : Nat}, sp.st[j]? = some 2 -> B j < U.size := fun {j} hj => by
  obtain ⟨t, _, _, _, _, cs, w4, _⟩ := h.entry hj
  exact w4.lt
 have keepB : ∀ {i : Nat} {cs : List Value}, Blk U i cs -> i ≠ q -> i ≠ r -> Blk σ' i cs := fun {i cs} hi h1 h2 => e.blk hi fun ht => by
  rcases hT i hi.lt ht with h | h
  ·exact h1 h
  ·exact h2 h
 refine ⟨⟨c, by simpa using hc', by simpa using keepB hd hfs.2.2.2.1 hfs.2.2.2.2.1⟩, ⟨rest, hb⟩, hm, fun x => ?_, fun j t hj => ?_, fun j j' h1 h2 hbb => ?_, fun j hj => ?_, ⟨.inl hfs.1, .inl hfs.2.1, .inl hfs.2.2.1, hfs.2.2.2⟩, fun w hw' => ?_, by simpa using h.n1, by simpa using h.n2, WdT h.le2 (by omega), h.pk⟩
 ·rw [Ka]
  by_cases hx : x = (k : Int)
  ·rw [if_pos hx]; subst hx
   simp only [Option.isSome_some, true_iff]
   exact ⟨k, rfl, (g2 k).2 (.inl rfl)⟩
  ·rw [if_neg hx, h.keys]
   constructor
   ·rintro ⟨j, rfl, hj⟩; exact ⟨j, rfl, (g2 j).2 (.inr hj)⟩
   ·rintro ⟨j, rfl, hj⟩; exact ⟨j, rfl, ((g2 j).1 hj).resolve_left (by omega)⟩
 ·rw [Ka] at hj
  by_cases hx : (j : Int) = (k : Int)
  ·have : j = k := by omega
   subst this
   rw [if_pos rfl] at hj; cases hj
   rw [if_pos rfl]
   refine ⟨ha, hl, by omega, _, hw, by simp, fun i hi => ?_⟩
   rw [List.getElem?_replicate, if_pos hi]
   simp only
   rw [h.zero _ (by rw [show (32 * j + i) / 32 = j by omega]; exact hn)]
  ·rw [if_neg hx] at hj
   obtain ⟨w1, w2, w3, cs, w4, w5, w6⟩ := h.wd j t hj
   have ho := h.out j (h.dirty hj)
   rw [if_neg (by omega)]
   exact ⟨w1, w2, w3, cs, keepB w4 ho.2.2.1 ho.2.2.2, w5, w6⟩
 ·by_cases e1 : j = k
  ·by_cases e2 : j' = k
   ·omega
   ·rw [if_pos e1, if_neg e2] at hbb
    have := old (((g2 j').1 h2).resolve_left e2)
    omega
  ·rw [if_neg e1] at hbb
   by_cases e2 : j' = k
   ·rw [if_pos e2] at hbb
    have := old (((g2 j).1 h1).resolve_left e1)
    omega
   ·rw [if_neg e2] at hbb
    exact h.inj j j' (((g2 j).1 h1).resolve_left e1) (((g2 j').1 h2).resolve_left e2) hbb
 ·by_cases e1 : j = k
  ·rw [if_pos e1]; exact ⟨.inr hz, by omega, by omega, by omega⟩
  ·rw [if_neg e1]
   have := h.out j (((g2 j).1 hj).resolve_left e1)
   exact ⟨.inl this.1, this.2⟩
 ·refine h.zero w fun h2 => hw' ((g2 _).2 (.inr h2))
theorem SpH2.peak (h : SpH2 U F p q r l B sp) {σ' : Hp} {n c : Nat} (hn : n <= 1024) (ho : Z5 U σ' p) (hc : sp.st.length <= c) (hb : Blk σ' p [.slice (some ⟨q, 0, none⟩) sp.st.length c, .map (some r), .int .i64 (n : Int)]) : SpH2 σ' F p q r l B { sp with pk := n } := by
 have hfs := h.fs
 obtain ⟨rest, hrow⟩ := h.row
 refine ⟨⟨c, hc, hb⟩, ⟨rest, Xc ho hrow (by omega)⟩, QQ ho h.map (by omega), h.keys, fun j t hj => ?_, h.inj, h.out, hfs, h.zero, h.n1, h.n2, h.le2, hn⟩
 obtain ⟨w1, w2, w3, cs, w4, w5, w6⟩ := h.wd j t hj
 exact ⟨w1, w2, w3, cs, Xc ho w4 (h.out j (h.dirty hj)).2.1, w5, w6⟩
theorem SpH2.word (h : SpH2 U F p q r l B sp) {w : Nat} {v : Int} (hk : sp.st[w / 32]? = some 2) {σ' : Hp} {cs : List Value} (h32 : 32 <= cs.length) (ho : Z5 U σ' (B (w / 32))) (hcs : ∀ j, j < 32 -> cs[j]? = some (.int .i64 (sp.wd (32 * (w / 32) + j))))
 (hb : Blk σ' (B (w / 32)) (cs.set (w % 32) (.int .i64 v))) : SpH2 σ' F p q r l B { sp with wd := fun u => if u = w then v else sp.wd u } := by
 have hout := h.out _ hk
 obtain ⟨c, hc, hd⟩ := h.hd
 obtain ⟨rest, hrow⟩ := h.row
 refine ⟨⟨c, hc, Xc ho hd (by omega)⟩, ⟨rest, Xc ho hrow (by omega)⟩, QQ ho h.map (by omega), h.keys, fun j t hj => ?_, h.inj, h.out, h.fs, fun u hu => ?_, h.n1, h.n2, h.le2, h.pk⟩
 ·obtain ⟨w1, w2, w3, cs', w4, w5, w6⟩ := h.wd j t hj
  by_cases hjk : j = w / 32
  ·subst hjk
   refine ⟨w1, w2, w3, _, hb, by simpa using h32, fun i hi => ?_⟩
   rw [List.getElem?_set]
   by_cases hiw : w % 32 = i
   ·rw [if_pos hiw, if_pos (by omega)]; simp only; rw [if_pos (by omega)]
   ·rw [if_neg hiw]; simp only; rw [if_neg (by omega)]; exact hcs i hi
  ·have hne : B j ≠ B (w / 32) := fun e => hjk (h.inj _ _ (h.dirty hj) hk e)
   refine ⟨w1, w2, w3, cs', Xc ho w4 hne, w5, fun i hi => ?_⟩
   rw [w6 i hi]; simp only; rw [if_neg (by omega)]
 ·have : u ≠ w := fun e => by subst e; exact hu hk
  simp only; rw [if_neg this]; exact h.zero u hu
theorem Whf (h : SpH3 U F p sp) (g : Gd U) {w : Nat} (hw : w / 32 < sp.st.length) (v : Int) {R : Hp -> Prop} (hR : ∀ σ', Ext F U σ' -> SpH3 σ' (Grow F U) p (putW sp w v) -> R σ') :
 YP.call (some ⟨p, 0, none⟩) (w : Int) v U R := by
 refine YP.of_vc ?_
 unfold YP.vc
 obtain ⟨q, r, l, B, h⟩ := h
 have hn2 := h.n2
 have hx : sp.st[w / 32]? = some sp.st[w / 32] := gGe hw
 have tm : ((w : Int).tmod 32) = ((w % 32 : Nat) : Int) := by rw [ZK (by omega)]; simp
 have word : ∀ (u : Hp) (s' : Sp) (l' : List (Int × Sl)) (B' : Nat -> Nat), Ext F U u -> SpH2 u (Grow F U) p q r l' B' s' -> s'.st[w / 32]? = some 2 -> ({ s' with wd := fun z => if z = w then v else s'.wd z } : Sp) = putW sp w v →
  NilP (some ⟨p, 0, none⟩) fun a45 => LdM (a45.add 1) u fun t47 => Lk .i64 .s t47 ((w / 32 : Nat) : Int) u fun t49 => Nz 32 <| Ix (t49.getD ⟨none, 0, 0⟩).a (t49.getD ⟨none, 0, 0⟩).len ((w : Int).tmod 32) 1 fun a53 => St1 a53 (.int .i64 v) u fun v1 => R v1 := by
  intro u s' l' B' eu hu hk he
  refine nilP (hu.rM ⟨l', hu.map, nz (by decide) ?_⟩)
  obtain ⟨s, hs, w1, w2, w3, cs, w4, w5, w6⟩ := hu.entry hk
  rw [hs, tm]
  simp only [Option.getD_some]
  rw [w1]
  refine ix (by omega) (by omega) ?_
  rw [add_lit, show 0 + ((w % 32 : Nat) : Int).toNat * 1 = w % 32 by omega]
  refine w4.s0 (by omega) fun u2 o2 b2 => ?_
  have h2 := hu.word (v := v) hk w5 o2 w6 b2
  rw [he] at h2
  exact hR u2 (eu.newT o2.ext fun b hb => by subst hb; exact (hu.out _ hk).1) ⟨_, _, _, _, h2⟩
 refine nz (by decide) (arN (m := w / 32) (by rw [ZJ (by omega)]; simp) (by omega) (Jn.intro (nilP (h.rS fun cap hcap => ix (by omega) (by simp only; omega) ?_))))
 rw [add_lit, show 0 + ((w / 32 : Nat) : Int).toNat * 2 = 2 * (w / 32) by omega]
 refine h.rPg hx (ldB (n := true) g.d0 (ldB (n := true) g.d1 ?_))
 have e0 : (((pgC sp.st[w / 32]).1 == true) && (((pgC sp.st[w / 32]).2 == true) && true)) = (sp.st[w / 32] == 2) := WdB (h.le2 _ (List.getElem_mem hw)) (y := 2) (by omega)
 rw [e0]
 refine iff_ (fun hd => ?_) fun hd => ?_
 ·have hne : sp.st[w / 32] ≠ 2 := by simpa using hd
  refine nilP (h.rS fun cap hcap => ldB (n := true) g.d0 (ldB (n := true) g.d1 (ix (by omega) (by simp only; omega) ?_)))
  rw [add_lit, show 0 + ((w / 32 : Nat) : Int).toNat * 2 = 2 * (w / 32) by omega]
  obtain ⟨rest, hrow⟩ := h.row
  refine hrow.s1 (by rw [List.length_append, Qf]; omega) fun u1 o1 b1 => b1.s1 (by rw [List.length_set, List.length_append, Qf]; omega) fun u2 o2 b2 => ?_
  rw [Nat.add_zero] at b2
  have b2' : Blk u2 q (pgV (sp.st.set (w / 32) 2) ++ rest) := by rw [← Wdi hw]; exact b2
  have e2 : Ext (· = q) U u2 := o1.ext.trans o2.ext
  obtain ⟨c, hc, hhd⟩ := h.hd
  have hd2 := e2.blk hhd h.fs.2.2.2.1
  refine ⟨fun m => Blk m p [.slice (some ⟨q, 0, none⟩) sp.st.length c, .map (some r), .int .i64 (sp.pk : Int)], hd2, nilP ⟨some r, fun m hm => by rw [add_lit, hm.cell]; rfl, ?_⟩⟩
  refine mk (n := 32) (by omega) (by omega) fun u3 hz3 e3 b3 => ⟨Ext.blk e3 hd2 id, ?_⟩
  have b3' : Blk u3 u2.size (List.replicate 32 (.int .i64 0)) := b3
  have q3 := Ext.blk e3 b2' id
  have hm2 := e2.mapL h.map (fun e => h.fs.2.2.2.2.2 e.symm)
  refine ⟨r, l, rfl, Ext.mapL e3 hm2 id, fun u4 o4 hm4 => ?_⟩
  have sz2 : u2.size = U.size := by rw [o2.1, o1.1]
  have hrlt := h.map.lt
  have hplt := hhd.lt
  have e4 : Ext (fun b => b = q ∨ b = r) U u4 := ((e2.sub fun b hb => .inl hb).trans (Ext0.to e3)).trans (o4.ext.sub fun b hb => .inr hb)
  have h4 := h.dirt hw (by rw [hx]; simpa using hne) (s := ⟨some ⟨u2.size, 0, none⟩, 32, 32⟩) (b := u2.size) e4 (fun i _ hi => hi) (by omega) (Xc o4 q3 h.fs.2.2.2.2.2) hm4 rfl rfl rfl (Xc o4 b3' (by omega))
  obtain ⟨c4, hc4, hd4⟩ := h4.hd
  refine nilP (hd4.rI rfl (nilP (hd4.rM rfl ⟨_, h4.map, nilP ?_⟩)))
  rw [h4.len_l]
  have hcl : (sp.st.set (w / 32) 2).count 2 <= 1024 := Nat.le_trans List.count_le_length (by simpa using hn2)
  have hpk := h.pk
  have hv : (if ((List.count 2 (sp.st.set (w / 32) 2) : Nat) : Int) > (sp.pk : Int) then ((List.count 2 (sp.st.set (w / 32) 2) : Nat) : Int) else (sp.pk : Int)) = ((max sp.pk ((sp.st.set (w / 32) 2).count 2) : Nat) : Int) := by
   by_cases hgt : ((List.count 2 (sp.st.set (w / 32) 2) : Nat) : Int) > (sp.pk : Int)
   ·rw [if_pos hgt]; omega
   ·rw [if_neg hgt]; omega
  simp only
  rw [hv]
  refine hd4.s1 (by simp) fun u5 o5 b5 => ?_
  have h5 := h4.peak (by omega) o5 hc4 b5
  have e5 : Ext F U u5 := (e4.sub fun b hb => by
   rcases hb with rfl | rfl
   ·exact h.fs.2.1
   ·exact h.fs.2.2.1).trans (o5.ext.sub fun b hb => by subst hb; exact h.fs.1)
  refine word u5 _ _ _ e5 h5 (by simp only; rw [List.getElem?_set, if_pos rfl, if_pos hw]) ?_
  unfold putW
  rw [if_neg (by rw [List.getD_eq_getElem?_getD, hx]; exact hne)]
 ·have heq : sp.st[w / 32] = 2 := by simpa using hd
  rw [heq] at hx
  have hgr : SpH2 U (Grow F U) p q r l B sp := { h with out := fun k hk => ⟨.inl (h.out k hk).1, (h.out k hk).2⟩, fs := ⟨.inl h.fs.1, .inl h.fs.2.1, .inl h.fs.2.2.1, h.fs.2.2.2⟩ }
  refine word U sp l B (Ext.refl _ _) hgr hx ?_
  unfold putW
  rw [if_pos (by rw [List.getD_eq_getElem?_getD, hx]; rfl)]
  have : sp.st.set (w / 32) 2 = sp.st := by
   apply List.ext_getElem?
   intro i
   rw [List.getElem?_set]
   by_cases hi : w / 32 = i
   ·subst hi; rw [if_pos rfl, if_pos hw, hx]
   ·rw [if_neg hi]
  rw [this]
theorem Wgs (h : SpH3 U F p sp) (g : Gl U) (gd : Gd U) (x : Int) (hx : x <= 1000000000000) (v : Int) {R : Int -> Hp -> Prop} (hR : ∀ σ', Ext F U σ' -> SpH3 σ' (Grow F U) p (QA sp x v) -> R (accE sp x) σ') :
 Yj.call (some ⟨p, 0, none⟩) x v U R := by
 refine Yj.of_vc ?_
 unfold Yj.vc
 have hcut : SpH3 U (Cut F U) p sp := Lcl.cut SpH3.loc h
 refine G8 h g x hx fun σ1 e => ?_
 have h1 := hcut.keep0 e
 have g1 := g.keep0 e
 refine iff_ (fun hc => ?_) fun hc => ?_
 ·have hne : ¬ accE sp x = 0 := by simpa using hc
  refine hR σ1 (Ext0.to e) ?_
  unfold QA; rw [if_neg hne]
  exact Lcl.mono SpH3.loc h1 fun b _ hb => .inl hb.1
 ·have h0 : accE sp x = 0 := by simpa using hc
  have hx0 : 0 <= x /\ sp.st.getD (x.toNat / 256) 0 ≠ 0 := by
   unfold accE at h0
   by_cases hb : x < 0 ∨ x % 8 ≠ 0
   ·rw [if_pos hb] at h0; cases h0
   ·rw [if_neg hb] at h0
    by_cases hz : sp.st.getD (x.toNat / 256) 0 = 0
    ·rw [if_pos hz] at h0; cases h0
    ·exact ⟨by omega, hz⟩
  obtain ⟨y, rfl⟩ := Int.eq_ofNat_of_zero_le hx0.1
  have hlt : y / 8 / 32 < sp.st.length := by
   rcases Nat.lt_or_ge (y / 256) sp.st.length with h | h
   ·omega
   ·exact absurd (by rw [List.getD_eq_getElem?_getD, List.getElem?_eq_none (by simpa using h)]; rfl) hx0.2
  refine nz (by decide) (arN (m := y / 8) (by rw [ZJ (by omega)]; simp) (by omega) (Whf h1 (gd.keep0 e) hlt v fun σ2 e2 h2 => ?_))
  have := hR σ2 (Ext.cut ((Ext0.to e).trans e2)) ?_
  ·rw [h0] at this; exact this
  ·unfold QA; rw [if_pos h0]
   exact Lcl.mono SpH3.loc h2 fun b _ hb => by
    rcases hb with hb | hb
    ·exact .inl hb.1
    ·exact .inr (Nat.le_trans e.1 hb)
def Kl (n : Nat) : Sp := ⟨List.replicate n 0, fun _ => 0, 0⟩
theorem Whl {U : Hp} {F : Rg} {p q r n c : Nat} (h1 : 1 <= n) (h2 : n <= 1024) (hc : n <= c) (hd : Blk U p [.slice (some ⟨q, 0, none⟩) n c, .map (some r), .int .i64 0]) (hq : Blk U q (pgV (List.replicate n 0))) (hr : MapL U r .i64 .s [])
 (hF : F p /\ F q /\ F r) (hne : p ≠ q /\ p ≠ r /\ q ≠ r) : SpH2 U F p q r [] (fun _ => 0) (Kl n) := by
 have no : ∀ k : Nat, (List.replicate n 0)[k]? ≠ some 2 := fun k hk => by
  rw [List.getElem?_replicate] at hk
  split at hk <;> cases hk
 refine ⟨⟨c, by simpa [Kl] using hc, by simpa [Kl] using hd⟩, ⟨[], by simpa [Kl] using hq⟩, hr, fun x => ?_, fun k s hs => (by cases hs), fun k k' h1 => absurd h1 (no k), fun k hk => absurd hk (no k), ⟨hF.1, hF.2.1, hF.2.2, hne⟩, fun w _ => rfl, by simpa [Kl] using h1, by simpa [Kl] using h2, fun x hx => ?_, by simp [Kl]⟩
 ·constructor
  ·intro h; cases h
  ·rintro ⟨k, _, hk⟩; exact absurd hk (no k)
 ·have := List.eq_of_mem_replicate hx
  omega
theorem Wao {n : Nat} (h1 : 1 <= n) (h2 : n <= 1024) {R : Option Addr -> Int -> Hp -> Prop} (hR : ∀ σ' p', Ext0 U σ' -> U.size <= p' -> SpH3 σ' (fun b => U.size <= b) p' (Kl n) -> R (some ⟨p', 0, none⟩) 0 σ') : ZP.call (n : Int) U R := by
 refine ZP.of_vc ?_
 unfold ZP.vc
 refine JnB.intro (ifDF (by omega) ?_)
 rw [decide_eq_false (by omega)]
 refine ifF rfl (mk (by omega) (by omega) fun u1 z1 e1 b1 => G0 fun u2 z2 e2 m2 => nw (cs := [.slice (some ⟨U.size, 0, none⟩) n n, .map (some u1.size), .int .i64 0]) fun u3 z3 e3 b3 => ?_)
 have hq := Ext.blk e3 (Ext.blk e2 b1 id) id
 have hr := Ext.mapL e3 (m2 .i64 .s) id
 refine hR u3 _ (Ext.trans (Ext.trans e1 e2) e3) (by omega) ⟨U.size, u1.size, [], _, Whl h1 h2 (Nat.le_refl _) b3 ?_ hr ⟨by omega, by omega, by omega⟩ (by omega)⟩
 rw [WbH]; exact hq
end Go.Ar
namespace Go.Vc
open Go


def itN (h : Hp) (it r : Nat) : Nat :=
 match h[it]?, h[r]? with
 | some (.mapIter _ _ seen _), some (.map es _) => (es.toList.filter fun e => !seen.contains e.born).length
 | _, _ => 0
variable {U : Hp} {k : IntKind} {c : CK} {l todo : List (Int × c.T)} {cur : Option (Int × c.T)} {r it : Nat}
theorem It.num {h : Hp} (hi : It h it k c (some r) l todo cur) : itN h it r = todo.length := by
 obtain ⟨es, clk, seen, h1, h2, h3, h4, h5, h6, h7, h8⟩ := hi
 unfold itN
 rw [h1, h2]
 have := congrArg List.length h7
 simpa using this
theorem It.keep {h h' : Hp} (hi : It h it k c (some r) l todo cur) (h1 : h'[it]? = h[it]?) (h2 : h'[r]? = h[r]?) : It h' it k c (some r) l todo cur := by
 obtain ⟨es, clk, seen, a1, a2, rest⟩ := hi
 exact ⟨es, clk, seen, h1.trans a1, h2.trans a2, rest⟩
theorem rng0 {A : Hp -> Prop} {body : Int -> c.T -> Hp -> (Hp -> Prop) -> Prop} (hm : MapL U r k c l) (I : List (Int × c.T) -> Hp -> Prop)
 (h0 : ∀ v, v.size = U.size + 1 -> Ext0 U v -> I l v)
 (hend : ∀ v, I [] v -> A v)
 (hstep : ∀ todo n x v v' (J : Hp -> Prop), I todo v -> (n, x) ∈ todo -> Z5 v v' U.size -> U.size < v.size -> (∀ w, w[U.size]? = v'[U.size]? -> w[r]? = v'[r]? -> I (todo.filter fun y => !(y.1 == n)) w -> J w) -> body n x v' J) :
 Rng k c (some r) U fun it v3 => Xe [] (fun I => I v3) fun J1 v4 => Nxt k c it v4 (A v4) fun _ _ v5 => Ent k c it v5 fun key1 val1 => body key1 val1 v5 J1 := by
 refine ⟨l, hm, fun v hz hb hi => ?_⟩
 have e0 : Ext0 U v := ⟨by omega, fun b hb' _ => hb b hb'⟩
 refine Wi4 (fun w => ∃ todo cur, It w U.size k c (some r) l todo cur /\ I todo w /\ U.size < w.size) (fun w => itN w U.size r) ⟨l, none, hi, h0 v hz e0, by omega⟩ ?_
 rintro w ⟨todo, cur, hiw, hI, hlt⟩
 refine ⟨rfl, some r, l, todo, cur, hiw, fun ht => ?_, fun n x hx w' ho hi' => ?_⟩
 ·subst ht; exact hend w hI
 ·refine ⟨rfl, some r, l, _, n, x, hi', hstep todo n x w w' _ hI hx ho hlt fun u hu1 hu2 hIu => ?_⟩
  have hiu := hi'.keep hu1 hu2
  refine ⟨⟨_, _, hiu, hIu, ?_⟩, ?_⟩
  ·obtain ⟨es, clk, seen, a1, _⟩ := hiu
   exact (Array.getElem?_eq_some_iff.1 a1).1
  ·rw [hiu.num, hiw.num]
   exact List.length_filter_lt_length_iff_exists.2 ⟨(n, x), hx, by simp⟩
theorem rng1 {a : CK} {x0 : a.T} {A : a.T -> Hp -> Prop} {body : Int -> c.T -> a.T -> Hp -> (a.T -> Hp -> Prop) -> Prop} (hm : MapL U r k c l) (I : List (Int × c.T) -> a.T -> Hp -> Prop)
 (h0 : ∀ v, v.size = U.size + 1 -> Ext0 U v -> I l x0 v)
 (hend : ∀ z v, I [] z v -> A z v)
 (hstep : ∀ todo n x z v v' (J : a.T -> Hp -> Prop), I todo z v -> (n, x) ∈ todo -> Z5 v v' U.size -> U.size < v.size -> (∀ z' w, w[U.size]? = v'[U.size]? -> w[r]? = v'[r]? -> I (todo.filter fun y => !(y.1 == n)) z' w -> J z' w) -> body n x z v' J) :
 Rng k c (some r) U fun it v3 => Xe [a] (fun I => I x0 v3) fun J1 z v4 => Nxt k c it v4 (A z v4) fun _ _ v5 => Ent k c it v5 fun key1 val1 => body key1 val1 z v5 J1 := by
 refine ⟨l, hm, fun v hz hb hi => ?_⟩
 have e0 : Ext0 U v := ⟨by omega, fun b hb' _ => hb b hb'⟩
 refine YX (a := a) (fun z w => ∃ todo cur, It w U.size k c (some r) l todo cur /\ I todo z w /\ U.size < w.size) (fun _ w => itN w U.size r) ⟨l, none, hi, h0 v hz e0, by omega⟩ ?_
 rintro z w ⟨todo, cur, hiw, hI, hlt⟩
 refine ⟨rfl, some r, l, todo, cur, hiw, fun ht => ?_, fun n x hx w' ho hi' => ?_⟩
 ·subst ht; exact hend z w hI
 ·refine ⟨rfl, some r, l, _, n, x, hi', hstep todo n x z w w' _ hI hx ho hlt fun z' u hu1 hu2 hIu => ?_⟩
  have hiu := hi'.keep hu1 hu2
  refine ⟨⟨_, _, hiu, hIu, ?_⟩, ?_⟩
  ·obtain ⟨es, clk, seen, a1, _⟩ := hiu
   exact (Array.getElem?_eq_some_iff.1 a1).1
  ·rw [hiu.num, hiw.num]
   exact List.length_filter_lt_length_iff_exists.2 ⟨(n, x), hx, by simp⟩
end Go.Vc
namespace Go.Ar
open Go Go.Vc Go.Proofs
open Go.Bu (XA)


variable {U : Hp} {F : Rg} {p q r : Nat} {sp : Sp} {l : List (Int × Sl)} {B : Nat -> Nat}
theorem Kz {α : Type} {l : List (Int × α)} (hn : (l.map (·.1)).Nodup) {n : Int} {x : α} (h : (n, x) ∈ l) : mget l n = some x := by
 induction l with
 | nil => simp at h
 | cons y l ih =>
  rw [Qd]
  simp only [List.map_cons, List.nodup_cons] at hn
  rcases List.mem_cons.1 h with h1 | h1
  ·subst h1; rw [if_pos rfl]
  ·have : ¬ y.1 = n := fun e => hn.1 (List.mem_map.2 ⟨_, h1, e.symm⟩)
   rw [if_neg this]; exact ih hn.2 h1
theorem Wik {l : List Nat} : ∀ v ∈ pgV l, one1 v = true := by
 intro v hv
 simp only [pgV, List.mem_flatMap] at hv
 obtain ⟨x, _, hx⟩ := hv
 simp at hx
 rcases hx with rfl | rfl <;> rfl
structure ClI (U v : Hp) (a b h : Nat) (hd : List Value) (sp : Sp) (l todo : List (Int × Sl)) (l' : List (Int × Sl)) (B' : Nat -> Nat) (it : Nat) : Prop where
 ext : Ext0 U v
 hd : Blk v h hd
 row : Blk v a (pgV sp.st)
 map : MapL v b .i64 .s l'
 sub : ∀ x ∈ todo, x ∈ l
 keys : ∀ x : Int, (mget l' x).isSome = true ↔ (mget l x).isSome = true /\ ¬ x ∈ todo.map (·.1)
 wd : ∀ (k : Nat) s, mget l' (k : Int) = some s -> WdH v s (B' k) fun j => sp.wd (32 * k + j)
 inj : ∀ k k' : Nat, (mget l' (k : Int)).isSome = true -> (mget l' (k' : Int)).isSome = true -> B' k = B' k' -> k = k'
 out : ∀ k : Nat, (mget l' (k : Int)).isSome = true -> U.size <= B' k /\ B' k < v.size /\ B' k ≠ a /\ B' k ≠ b /\ B' k ≠ h /\ B' k ≠ it
theorem WbE (h : SpH3 U F p sp) {R : Option Addr -> Hp -> Prop} (hR : ∀ σ' p', Ext0 U σ' -> U.size <= p' -> SpH3 σ' (fun b => U.size <= b) p' sp -> R (some ⟨p', 0, none⟩) σ') : Yo.call (some ⟨p, 0, none⟩) U R := by
 refine Yo.of_vc ?_
 unfold Yo.vc
 have h' := h
 obtain ⟨q, r, l, B, h⟩ := h
 have n2 := h.n2
 obtain ⟨c, hc, hd⟩ := h.hd
 obtain ⟨rest, hrow⟩ := h.row
 refine VQ h' (ifF rfl (Jn.intro ⟨fun m => Blk m p [.slice (some ⟨q, 0, none⟩) sp.st.length c, .map (some r), .int .i64 (sp.pk : Int)], hd, ?_⟩))
 refine nilP ⟨⟨some ⟨q, 0, none⟩, sp.st.length, c⟩, fun m hm => by rw [add_lit, hm.cell]; rfl, nilP ⟨(sp.pk : Int), fun m hm => by rw [add_lit, hm.cell]; rfl, ?_⟩⟩
 have key : ∀ (u : Hp) (a b n : Nat), Ext0 U u -> U.size <= a -> U.size <= b -> U.size <= n -> a ≠ b -> a ≠ n -> b ≠ n -> a < u.size -> b < u.size -> n < u.size -> Blk u a (pgV (List.replicate sp.st.length 0)) -> MapL u b .i64 .s [] -> Blk u n [.slice (some ⟨a, 0, none⟩) sp.st.length sp.st.length, .map (some b), .int .i64 (sp.pk : Int)] →
  NilP (some ⟨n, 0, none⟩) fun a23 => LdS (a23.add 0) u fun t25 => NilP (some ⟨p, 0, none⟩) fun a27 => LdS (a27.add 0) u fun t29 => Cpy t25 2 t29 u fun t30 v2 => NilP (some ⟨p, 0, none⟩) fun a32 => LdM (a32.add 1) v2 fun t34 =>
   Rng .i64 .s t34 v2 fun it v3 => Xe [] (fun I => I v3) fun J1 v4 => Nxt .i64 .s it v4 (R (some ⟨n, 0, none⟩) v4) fun key val v5 => Ent .i64 .s it v5 fun key1 val1 => Held v5 fun S1 => NilP (some ⟨n, 0, none⟩) fun a42 => LdH S1 .m (a42.add 1) fun (t44 : Option Nat) =>
    Wu.call val1 v5 fun t47 v6 => And (S1 v6) <| MSet .i64 .s t44 key1 t47 v6 fun v7 => J1 v7 := by
  intro u a b n eu ha hb hn hab han hbn ha' hb' hn' ba bb bn
  have hdu := eu.blk hd id
  have hrowu := eu.blk hrow id
  refine nilP (bn.rS rfl (nilP (hdu.rS rfl ⟨pgV sp.st, by rw [Qf]; simp only; omega, ?_, Wik, ?_⟩)))
  ·intro j v hv
   rw [add_lit, hrowu.cell, List.getElem?_append_left (by rw [Nat.zero_add]; exact (gSi.1 hv).1), Nat.zero_add]
   exact hv
  simp only
  refine KC ba (by simp [Qf]) fun u2 o2 b2 => ?_
  have e2 : Ext0 U u2 := Ext.fresh eu o2.ext fun i hi => by omega
  have b2' : Blk u2 a (pgV sp.st) := by
   have : List.take (0 + 0) (pgV (List.replicate sp.st.length 0)) ++ pgV sp.st ++ List.drop (0 + 0 + (pgV sp.st).length) (pgV (List.replicate sp.st.length 0)) = pgV sp.st := by
    rw [List.drop_eq_nil_of_le (by rw [Qf, Qf]; simp)]; simp
   rw [this] at b2; exact b2
  have hd2 := e2.blk hd id
  refine nilP (hd2.rM rfl ?_)
  refine rng0 (c := .s) (l := l) (e2.mapL h.map id) (fun todo v => u2.size <= v.size /\ ∃ l' B', ClI U v a b n [.slice (some ⟨a, 0, none⟩) sp.st.length sp.st.length, .map (some b), .int .i64 (sp.pk : Int)] sp l todo l' B' u2.size) (fun v hz e => ?_) (fun v hv => ?_) fun todo m x v v' J hI hx ho hlt hJ => ?_
  ·refine ⟨e.1, [], fun _ => 0, e2.trans e, e.blk (Xc o2 bn (by omega)) id, e.blk b2' id, e.mapL (QQ o2 bb (by omega)) id, fun x hx => hx, fun x => ?_, fun k s hs => (by cases hs), fun k k' h1 => (by cases h1), fun k hk => (by cases hk)⟩
   rw [U1 (l := l)]
   constructor
   ·intro h; cases h
   ·intro h; exact absurd h.1 h.2
  ·obtain ⟨hz, l', B', hC⟩ := hv
   have ke : ∀ x : Int, (mget l' x).isSome = true ↔ ∃ k : Nat, x = k /\ sp.st[k]? = some 2 := fun x => by
    rw [hC.keys, h.keys]; simp
   refine hR v n hC.ext hn ⟨a, b, l', B', ⟨_, Nat.le_refl _, hC.hd⟩, ⟨[], by simpa using hC.row⟩, hC.map, ke, hC.wd, fun k k' h1 h2 => hC.inj k k' ((ke _).2 ⟨k, rfl, h1⟩) ((ke _).2 ⟨k', rfl, h2⟩), fun k hk => ?_, ⟨hn, ha, hb, han.symm, hbn.symm, hab⟩, h.zero, h.n1, h.n2, h.le2, h.pk⟩
   have := hC.out k ((ke _).2 ⟨k, rfl, hk⟩)
   exact ⟨this.1, this.2.2.2.2.1, this.2.2.1, this.2.2.2.1⟩
  ·obtain ⟨hz, l', B', hC⟩ := hI
   have szu : U.size <= u2.size := e2.1
   have ev' : Ext0 U v' := Ext.fresh hC.ext ho.ext fun i hi => by omega
   have hul : u2.size = u.size := o2.1
   have hd' := Xc ho hC.hd (by omega)
   have hxl := hC.sub _ hx
   obtain ⟨k, rfl, hk⟩ := (h.keys m).1 (by rw [Kz h.map.nodup hxl]; rfl)
   have hgx := Kz h.map.nodup hxl
   obtain ⟨w1, w2, w3, cs, w4, w5, w6⟩ := h.wd k x hgx
   have w4' := ev'.blk w4 id
   have hsl : SlR x 1 (cs.take 32) v' fun _ => True := ⟨by rw [List.length_take, w2]; omega, .inr ⟨B k, 0, cs, trivial, w1, w4'.q, fun j hj => by
    rw [List.length_take] at hj
    rw [List.getElem?_take, if_pos (by omega), Nat.zero_add]⟩⟩
   refine ⟨fun m => Blk m n [.slice (some ⟨a, 0, none⟩) sp.st.length sp.st.length, .map (some b), .int .i64 (sp.pk : Int)], hd', nilP ⟨some b, fun m hm => by rw [add_lit, hm.cell]; rfl, ?_⟩⟩
   refine K4 hsl (fun z hz => ?_) (by omega) fun s' v6 hl' e6 hr6 => ⟨e6.blk hd' id, ?_⟩
   ·obtain ⟨j, hj⟩ := List.getElem?_of_mem hz
    have hj32 : j < 32 := by have := (gSi.1 hj).1; rw [List.length_take] at this; omega
    rw [List.getElem?_take, if_pos hj32, w6 j hj32] at hj
    cases hj; rfl
   have hmv := e6.mapL (QQ ho hC.map (by omega)) id
   refine ⟨b, l', rfl, hmv, fun v7 o7 m7 => ?_⟩
   have hl32 : (cs.take 32).length = 32 := by rw [List.length_take]; omega
   have hzv : v'.size = v.size := ho.1
   have h6s := e6.1
   rcases hr6.2 with ⟨h0, _⟩ | ⟨nb, ds, hq, hsa, hbb, hle, hcl, htt⟩
   ·omega
   have hds : ∀ j, j < 32 -> ds[j]? = some (.int .i64 (sp.wd (32 * k + j))) := fun j hj => by
    have : (ds.take (cs.take 32).length)[j]? = (cs.take 32)[j]? := by rw [htt]
    rw [hl32, List.getElem?_take, List.getElem?_take, if_pos hj, if_pos hj] at this
    rw [this]; exact w6 j hj
   have hnb := hbb.lt
   have e67 : Ext0 U v7 := Ext.fresh (ev'.trans e6) o7.ext fun i hi => by omega
   have hmb := hC.map.lt
   refine hJ v7 ?_ ?_ ⟨by have := o7.1; omega, mset l' (k : Int) s', fun j => if j = k then nb else B' j, e67, ?_, ?_, m7, fun y hy => hC.sub y (List.mem_filter.1 hy).1, fun y => ?_, fun j s hs => ?_, fun j j' h1 h2 hjj => ?_, fun j hj => ?_⟩
   ·rw [o7.2 _ (by omega)]; exact e6.2 _ (by omega) id
   ·have hrl := h.map.lt
    rw [o7.2 _ (by omega)]; exact e6.2 _ (by omega) id
   ·exact Xc o7 (e6.blk hd' id) (by omega)
   ·exact Xc o7 (e6.blk (Xc ho hC.row (by omega)) id) (by omega)
   ·rw [Ka]
    by_cases hy : y = (k : Int)
    ·subst hy
     rw [if_pos rfl]
     simp only [Option.isSome_some, true_iff]
     refine ⟨by rw [hgx]; rfl, fun hm => ?_⟩
     rw [List.mem_map] at hm
     obtain ⟨z, hz, hz2⟩ := hm
     rw [List.mem_filter] at hz
     simp [hz2] at hz
    ·rw [if_neg hy, hC.keys]
     refine and_congr_right fun _ => not_congr ?_
     simp only [List.mem_map, List.mem_filter]
     constructor
     ·rintro ⟨z, hz, rfl⟩
      exact ⟨z, ⟨hz, by simpa using hy⟩, rfl⟩
     ·rintro ⟨z, ⟨hz, _⟩, rfl⟩
      exact ⟨z, hz, rfl⟩
   ·rw [Ka] at hs
    by_cases hjk : (j : Int) = (k : Int)
    ·have : j = k := by omega
     subst this
     rw [if_pos rfl] at hs; cases hs
     rw [if_pos rfl]
     exact ⟨hsa, by omega, by omega, ds, Xc o7 hbb (by omega), by omega, hds⟩
    ·rw [if_neg hjk] at hs
     obtain ⟨x1, x2, x3, es, x4, x5, x6⟩ := hC.wd j s hs
     have hout := hC.out j (by rw [hs]; rfl)
     rw [if_neg (by omega)]
     exact ⟨x1, x2, x3, es, Xc o7 (e6.blk (Xc ho x4 (by omega)) id) (by omega), x5, x6⟩
   ·rw [Ka] at h1 h2
    by_cases e1 : j = k
    ·by_cases e2 : j' = k
     ·omega
     ·rw [if_pos e1, if_neg e2] at hjj
      rw [if_neg (by omega)] at h2
      have := hC.out j' h2
      omega
    ·rw [if_neg e1] at hjj
     rw [if_neg (by omega)] at h1
     by_cases e2 : j' = k
     ·rw [if_pos e2] at hjj
      have := hC.out j h1
      omega
     ·rw [if_neg e2] at hjj
      rw [if_neg (by omega)] at h2
      exact hC.inj j j' h1 h2 hjj
   ·rw [Ka] at hj
    have h7s := o7.1
    by_cases e1 : j = k
    ·rw [if_pos e1]; omega
    ·rw [if_neg e1]
     rw [if_neg (by omega)] at hj
     have := hC.out j hj
     omega
 have hblk : ∀ {u v : Hp} {cs : List Value}, Ext0 u v -> Blk u p cs -> Blk v p cs := fun e hb => Ext.blk e hb id
 refine ⟨mk (by simp only; omega) (by simp only; omega) fun u1 z1 e1 b1 => ⟨hblk e1 hd, G0 fun u2 z2 e2 m2 => ⟨hblk e2 (hblk e1 hd), nw (cs := [.slice (some ⟨U.size, 0, none⟩) sp.st.length sp.st.length, .map (some u1.size), .int .i64 (sp.pk : Int)]) fun u3 z3 e3 b3 => ⟨hblk e3 (hblk e2 (hblk e1 hd)), ?_⟩⟩⟩, G0 fun u1 z1 e1 m1 => ⟨hblk e1 hd, mk (by simp only; omega) (by simp only; omega) fun u2 z2 e2 b2 => ⟨hblk e2 (hblk e1 hd), nw (cs := [.slice (some ⟨u1.size, 0, none⟩) sp.st.length sp.st.length, .map (some U.size), .int .i64 (sp.pk : Int)]) fun u3 z3 e3 b3 => ⟨hblk e3 (hblk e2 (hblk e1 hd)), ?_⟩⟩⟩⟩
 ·refine key u3 U.size u1.size u2.size (Ext.trans (Ext.trans e1 e2) e3) (by omega) (by omega) (by omega) (by omega) (by omega) (by omega) (by omega) (by omega) (by omega) ?_ (Ext.mapL e3 (m2 .i64 .s) id) b3
  rw [WbH]; exact Ext.blk e3 (Ext.blk e2 b1 id) id
 ·refine key u3 u1.size U.size u2.size (Ext.trans (Ext.trans e1 e2) e3) (by omega) (by omega) (by omega) (by omega) (by omega) (by omega) (by omega) (by omega) (by omega) ?_ (Ext.mapL e3 (Ext.mapL e2 (m1 .i64 .s) id) id) b3
  rw [WbH]; exact Ext.blk e3 b2 id
end Go.Ar
namespace Go.Bu
open Go Go.Vc Go.Proofs


variable {U : Hp} {p n sb : Nat} {S : Nat -> Bool} {ms : List Nat}
def mapV (ms : List Nat) : List Value := ms.map fun m => Value.map (some m)
structure Part (B : Nat) (h : Hp) (p n : Nat) (j : Nat) (s : Sl) (ms : List Nat) : Prop where
 len : ms.length = j
 sl : s.len = j
 hd : Blk h p [.int .i64 n, .slice s.a s.len s.cap]
 own : Own (fun b => B <= b /\ b ≠ p /\ b ∉ ms) h s 1 (mapV ms)
 new : ∀ m ∈ ms, B <= m /\ m ≠ p /\ m < h.size
 nd : ms.Nodup
theorem Part.done {B : Nat} {h : Hp} {j : Nat} {s : Sl} (hp : Part B h p n j s ms) (hB : B <= p) (hj : 0 < j) (n1 : 1 <= n) (n2 : n <= 1024) (lo : 2 ^ j <= 2 * n) (hi : n < 2 ^ j) (bnd : Bounded S n)
 (maps : ∀ k m, ms[k]? = some m -> ∃ B : List (Int × Bool), MapL h m .i64 .b B /\ Keys S k B) : ∃ sb, BH h p n S sb ms /\ ∀ b, fp p sb ms b -> B <= b := by
 rcases hp.own.2 with ⟨_, hl, _⟩ | ⟨sb, cs, ⟨hq, hqp, hqm⟩, ha, hb, hle, hcl, ht⟩
 ·have := hp.sl; omega
 ·refine ⟨sb, ⟨?_, ?_, maps, ?_, n1, n2, ?_, ?_, bnd⟩, ?_⟩
  ·refine ⟨s.cap, ?_⟩
   have := hp.hd
   rw [ha, hp.sl, ← hp.len] at this
   exact this
  ·refine ⟨cs.drop (mapV ms).length, ?_⟩
   have : mapV ms ++ cs.drop (mapV ms).length = cs := by
    conv => lhs; lhs; rw [← ht]
    exact List.take_append_drop _ _
   show Blk h sb (mapV ms ++ _)
   rw [this]; exact hb
  ·simp only [List.nodup_cons, List.mem_cons, not_or]
   exact ⟨⟨fun e => hqp e.symm, fun hm => (hp.new p hm).2.1 rfl⟩, hqm, hp.nd⟩
  ·rw [hp.len]; exact lo
  ·rw [hp.len]; exact hi
  ·intro b hb
   simp only [fp, List.mem_cons] at hb
   rcases hb with rfl | rfl | h
   ·exact hB
   ·exact hq
   ·exact (hp.new b h).1
theorem Part.hdS {B : Nat} {h : Hp} {j : Nat} {s : Sl} (hp : Part B h p n j s ms) : cell h ⟨p, 1, none⟩ = some (.slice s.a s.len s.cap) := by rw [hp.hd.cell]; rfl
theorem Part.keep0 {B : Nat} {h h' : Hp} {j : Nat} {s : Sl} (hp : Part B h p n j s ms) (e : Ext0 h h') : Part B h' p n j s ms :=
 ⟨hp.len, hp.sl, e.blk hp.hd id, hp.own.keep0 e, fun m hm => ⟨(hp.new m hm).1, (hp.new m hm).2.1, Nat.lt_of_lt_of_le (hp.new m hm).2.2 e.1⟩, hp.nd⟩
theorem Part.step {B : Nat} {h : Hp} {j m e t bytes : Nat} {s : Sl} {zs : List Value} {K : Sl -> Hp -> Prop} (hp : Part B h p n j s ms) (hj : j <= 1000) (hbt : bytes <= 1000) (hz : zs.length = 1) (hm : B <= m) (hmp : m ≠ p) (hml : m < h.size) (hmn : m ∉ ms) (hms : ¬ Vp s m)
 (hpB : p < h.size) (hBh : B <= h.size)
 (hgo : ∀ s' h', Ext (Vp s) h h' -> s'.len = j + 1 -> Blk h' p [.int .i64 n, .slice s.a s.len s.cap] →
  (∀ h2, Z5 h' h2 p -> Blk h2 p [.int .i64 n, .slice s'.a s'.len s'.cap] -> Part B h2 p n (j + 1) s' (ms ++ [m])) -> K s' h') :
 App s 1 bytes e zs ⟨some ⟨h.size, 0, none⟩, 1, 1⟩ (h.push (.cells #[.map (some m)] t (0, 0))) K := by
 have hsl := hp.sl
 have own' : Own (fun b => B <= b /\ b ≠ p /\ b ∉ ms ++ [m]) (h.push (.cells #[.map (some m)] t (0, 0))) s 1 (mapV ms) := by
  have h1 := hp.own
  have h2 : Own (fun b => B <= b /\ b ≠ p /\ b ∉ ms ++ [m]) h s 1 (mapV ms) := by
   refine ⟨h1.1, h1.2.imp id ?_⟩
   rintro ⟨b, cs, ⟨q1, q2, q3⟩, ha, r⟩
   refine ⟨b, cs, ⟨q1, q2, ?_⟩, ha, r⟩
   simp only [List.mem_append, List.mem_singleton, not_or]
   exact ⟨q3, fun e => hms ⟨0, by rw [ha, e]⟩⟩
  exact h2.keep0 (Kv _ _)
 have hsz : (h.push (.cells #[.map (some m)] t (0, 0))).size = h.size + 1 := by simp
 refine own'.app (ys := [.map (some m)]) ?_ hz rfl WiY (by simp [one1]) ?_ ?_ Nat.zero_lt_one fun s' h' hl' he ho hne => ?_
 ·intro b hb
  rw [hsz] at hb
  refine ⟨by omega, by omega, ?_⟩
  simp only [List.mem_append, List.mem_singleton, not_or]
  exact ⟨fun hmem => by have := (hp.new b hmem).2.2; omega, by omega⟩
 ·simp only
  have : (s.len + 1) * bytes <= 1001 * 1000 := Nat.mul_le_mul (by omega) hbt
  omega
 ·simp only; omega
 ·simp only at hl'
  have he' : Ext (Vp s) h h' := (Kv h _).to.trans he
  have hnp : ¬ Vp s p := fun hb => (hp.own.blk_lt hb).1.2.1 rfl
  refine hgo s' h' he' (by omega) (he'.blk hp.hd hnp) fun h2 h2o hb2 => ⟨by simp [hp.len], by omega, hb2, ?_, ?_, ?_⟩
  ·have : mapV (ms ++ [m]) = mapV ms ++ [.map (some m)] := by simp [mapV]
   rw [this]
   exact ho.keep (Ext.of_only (F := (· = p)) h2o rfl) (fun b hq _ hf => hq.2.1 hf)
  ·intro x hx
   have hs2 : h2.size = h'.size := h2o.1
   have := he'.1
   rcases List.mem_append.1 hx with h1 | h1
   ·have := hp.new x h1
    exact ⟨this.1, this.2.1, by omega⟩
   ·simp at h1; subst h1
    exact ⟨hm, hmp, by omega⟩
  ·rw [List.nodup_append]
   refine ⟨hp.nd, by simp, ?_⟩
   intro a ha b hb
   simp at hb; subst hb
   rintro rfl; exact hmn ha
def emptyS : Nat -> Bool := fun _ => false
theorem Wc7 (k : Nat) : Keys emptyS k [] := by
 refine ⟨by simp, fun q hq => ?_⟩
 have := QH hq (Qz k q)
 simp [emptyS] at this
theorem New_ok (pages : Int) {R : Option Addr -> Int -> Hp -> Prop} (hbad : ¬ (1 <= pages /\ pages <= 1024) -> R none 1 U)
 (hR : ∀ (n : Nat), pages = (n : Int) -> 1 <= n -> n <= 1024 -> ∀ σ' sb ms, Ext0 U σ' -> BH σ' U.size n emptyS sb ms -> (∀ b, fp U.size sb ms b -> U.size <= b) -> R (some ⟨U.size, 0, none⟩) 0 σ') : Z3.call pages U R := by
 refine Z3.of_vc ?_
 unfold Z3.vc
 refine JnB.intro (ifD (fun h1 => ifT rfl (hbad (by omega))) fun h1 => ?_)
 refine ifD (fun h2 => hbad (by omega)) fun h2 => ?_
 obtain ⟨n, rfl⟩ := Int.eq_ofNat_of_zero_le (show 0 <= pages by omega)
 have n1 : 1 <= n := by omega
 have n2 : n <= 1024 := by omega
 unfold Nw
 have e0 := Kv U (.cells #[.int .i64 (n : Int), .slice none 0 0] 52 (0, 0))
 refine YX (a := .i .i64) (fun t h => ∃ (j : Nat) (s : Sl) (ms : List Nat), t = ((2 ^ j : Nat) : Int) /\ 2 ^ j <= 2 * n /\ Ext0 U h /\ U.size < h.size /\ Part U.size h U.size n j s ms /\ ∀ m ∈ ms, MapL h m .i64 .b []) (fun t _ => 2 * n + 1 - t.toNat)
  ⟨0, ⟨none, 0, 0⟩, [], rfl, by simp; omega, Ext.push _ _ _, by simp, ⟨rfl, rfl, Blk.push _ _ _, Own.nil _ _ _, by simp, by simp⟩, by simp⟩ ?_
 rintro t h ⟨j, s, ms, rfl, hj2, hE, hsz, hP, hms⟩
 have hj : j <= 11 := by
  apply Classical.byContradiction
  intro hc
  have : 2 ^ 12 <= 2 ^ j := Nat.pow_le_pow_right (by decide) (by omega)
  omega
 have hpj := Nat.two_pow_pos j
 refine ifD (fun hle => ?_) (fun hgt => ?_)
 ·refine nilP ?_
  rw [add_lit, Nat.zero_add]
  refine ldS hP.hdS ?_
  have e1 := Kv h (.map #[] 0)
  have hs1 : (h.push (.map #[] 0)).size = h.size + 1 := by simp
  have hP1 := hP.keep0 e1
  refine hP1.step (m := h.size) (by omega) (by omega) rfl (by omega) (by omega) (by omega) (fun hm => by have := (hP.new _ hm).2.2; omega) (fun hb => by have := (hP.own.blk_lt hb).2; omega) (by omega) (by omega) fun s' h' he hl hb hstep => ?_
  refine nilP (hb.st1 (by simp) fun h2 ho hb2 => ?_)
  have hP2 := hstep h2 ho hb2
  have hE2 : Ext0 U h2 := by
   refine Ext.fresh (Ext.fresh (hE.trans e1) he fun i hi => (hP.own.blk_lt hi).1.1) (Ext.of_only (F := (· = U.size)) ho rfl) fun i hi => ?_
   rw [hi]; exact Nat.le_refl _
  refine arN (m := 2 ^ (j + 1)) (by rw [Nat.pow_succ]; omega) (by rw [Nat.pow_succ]; omega) ⟨⟨j + 1, s', ms ++ [h.size], rfl, by rw [Nat.pow_succ]; omega, hE2, ?_, hP2, ?_⟩, by rw [Nat.pow_succ]; omega⟩
  ·have := ho.1; have := he.1; omega
  ·intro m hm
   have keepM : ∀ {m : Nat}, MapL (h.push (.map #[] 0)) m .i64 .b [] -> ¬ Vp s m -> m ≠ U.size -> MapL h2 m .i64 .b [] := fun hM hn hne => QQ ho (he.mapL hM hn) hne
   rcases List.mem_append.1 hm with h1 | h1
   ·exact keepM (e1.mapL (hms m h1) id) (fun hb => (hP.own.blk_lt hb).1.2.2 h1) (hP.new m h1).2.1
   ·simp at h1; subst h1
    exact keepM (MapL.push _ _ _) (fun hb => by have := (hP.own.blk_lt hb).2; omega) (by omega)
 ·have hjpos : 0 < j := by
   rcases Nat.eq_zero_or_pos j with e | e
   ·subst e; simp at hgt; omega
   ·exact e
  obtain ⟨sb, hB, hF⟩ := hP.done (S := emptyS) (Nat.le_refl _) hjpos n1 n2 hj2 (by omega) (fun x hx => by simp [emptyS] at hx) fun k m hm => ⟨[], hms m (List.mem_of_getElem? hm), Wc7 k⟩
  exact hR n rfl n1 n2 h sb ms hE hB hF
theorem Clone_ok (hB : BH U p n S sb ms) {R : Option Addr -> Hp -> Prop}
 (hR : ∀ σ' sb' ms', Ext0 U σ' -> BH σ' U.size n S sb' ms' -> (∀ b, fp U.size sb' ms' b -> U.size <= b) -> R (some ⟨U.size, 0, none⟩) σ') : XK.call (some ⟨p, 0, none⟩) U R := by
 refine XK.of_vc ?_
 unfold XK.vc
 have hl := hB.len
 refine UU hB (ifF rfl (nilP (hB.rN ?_)))
 unfold Nw
 refine nilP ((hB.keep0 (Kv U _)).rB fun cap => ?_)
 refine YX (a := .i .i64) (fun t h => ∃ (j : Nat) (s : Sl) (ms' : List Nat), t = (j : Int) /\ j <= ms.length /\ Ext0 U h /\ U.size < h.size /\ Part U.size h U.size n j s ms' /\ ∀ k m', ms'[k]? = some m' -> ∃ B : List (Int × Bool), MapL h m' .i64 .b B /\ Keys S k B)
  (fun t _ => ms.length - t.toNat) ⟨0, ⟨none, 0, 0⟩, [], rfl, by omega, Ext.push _ _ _, by simp, ⟨rfl, rfl, Blk.push _ _ _, Own.nil _ _ _, by simp, by simp⟩, by simp⟩ ?_
 rintro t h ⟨j, s, ms', rfl, hj, hE, hsz, hP, hms⟩
 have hBh := hB.keep0 hE
 refine ifD (fun hlt => ?_) (fun hge => ?_)
 ·simp only at hlt
  obtain ⟨m, hm⟩ := hB.get (k := j) (by omega)
  obtain ⟨B, hBm, hK⟩ := hBh.maps j m hm
  refine hBh.rM hm ⟨fun h' => cell h' ⟨U.size, 1, none⟩ = some (.slice s.a s.len s.cap), hP.hdS, nilP ⟨s, fun h' hS => by rw [add_lit, Nat.zero_add]; exact hS, ?_⟩⟩
  refine Wfn hBm fun h1 hs1 e1 hM1 => ?_
  have hP1 := hP.keep0 e1
  refine ⟨hP1.hdS, ?_⟩
  refine ⟨(hP1.keep0 (Kv _ _)).hdS, ?_⟩
  refine hP1.step (m := h.size) (by omega) (by omega) rfl (by omega) (by omega) (by omega) (fun hm => by have := (hP.new _ hm).2.2; omega) (fun hb => by have := (hP.own.blk_lt hb).2; omega) (by omega) (by omega) fun s' h' he hl hb hstep => ?_
  refine nilP (hb.st1 (by simp) fun h2 ho hb2 => ?_)
  have hP2 := hstep h2 ho hb2
  have hE2 : Ext0 U h2 := by
   refine Ext.fresh (Ext.fresh (hE.trans e1) he fun i hi => (hP.own.blk_lt hi).1.1) (Ext.of_only (F := (· = U.size)) ho rfl) fun i hi => ?_
   rw [hi]; exact Nat.le_refl _
  refine arN (m := j + 1) (by omega) (by omega) ⟨⟨j + 1, s', ms' ++ [h.size], rfl, by omega, hE2, ?_, hP2, ?_⟩, by omega⟩
  ·have := ho.1; have := he.1; omega
  ·intro k m' hm'
   have keepM : ∀ {m : Nat} {B : List (Int × Bool)}, MapL h1 m .i64 .b B -> ¬ Vp s m -> m ≠ U.size -> MapL h2 m .i64 .b B := fun hM hn hne => QQ ho (he.mapL hM hn) hne
   rcases Nat.lt_or_ge k ms'.length with h3 | h3
   ·rw [List.getElem?_append_left h3] at hm'
    obtain ⟨B', hB', hK'⟩ := hms k m' hm'
    have hmem := List.mem_of_getElem? hm'
    exact ⟨B', keepM (e1.mapL hB' id) (fun hb => (hP.own.blk_lt hb).1.2.2 hmem) (hP.new m' hmem).2.1, hK'⟩
   ·rw [List.getElem?_append_right h3] at hm'
    have hk : k = j := by
     have := (gSi.1 hm').1
     simp at this
     have := hP.len
     omega
    subst hk
    rw [hP.len, Nat.sub_self] at hm'
    simp at hm'; subst hm'
    exact ⟨B, keepM hM1 (fun hb => by have := (hP.own.blk_lt hb).2; omega) (by omega), hK⟩
 ·simp only at hge
  have : j = ms.length := by omega
  subst this
  obtain ⟨sb', hB', hF⟩ := hP.done (S := S) (Nat.le_refl _) hB.len1 hB.n1 hB.n2 hB.lo hB.hi hB.bnd hms
  exact hR h sb' ms' hE hB' hF
end Go.Bu
namespace Go.Proofs
open Go.Vc

set_option maxRecDepth 100000
def Xi.hint : Hn := .q (.o 6) (.q (.q (.o 3) (.c (.q (.o 6) (.l)) (.l))) (.q (.o 5) (.q (.q (.o 6) (.k (.loop [(8, .one (.i .i64)), (9, .one (.i .i64)), (10, .one (.i .i64)), (11, .one (.i .i64)), (28, .one (.i .i64))] (.q (.o 1) (.q (.c (.l) (.l)) (.q (.k (.q (.o 6) (.q (.o 7) (.q (.o 10) (.q (.reg (.held true [] (.take 0 (.take 1 (.take 2 (.take 3 (.take 4 (.take 5 (.take 6 (.take 7 (.take 10 (.take 11 (.all [(8, .take 9 (.take 12 (.take 13 (.take 14 (.done)))))]))))))))))))) (.q (.reg (.held true [] (.take 0 (.take 1 (.take 2 (.take 3 (.take 4 (.take 5 (.take 6 (.take 7 (.take 9 (.take 10 (.all [(8, .take 11 (.take 12 (.take 13 (.done))))]))))))))))))) (.q (.o 6) (.o 7)))))))) (.o 2))))))) (.q (.q (.o 5) (.k (.loop [(12, .one (.i .i64))] (.q (.reg (.seq [.it .i64 (.i .i64), .op])) (.q (.c (.l) (.l)) (.k (.q (.reg (.seq [.it .i64 (.i .i64), .op, .op])) (.o 4)))))))) (.q (.o 16) (.l))))))
def Xi.vc (a : Option Addr) (U : Hp) (R : Int -> Int -> Int -> Int -> Int -> Int -> Hp -> Prop) : Prop :=
 Wz.call a U fun t21 v =>
 If (!t21) (R 0 0 0 0 0 0 v)
 (NilP a fun a24 =>
 LdS (a24.add 0) v fun t26 =>
 Xe [(.i .i64), (.i .i64), (.i .i64), (.i .i64), (.i .i64)] (fun I => I 0 0 0 0 0 v) fun J (moved : Int) (room : Int) (tails : Int) (spans : Int) (t28 : Int) v1 =>
 If (decide (t28 < ((t26.len : Nat) : Int))) (Ix t26.a t26.len t28 3 fun a31 =>
 LdI .i64 (a31.add 0) v1 fun t32 =>
 LdI .i64 (a31.add 1) v1 fun t321 =>
 LdI .i64 (a31.add 2) v1 fun t322 =>
 Nw (.cells #[.int .i64 0, .int .i64 0, .int .i64 0] 51 (0, 0)) v1 fun n14 v2 =>
 St1 (n14.add 0) (.int .i64 t32) v2 fun v3 =>
 St1 (n14.add 1) (.int .i64 t321) v3 fun v4 =>
 St1 (n14.add 2) (.int .i64 t322) v4 fun v5 =>
 LdI .i64 (n14.add 0) v5 fun t34 =>
 LdI .i64 (n14.add 1) v5 fun t341 =>
 LdI .i64 (n14.add 2) v5 fun t342 =>
 ZI.call t34 t341 t342 v5 fun t35 t351 v6 =>
 NilP a fun a39 =>
 LdS (a39.add 5) v6 fun t41 =>
 Ix t41.a t41.len t28 1 fun a43 =>
 LdP a43 v6 fun t44 =>
 XV.call t44 v6 fun t45 v7 =>
 Held v7 fun S =>
 NilP a fun a49 =>
 LdH S .s (a49.add 6) fun (t51 : Sl) =>
 Ix t51.a t51.len t28 1 fun a53 =>
 LdH S .p a53 fun (t54 : Option Addr) =>
 LdH S (.i .i64) (n14.add 0) fun (t58 : Int) =>
 W9.call t54 v7 fun t55 v8 =>
 And (S v8) <|
 Ar .i64 (((t55.len : Nat) : Int) * t58) fun t59 =>
 Ar .i64 (moved + t59) fun moved1 =>
 Held v8 fun S1 =>
 NilP a fun a63 =>
 LdH S1 .s (a63.add 5) fun (t65 : Sl) =>
 Ix t65.a t65.len t28 1 fun a67 =>
 LdH S1 .p a67 fun (t68 : Option Addr) =>
 LdH S1 (.i .i64) (n14.add 0) fun (t71 : Int) =>
 Yp.call t68 v8 fun t69 v9 =>
 And (S1 v9) <|
 Ar .i64 (t69 * t71) fun t72 =>
 Ar .i64 (room + t72) fun room1 =>
 Ar .i64 (((t45.len : Nat) : Int) * t35) fun t77 =>
 Ar .i64 (tails + t77) fun tails1 =>
 LdI .i64 (n14.add 1) v9 fun t82 =>
 Ar .i64 (((t45.len : Nat) : Int) * t82) fun t83 =>
 Ar .i64 (spans + t83) fun spans1 =>
 Ar .i64 (t28 + 1) fun t85 =>
 J moved1 room1 tails1 spans1 t85 v9)
 (NilP a fun a87 =>
 LdM (a87.add 7) v1 fun t89 =>
 Rng .i64 (.i .i64) t89 v1 fun it v10 =>
 Xe [(.i .i64)] (fun I1 => I1 0 v10) fun J1 (runs : Int) v11 =>
 Nxt .i64 (.i .i64) it v11 (NilP a fun a104 =>
 LdP (a104.add 2) v11 fun t106 =>
 YN.call t106 v11 fun t107 v12 =>
 R moved room tails spans runs t107 v12)
 (fun key val v13 =>
 Ent .i64 (.i .i64) it v13 fun key1 val1 =>
 Ar .i64 (runs + val1) fun runs1 =>
 J1 runs1 v13)))
theorem Xi.of_vc {a U R} (hv : Xi.vc a U R) : Xi.call a U R :=
 Wa Tryz.func18 (x := Xi.hint) (Eq.mpr (by kernel_rfl) hv)
def W8.hint : Hn := .q (.o 2) (.q (.q (.o 4) (.q (.o 2) (.c (.q (.o 3) (.l)) (.l)))) (.q (.q (.o 11) (.c (.q (.o 2) (.l)) (.l))) (.q (.q (.o 3) (.k (.loop [(32, .one (.i .i64))] (.q (.o 1) (.q (.c (.l) (.l)) (.q (.k (.q (.o 3) (.q (.o 14) (.q (.reg (.seq [.op, .op, .op, .grd false 2 [.op, .op]])) (.c (.q (.o 2) (.l)) (.l)))))) (.o 2))))))) (.q (.o 13) (.l)))))
def W8.vc (a : Option Addr) (vclass : Int) (objects : Sl) (U : Hp) (R : Bool -> Int -> Hp -> Prop) : Prop :=
 W1.call a vclass U fun ve v =>
 If (ve != 0) (R false ve v)
 (NilP a fun a22 =>
 LdS (a22.add 0) v fun t24 =>
 Ix t24.a t24.len vclass 3 fun a26 =>
 LdI .i64 (a26.add 2) v fun t28 =>
 If (((objects.len : Nat) : Int) != t28) (R false 1 v)
 (Xe [(.i .i64)] (fun I => I 0 v) fun J (t32 : Int) v1 =>
 If (decide (t32 < ((objects.len : Nat) : Int))) (Ix objects.a objects.len t32 1 fun a34 =>
 LdI .i64 a34 v1 fun addr =>
 NilP a fun a38 =>
 LdS (a38.add 5) v1 fun t40 =>
 Ix t40.a t40.len vclass 1 fun a42 =>
 LdP a42 v1 fun t43 =>
 WU.call t43 addr v1 fun t45 t451 v2 =>
 JnB (fun r v3 =>
 If r (R false 8 v3)
 (Ar .i64 (t32 + 1) fun t54 =>
 J t54 v3)) fun J1 =>
 If (t451 != 0) (J1 true v2)
 (J1 (!t45) v2))
 (NilP a fun a56 =>
 LdS (a56.add 6) v1 fun t58 =>
 Ix t58.a t58.len vclass 1 fun a60 =>
 LdP a60 v1 fun t61 =>
 Xd.call t61 objects v1 fun t63 t631 v4 =>
 R t63 t631 v4)))
theorem W8.of_vc {a vclass objects U R} (hv : W8.vc a vclass objects U R) : W8.call a vclass objects U R :=
 Wa Tryz.func22 (x := W8.hint) (Eq.mpr (by kernel_rfl) hv)
def WG.hint : Hn := .q (.o 2) (.q (.q (.o 4) (.q (.o 2) (.c (.q (.o 3) (.l)) (.l)))) (.q (.o 12) (.l)))
def WG.vc (a : Option Addr) (vclass : Int) (U : Hp) (R : Sl -> Int -> Hp -> Prop) : Prop :=
 W1.call a vclass U fun ve v =>
 If (ve != 0) (R ⟨none, 0, 0⟩ ve v)
 (NilP a fun a14 =>
 LdS (a14.add 6) v fun t16 =>
 Ix t16.a t16.len vclass 1 fun a18 =>
 LdP a18 v fun t19 =>
 WF.call t19 v fun t20 t201 v1 =>
 R t20 t201 v1)
theorem WG.of_vc {a vclass U R} (hv : WG.vc a vclass U R) : WG.call a vclass U R :=
 Wa Tryz.func23 (x := WG.hint) (Eq.mpr (by kernel_rfl) hv)
def XC.hint : Hn := .q (.o 2) (.q (.k (.q (.o 4) (.c (.q (.o 2) (.l)) (.q (.o 3) (.c (.q (.o 2) (.l)) (.l)))))) (.q (.q (.o 6) (.k (.loop [(28, .one (.i .i64))] (.q (.o 1) (.q (.c (.l) (.l)) (.q (.k (.q (.o 3) (.o 4))) (.o 2))))))) (.q (.o 11) (.q (.q (.o 2) (.c (.q (.o 3) (.l)) (.l))) (.q (.o 1) (.q (.reg (.tail 10 [.op, .op, .op, .op, .op, .op, .op, .op, .op, .op] [.op, .op])) (.q (.q (.o 3) (.k (.loop [(10, .one (.i .i64)), (62, .one (.i .i64))] (.q (.o 1) (.q (.c (.l) (.l)) (.q (.k (.q (.o 4) (.q (.q (.o 3) (.k (.loop [(68, .one (.i .i64))] (.q (.o 1) (.q (.c (.l) (.l)) (.q (.k (.q (.o 3) (.o 6))) (.o 2))))))) (.o 5)))) (.o 2))))))) (.q (.o 3) (.l)))))))))
def XC.vc (a : Option Addr) (want : Int) (U : Hp) (R : Int -> Int -> Hp -> Prop) : Prop :=
 Wz.call a U fun t18 v =>
 If (!t18) (R 0 5 v)
 (If (decide (want < 0)) (R 0 1 v)
 (NilP a fun a24 =>
 LdS (a24.add 5) v fun t26 =>
 Xe [(.i .i64)] (fun I => I 0 v) fun J (t28 : Int) v1 =>
 If (decide (t28 < ((t26.len : Nat) : Int))) (Ix t26.a t26.len t28 1 fun a30 =>
 LdP a30 v1 fun l =>
 W4.call l v1 fun t34 v2 =>
 Xg.call a t34 v2 fun v3 =>
 Ar .i64 (t28 + 1) fun t36 =>
 J t36 v3)
 (NilP a fun a39 =>
 LdP (a39.add 3) v1 fun t41 =>
 Yf.call t41 want v1 fun t43 t431 v4 =>
 If (t431 != 0) (R 0 t431 v4)
 (NilP a fun a50 =>
 LdP (a50.add 3) v4 fun t52 =>
 NilP a fun a55 =>
 LdP (a55.add 1) v4 fun t57 =>
 Nw (.cells #[.func (.func 71) #[.pointer t52] #[], .func (.func 72) #[.pointer t57] #[]] 98 (0, 0)) v4 fun n59 v5 =>
 Xe [(.i .i64), (.i .i64)] (fun I1 => I1 0 0 v5) fun J1 (released : Int) (t62 : Int) v6 =>
 If (decide (t62 < ((t43.len : Nat) : Int))) (Ix t43.a t43.len t62 2 fun a64 =>
 LdI .i64 (a64.add 0) v6 fun t65 =>
 LdI .i64 (a64.add 1) v6 fun t651 =>
 Nw (.cells #[.int .i64 0, .int .i64 0] 123 (0, 0)) v6 fun n13 v7 =>
 St1 (n13.add 0) (.int .i64 t65) v7 fun v8 =>
 St1 (n13.add 1) (.int .i64 t651) v8 fun v9 =>
 Xe [(.i .i64)] (fun I2 => I2 0 v9) fun J2 (t68 : Int) v10 =>
 If (decide (t68 < ((2 : Nat) : Int))) (Ix (some n59) 2 t68 1 fun a70 =>
 LdF a70 v10 fun release =>
 LdI .i64 (n13.add 0) v10 fun t74 =>
 LdI .i64 (n13.add 1) v10 fun t76 =>
 Vv Tryz.prog release [.int .i64 t74, .int .i64 t76] [.one (.i .i64)] v10 fun t77 v11 =>
 Ar .i64 (t68 + 1) fun t78 =>
 J2 t78 v11)
 (LdI .i64 (n13.add 1) v10 fun t81 =>
 Ar .i64 (released + t81) fun released1 =>
 Ar .i64 (t62 + 1) fun t83 =>
 J1 released1 t83 v10))
 (R released 0 v6)))))
theorem XC.of_vc {a want U R} (hv : XC.vc a want U R) : XC.call a want U R :=
 Wa Tryz.func25 (x := XC.hint) (Eq.mpr (by kernel_rfl) hv)
def XN.hint : Hn := .q (.o 1) (.q (.q (.o 3) (.c (.q (.o 1) (.l)) (.l))) (.q (.o 6) (.q (.q (.o 3) (.k (.loop [(16, .one (.i .i64))] (.q (.o 1) (.q (.c (.l) (.l)) (.q (.k (.q (.o 3) (.q (.o 6) (.q (.o 7) (.o 7))))) (.o 2))))))) (.q (.o 3) (.l)))))
def XN.vc (a : Option Addr) (U : Hp) (R : Int -> Hp -> Prop) : Prop :=
 Wz.call a U fun t7 v =>
 If (!t7) (R 0 v)
 (NilP a fun a10 =>
 LdP (a10.add 3) v fun t12 =>
 Yq.call t12 v fun idle v1 =>
 Xe [(.i .i64)] (fun I => I 0 v1) fun J (t16 : Int) v2 =>
 If (decide (t16 < ((idle.len : Nat) : Int))) (Ix idle.a idle.len t16 1 fun a18 =>
 LdI .i64 a18 v2 fun vh =>
 NilP a fun a21 =>
 LdP (a21.add 3) v2 fun t23 =>
 Xn.call t23 vh v2 fun t25 v3 =>
 NilP a fun a27 =>
 LdP (a27.add 2) v3 fun t29 =>
 Ar .i64 (vh * 16) fun t31 =>
 Xv.call t29 t31 16 v3 fun t32 v4 =>
 NilP a fun a34 =>
 LdP (a34.add 1) v4 fun t36 =>
 Ar .i64 (vh * 16) fun t38 =>
 Yh.call t36 t38 16 v4 fun t39 v5 =>
 Ar .i64 (t16 + 1) fun t40 =>
 J t40 v5)
 (R ((idle.len : Nat) : Int) v2))
theorem XN.of_vc {a U R} (hv : XN.vc a U R) : XN.call a U R :=
 Wa Tryz.func26 (x := XN.hint) (Eq.mpr (by kernel_rfl) hv)
def Xh.hint : Hn := .q (.o 1) (.q (.reg (.seq [.op, .op, .op, .grd true 7 [.op, .op, .op, .op, .op, .op, .op], .op])) (.l))
def Xh.vc (a : Option Addr) (page : Int) (U : Hp) (R : Bool -> Hp -> Prop) : Prop :=
 Wz.call a U fun t6 v =>
 JnB (fun r v1 =>
 R r v1) fun J =>
 If t6 (NilP a fun a9 =>
 LdP (a9.add 3) v fun t11 =>
 XX.call t11 page v fun t13 v2 =>
 J (decide (t13 > 0)) v2)
 (J false v)
theorem Xh.of_vc {a page U R} (hv : Xh.vc a page U R) : Xh.call a page U R :=
 Wa Tryz.func28 (x := Xh.hint) (Eq.mpr (by kernel_rfl) hv)
def Yd.hint : Hn := .q (.o 3) (.q (.q (.o 3) (.c (.q (.o 3) (.l)) (.l))) (.q (.q (.o 2) (.c (.q (.o 3) (.l)) (.l))) (.q (.o 8) (.q (.q (.o 2) (.c (.q (.o 3) (.l)) (.l))) (.sjn [] (.q (.o 2) (.c (.q (.o 5) (.k (.loop [] (.q (.reg (.seq [.it .i64 (.i .i64), .op])) (.q (.c (.l) (.l)) (.k (.q (.reg (.seq [.it .i64 (.i .i64), .op, .op, .op, .op])) (.q (.o 3) (.q (.reg (.seq [.op, .op, .op, .op, .grd true 5 [.op, .op, .op, .op, .op]])) (.c (.q (.o 5) (.l)) (.l))))))))))) (.l))) (.q (.o 15) (.q (.q (.o 2) (.c (.q (.o 4) (.l)) (.l))) (.q (.o 6) (.l)))))))))
def Yd.vc (a : Option Addr) (addr : Int) (U : Hp) (R : Int -> Int -> Int -> Hp -> Prop) : Prop :=
 Wz.call a U fun t14 v =>
 If (!t14) (R 0 0 5 v)
 (If (decide (addr < 0)) (R 0 0 8 v)
 (NilP a fun a19 =>
 LdP (a19.add 4) v fun t21 =>
 Nz 256 <| Ar .i64 (addr.tdiv 256) fun t23 =>
 Yx.call t21 t23 v fun no v1 =>
 If (no == 0) (R 0 0 8 v1)
 (Jn [] (fun v2 =>
 NilP a fun a55 =>
 LdS (a55.add 5) v2 fun t57 =>
 Ar .i64 (no - 1) fun t59 =>
 Ix t57.a t57.len t59 1 fun a60 =>
 LdP a60 v2 fun t61 =>
 Yl.call t61 addr v2 fun t63 t631 v3 =>
 If (t631 != 0) (R 0 0 t631 v3)
 (Ar .i64 (no - 1) fun t70 =>
 R t70 t63 0 v3)) fun J =>
 If (no == 41) (NilP a fun a30 =>
 LdM (a30.add 7) v1 fun t32 =>
 Rng .i64 (.i .i64) t32 v1 fun it v4 =>
 Xe [] (fun I => I v4) fun J1 v5 =>
 Nxt .i64 (.i .i64) it v5 (J v5)
 (fun key val v6 =>
 Ent .i64 (.i .i64) it v6 fun key1 val1 =>
 Nz 256 <| Ar .i64 (addr.tdiv 256) fun p =>
 JnB (fun r v7 =>
 If r (Ar .i64 (key1 * 256) fun t52 =>
 R (-1) t52 0 v7)
 (J1 v7)) fun J2 =>
 If (decide (key1 <= p)) (Ar .i64 (key1 + val1) fun t48 =>
 J2 (decide (p < t48)) v6)
 (J2 false v6)))
 (J v1))))
theorem Yd.of_vc {a addr U R} (hv : Yd.vc a addr U R) : Yd.call a addr U R :=
 Wa Tryz.func29 (x := Yd.hint) (Eq.mpr (by kernel_rfl) hv)
def WR.hint : Hn := .q (.o 1) (.q (.o 10) (.q (.q (.reg (.seq [.op, .op, .op, .grd false 3 [.op, .op, .op]])) (.c (.q (.o 1) (.l)) (.l))) (.q (.q (.o 2) (.c (.q (.o 1) (.l)) (.l))) (.q (.o 14) (.q (.o 2) (.l))))))
def WR.vc (a : Option Addr) (addr : Int) (U : Hp) (R : Bool -> Hp -> Prop) : Prop :=
 Yd.call a addr U fun t13 t131 t132 v =>
 JnB (fun r v1 =>
 If r (R false v1)
 (If (decide (t13 < 0)) (R true v1)
 (NilP a fun a28 =>
 LdS (a28.add 5) v1 fun t30 =>
 Ix t30.a t30.len t13 1 fun a32 =>
 LdP a32 v1 fun t33 =>
 WU.call t33 addr v1 fun t35 t351 v2 =>
 R t35 v2))) fun J =>
 If (t132 != 0) (J true v)
 (J (t131 != addr) v)
theorem WR.of_vc {a addr U R} (hv : WR.vc a addr U R) : WR.call a addr U R :=
 Wa Tryz.func30 (x := WR.hint) (Eq.mpr (by kernel_rfl) hv)
def W0.hint : Hn := .q (.o 2) (.q (.k (.q (.o 4) (.c (.q (.o 2) (.l)) (.q (.reg (.seq [.op, .op, .op, .grd false 2 [.op, .op], .op, .grd false 2 [.op, .op], .op, .grd false 2 [.op, .op], .op, .grd false 5 [.op, .op, .op, .op, .op], .op])) (.c (.q (.o 2) (.l)) (.l)))))) (.q (.o 9) (.q (.q (.o 2) (.c (.q (.o 3) (.l)) (.l))) (.q (.o 7) (.q (.o 3) (.l))))))
def W0.vc (a : Option Addr) (pages : Int) (align : Int) (U : Hp) (R : Int -> Int -> Hp -> Prop) : Prop :=
 Wz.call a U fun t12 v =>
 If (!t12) (R 0 5 v)
 (JnB (fun r v1 =>
 JnB (fun r1 v2 =>
 JnB (fun r2 v3 =>
 JnB (fun r3 v4 =>
 If r3 (R 0 1 v4)
 (Yz.call a pages align 41 v4 fun t40 t401 v5 =>
 If (t401 != 0) (R 0 t401 v5)
 (NilP a fun a47 =>
 LdM (a47.add 7) v5 fun t49 =>
 MSet .i64 (.i .i64) t49 t40 pages v5 fun v6 =>
 R t40 0 v6))) fun J3 =>
 If r2 (J3 true v3)
 (Ar .i64 (align - 1) fun t32 =>
 J3 ((bits .and .i64 align t32) != 0) v3)) fun J2 =>
 If r1 (J2 true v2)
 (J2 (decide (align > 16)) v2)) fun J1 =>
 If r (J1 true v1)
 (J1 (decide (align < 1)) v1)) fun J =>
 If (decide (pages < 1)) (J true v)
 (J (decide (pages > 64)) v))
theorem W0.of_vc {a pages align U R} (hv : W0.vc a pages align U R) : W0.call a pages align U R :=
 Wa Tryz.func33 (x := W0.hint) (Eq.mpr (by kernel_rfl) hv)
def ZQ.hint : Hn := .q (.o 2) (.q (.q (.o 3) (.c (.q (.o 2) (.l)) (.l))) (.q (.o 3) (.q (.q (.reg (.seq [.op, .op, .op, .grd false 3 [.op, .op, .op], .op, .grd false 2 [.op, .op], .op, .grd false 2 [.op, .op]])) (.c (.q (.o 2) (.l)) (.l))) (.q (.o 8) (.q (.o 9) (.q (.o 9) (.q (.q (.o 3) (.k (.loop [(61, .one (.i .i64))] (.q (.o 1) (.q (.c (.l) (.l)) (.q (.k (.q (.o 4) (.q (.o 7) (.q (.o 9) (.reg (.heldJ true [18, 21] [] (.take 0 (.take 1 (.take 2 (.take 3 (.take 4 (.take 5 (.take 6 (.take 9 (.take 10 (.take 11 (.take 12 (.take 13 (.all [(7, .all [(8, .all [(14, .all [(15, .take 16 (.take 17 (.all [(18, .take 19 (.take 20 (.all [(21, .done)])))])))])]), (14, .all [(8, .all [(15, .take 16 (.take 17 (.all [(18, .take 19 (.take 20 (.all [(21, .done)])))])))])])]), (14, .all [(7, .all [(8, .all [(15, .take 16 (.take 17 (.all [(18, .take 19 (.take 20 (.all [(21, .done)])))])))])])])]))))))))))))))))))) (.o 2))))))) (.q (.o 3) (.l)))))))))
def ZQ.vc (table : Sl) (s : Option Addr) (room : Int) (U : Hp) (R : Option Addr -> Int -> Hp -> Prop) : Prop :=
 Zt.call table U fun t17 v =>
 If (!t17) (R none 2 v)
 (Wv.call s v fun n v1 =>
 JnB (fun r v2 =>
 JnB (fun r1 v3 =>
 JnB (fun r2 v4 =>
 If r2 (R none 1 v4)
 (Wc.call table v4 fun t37 v5 =>
 Zk.call v5 fun t39 v6 =>
 Nw (.map #[] 0) v6 fun n40 v7 =>
 Nw (.cells #[.slice t37.a t37.len t37.cap, .pointer s, .pointer none, .pointer none, .pointer t39, .slice none 0 0, .slice none 0 0, .map (some n40.block)] 76 (0, 0)) v7 fun n42 v8 =>
 Z3.call n v8 fun t46 t461 v9 =>
 NilP (some n42) fun a49 =>
 St1 (a49.add 2) (.pointer t46) v9 fun v10 =>
 Qw.call n v10 fun t54 t541 v11 =>
 NilP (some n42) fun a57 =>
 St1 (a57.add 3) (.pointer t54) v11 fun v12 =>
 Xe [(.i .i64)] (fun I => I 0 v12) fun J3 (t61 : Int) v13 =>
 If (decide (t61 < ((table.len : Nat) : Int))) (Ix table.a table.len t61 3 fun a63 =>
 LdI .i64 (a63.add 0) v13 fun t64 =>
 LdI .i64 (a63.add 1) v13 fun t641 =>
 LdI .i64 (a63.add 2) v13 fun t642 =>
 Nw (.cells #[.int .i64 0, .int .i64 0, .int .i64 0] 51 (0, 0)) v13 fun n11 v14 =>
 St1 (n11.add 0) (.int .i64 t64) v14 fun v15 =>
 St1 (n11.add 1) (.int .i64 t641) v15 fun v16 =>
 St1 (n11.add 2) (.int .i64 t642) v16 fun v17 =>
 LdI .i64 (n11.add 0) v17 fun t66 =>
 LdI .i64 (n11.add 1) v17 fun t661 =>
 LdI .i64 (n11.add 2) v17 fun t662 =>
 Zs.call t66 t661 t662 v17 fun t67 t671 v18 =>
 LdI .i64 (n11.add 2) v18 fun t72 =>
 Zj.call t72 room v18 fun t74 t741 v19 =>
 Jn [] (fun v20 =>
 Ar .i64 (t61 + 1) fun t97 =>
 J3 t97 v20) fun J4 =>
 Held v19 fun S =>
 NilP (some n42) fun a80 =>
 LdH S .s (a80.add 5) fun (t82 : Sl) =>
 NilP (some n42) fun a87 =>
 LdH S .s (a87.add 6) fun (t89 : Sl) =>
 (Nw (.cells #[.pointer t67] 110 (0, 0)) v19 fun n84 v21 =>
 And (S v21) <|
 (App t82 1 8 110 [.pointer none] ⟨(some n84), 1, 1⟩ v21 fun t85 v22 =>
 And (S v22) <|
 Nw (.cells #[.pointer t74] 112 (0, 0)) v22 fun n91 v23 =>
 And (S v23) <|
 App t89 1 8 112 [.pointer none] ⟨(some n91), 1, 1⟩ v23 fun t92 v24 =>
 And (S v24) <|
 NilP (some n42) fun a93 =>
 St1 (a93.add 5) (.slice t85.a t85.len t85.cap) v24 fun v25 =>
 NilP (some n42) fun a95 =>
 St1 (a95.add 6) (.slice t92.a t92.len t92.cap) v25 fun v26 =>
 J4 v26) ∧
 (Nw (.cells #[.pointer t74] 112 (0, 0)) v21 fun n911 v27 =>
 And (S v27) <|
 App t82 1 8 110 [.pointer none] ⟨(some n84), 1, 1⟩ v27 fun t851 v28 =>
 And (S v28) <|
 App t89 1 8 112 [.pointer none] ⟨(some n911), 1, 1⟩ v28 fun t921 v29 =>
 And (S v29) <|
 NilP (some n42) fun a931 =>
 St1 (a931.add 5) (.slice t851.a t851.len t851.cap) v29 fun v30 =>
 NilP (some n42) fun a951 =>
 St1 (a951.add 6) (.slice t921.a t921.len t921.cap) v30 fun v31 =>
 J4 v31)) ∧
 (Nw (.cells #[.pointer t74] 112 (0, 0)) v19 fun n912 v32 =>
 And (S v32) <|
 Nw (.cells #[.pointer t67] 110 (0, 0)) v32 fun n841 v33 =>
 And (S v33) <|
 App t82 1 8 110 [.pointer none] ⟨(some n841), 1, 1⟩ v33 fun t852 v34 =>
 And (S v34) <|
 App t89 1 8 112 [.pointer none] ⟨(some n912), 1, 1⟩ v34 fun t922 v35 =>
 And (S v35) <|
 NilP (some n42) fun a932 =>
 St1 (a932.add 5) (.slice t852.a t852.len t852.cap) v35 fun v36 =>
 NilP (some n42) fun a952 =>
 St1 (a952.add 6) (.slice t922.a t922.len t922.cap) v36 fun v37 =>
 J4 v37))
 (R (some n42) 0 v13))) fun J2 =>
 If r1 (J2 true v3)
 (J2 (decide (room > 8)) v3)) fun J1 =>
 If r (J1 true v2)
 (J1 (decide (room < 0)) v2)) fun J =>
 If (decide (n < 32)) (J true v1)
 (Nz 16 <|
 J ((n.tmod 16) != 0) v1))
theorem ZQ.of_vc {table s room U R} (hv : ZQ.vc table s room U R) : ZQ.call table s room U R :=
 Wa Tryz.func37 (x := ZQ.hint) (Eq.mpr (by kernel_rfl) hv)
def Yk.hint : Hn := .q (.o 1) (.q (.q (.reg (.heldJ false [] [(22, .one .b)] (.take 0 (.all [(1, .take 2 (.take 3 (.split 13 (.take 4 (.take 5 (.take 6 (.take 7 (.take 8 (.take 9 (.take 10 (.take 11 (.take 12 (.done)))))))))) (.take 4 (.take 6 (.take 7 (.take 8 (.all [(5, .all [(9, .all [(10, .take 11 (.take 12 (.done)))])]), (9, .all [(5, .all [(10, .take 11 (.take 12 (.done)))])])]))))))))])))) (.c (.q (.o 1) (.l)) (.l))) (.q (.reg (.heldJ true [] [(5, .one .p)] (.take 0 (.take 1 (.take 2 (.take 3 (.take 5 (.take 6 (.take 7 (.take 8 (.take 9 (.take 11 (.take 12 (.take 13 (.take 14 (.take 16 (.take 17 (.take 18 (.take 19 (.all [(4, .all [(10, .all [(15, .all [(20, .all [(21, .take 22 (.all [(23, .take 24 (.done))]))]), (21, .all [(20, .take 22 (.all [(23, .take 24 (.done))]))])]), (21, .all [(15, .all [(20, .take 22 (.all [(23, .take 24 (.done))]))])])]), (21, .all [(10, .all [(15, .all [(20, .take 22 (.all [(23, .take 24 (.done))]))])])])]), (21, .all [(4, .all [(10, .all [(15, .all [(20, .take 22 (.all [(23, .take 24 (.done))]))])])])])])))))))))))))))))))) (.q (.q (.o 6) (.k (.loop [(52, .one (.i .i64))] (.q (.o 1) (.q (.c (.l) (.l)) (.q (.k (.q (.o 5) (.reg (.held true [26, 29] (.take 0 (.take 1 (.take 2 (.take 3 (.take 4 (.take 5 (.take 6 (.take 10 (.take 11 (.take 12 (.take 13 (.take 14 (.take 15 (.take 16 (.take 17 (.take 18 (.take 19 (.take 20 (.all [(7, .all [(8, .all [(9, .all [(21, .all [(22, .all [(23, .take 24 (.take 25 (.all [(26, .take 27 (.take 28 (.all [(29, .done)])))])))])])])])])]))))))))))))))))))))))) (.o 2))))))) (.q (.q (.o 5) (.k (.loop [] (.q (.reg (.seq [.it .i64 (.i .i64), .op])) (.q (.c (.l) (.l)) (.k (.q (.reg (.seq [.it .i64 (.i .i64), .op, .op, .op, .op])) (.o 7)))))))) (.q (.o 2) (.l))))))
def Yk.vc (a : Option Addr) (s : Option Addr) (U : Hp) (R : Option Addr -> Hp -> Prop) : Prop :=
 Jn [.b] (fun (t22 : Bool) v =>
 If t22 (R none v)
 (Jn [.p] (fun (vx : Option Addr) v1 =>
 NilP a fun a48 =>
 LdS (a48.add 5) v1 fun t50 =>
 Xe [(.i .i64)] (fun I => I 0 v1) fun J2 (t52 : Int) v2 =>
 If (decide (t52 < ((t50.len : Nat) : Int))) (Ix t50.a t50.len t52 1 fun a55 =>
 LdP a55 v2 fun l =>
 Held v2 fun S1 =>
 NilP vx fun a60 =>
 LdH S1 .s (a60.add 5) fun (t62 : Sl) =>
 NilP vx fun a68 =>
 LdH S1 .s (a68.add 6) fun (t70 : Sl) =>
 NilP a fun a72 =>
 LdH S1 .s (a72.add 6) fun (t74 : Sl) =>
 Ix t74.a t74.len t52 1 fun a76 =>
 LdH S1 .p a76 fun (t77 : Option Addr) =>
 X1.call l v2 fun t64 v3 =>
 And (S1 v3) <|
 Nw (.cells #[.pointer t64] 110 (0, 0)) v3 fun n65 v4 =>
 And (S1 v4) <|
 App t62 1 8 110 [.pointer none] ⟨(some n65), 1, 1⟩ v4 fun t66 v5 =>
 And (S1 v5) <|
 Xq.call t77 v5 fun t78 v6 =>
 And (S1 v6) <|
 Nw (.cells #[.pointer t78] 112 (0, 0)) v6 fun n79 v7 =>
 And (S1 v7) <|
 App t70 1 8 112 [.pointer none] ⟨(some n79), 1, 1⟩ v7 fun t80 v8 =>
 And (S1 v8) <|
 NilP vx fun a81 =>
 St1 (a81.add 5) (.slice t66.a t66.len t66.cap) v8 fun v9 =>
 NilP vx fun a83 =>
 St1 (a83.add 6) (.slice t80.a t80.len t80.cap) v9 fun v10 =>
 Ar .i64 (t52 + 1) fun t85 =>
 J2 t85 v10)
 (NilP a fun a87 =>
 LdM (a87.add 7) v2 fun t89 =>
 Rng .i64 (.i .i64) t89 v2 fun it v11 =>
 Xe [] (fun I1 => I1 v11) fun J3 v12 =>
 Nxt .i64 (.i .i64) it v12 (R vx v12)
 (fun key val v13 =>
 Ent .i64 (.i .i64) it v13 fun key1 val1 =>
 NilP vx fun a97 =>
 LdM (a97.add 7) v13 fun t99 =>
 MSet .i64 (.i .i64) t99 key1 val1 v13 fun v14 =>
 J3 v14))) fun J1 =>
 Held v fun S =>
 NilP a fun a24 =>
 LdH S .s (a24.add 0) fun (t26 : Sl) =>
 NilP a fun a30 =>
 LdH S .p (a30.add 2) fun (t32 : Option Addr) =>
 NilP a fun a35 =>
 LdH S .p (a35.add 3) fun (t37 : Option Addr) =>
 NilP a fun a40 =>
 LdH S .p (a40.add 4) fun (t42 : Option Addr) =>
 (Wc.call t26 v fun t27 v15 =>
 And (S v15) <|
 (XK.call t32 v15 fun t33 v16 =>
 And (S v16) <|
 (W7.call t37 v16 fun t38 v17 =>
 And (S v17) <|
 (W6.call t42 v17 fun t43 v18 =>
 And (S v18) <|
 Nw (.map #[] 0) v18 fun n44 v19 =>
 And (S v19) <|
 Nw (.cells #[.slice t27.a t27.len t27.cap, .pointer s, .pointer t33, .pointer t38, .pointer t43, .slice none 0 0, .slice none 0 0, .map (some n44.block)] 76 (0, 0)) v19 fun n46 v20 =>
 And (S v20) <|
 J1 (some n46) v20) ∧
 (Nw (.map #[] 0) v17 fun n441 v21 =>
 And (S v21) <|
 W6.call t42 v21 fun t431 v22 =>
 And (S v22) <|
 Nw (.cells #[.slice t27.a t27.len t27.cap, .pointer s, .pointer t33, .pointer t38, .pointer t431, .slice none 0 0, .slice none 0 0, .map (some n441.block)] 76 (0, 0)) v22 fun n461 v23 =>
 And (S v23) <|
 J1 (some n461) v23)) ∧
 (Nw (.map #[] 0) v16 fun n442 v24 =>
 And (S v24) <|
 W7.call t37 v24 fun t381 v25 =>
 And (S v25) <|
 W6.call t42 v25 fun t432 v26 =>
 And (S v26) <|
 Nw (.cells #[.slice t27.a t27.len t27.cap, .pointer s, .pointer t33, .pointer t381, .pointer t432, .slice none 0 0, .slice none 0 0, .map (some n442.block)] 76 (0, 0)) v26 fun n462 v27 =>
 And (S v27) <|
 J1 (some n462) v27)) ∧
 (Nw (.map #[] 0) v15 fun n443 v28 =>
 And (S v28) <|
 XK.call t32 v28 fun t331 v29 =>
 And (S v29) <|
 W7.call t37 v29 fun t382 v30 =>
 And (S v30) <|
 W6.call t42 v30 fun t433 v31 =>
 And (S v31) <|
 Nw (.cells #[.slice t27.a t27.len t27.cap, .pointer s, .pointer t331, .pointer t382, .pointer t433, .slice none 0 0, .slice none 0 0, .map (some n443.block)] 76 (0, 0)) v31 fun n463 v32 =>
 And (S v32) <|
 J1 (some n463) v32)) ∧
 (Nw (.map #[] 0) v fun n444 v33 =>
 And (S v33) <|
 Wc.call t26 v33 fun t271 v34 =>
 And (S v34) <|
 XK.call t32 v34 fun t332 v35 =>
 And (S v35) <|
 W7.call t37 v35 fun t383 v36 =>
 And (S v36) <|
 W6.call t42 v36 fun t434 v37 =>
 And (S v37) <|
 Nw (.cells #[.slice t271.a t271.len t271.cap, .pointer s, .pointer t332, .pointer t383, .pointer t434, .slice none 0 0, .slice none 0 0, .map (some n444.block)] 76 (0, 0)) v37 fun n464 v38 =>
 And (S v38) <|
 J1 (some n464) v38))) fun J =>
 Wz.call a U fun t11 v39 =>
 If (!t11) (J true v39)
 (NilP a fun a17 =>
 (Wv.call s v39 fun t15 v40 =>
 LdP (a17.add 1) v40 fun t19 =>
 Wv.call t19 v40 fun t20 v41 =>
 J (t15 != t20) v41) ∧
 (LdP (a17.add 1) v39 fun t191 =>
 Wv.call s v39 fun t151 v42 =>
 Wv.call t191 v42 fun t201 v43 =>
 J (t151 != t201) v43))
theorem Yk.of_vc {a s U R} (hv : Yk.vc a s U R) : Yk.call a s U R :=
 Wa Tryz.func40 (x := Yk.hint) (Eq.mpr (by kernel_rfl) hv)
def XJ.hint : Hn := .q (.o 1) (.q (.q (.o 4) (.q (.o 2) (.c (.q (.o 2) (.l)) (.l)))) (.q (.o 17) (.q (.q (.o 2) (.c (.q (.o 2) (.l)) (.l))) (.q (.o 10) (.l)))))
def XJ.vc (a : Option Addr) (vclass : Int) (U : Hp) (R : Int -> Hp -> Prop) : Prop :=
 W1.call a vclass U fun ve v =>
 If (ve != 0) (R ve v)
 (NilP a fun a17 =>
 LdS (a17.add 0) v fun t19 =>
 Ix t19.a t19.len vclass 3 fun a21 =>
 LdI .i64 (a21.add 1) v fun t23 =>
 Ar .i64 (vclass + 1) fun t25 =>
 Yz.call a t23 1 t25 v fun t26 t261 v1 =>
 If (t261 != 0) (R t261 v1)
 (NilP a fun a33 =>
 LdS (a33.add 5) v1 fun t35 =>
 Ix t35.a t35.len vclass 1 fun a37 =>
 LdP a37 v1 fun t38 =>
 YF.call t38 t26 v1 fun t40 v2 =>
 R t40 v2))
theorem XJ.of_vc {a vclass U R} (hv : XJ.vc a vclass U R) : XJ.call a vclass U R :=
 Wa Tryz.func52 (x := XJ.hint) (Eq.mpr (by kernel_rfl) hv)
def Wy.hint : Hn := .q (.o 2) (.q (.q (.o 4) (.q (.o 2) (.c (.q (.o 3) (.l)) (.l)))) (.q (.o 13) (.l)))
def Wy.vc (a : Option Addr) (vclass : Int) (many : Int) (U : Hp) (R : Sl -> Int -> Hp -> Prop) : Prop :=
 W1.call a vclass U fun ve v =>
 If (ve != 0) (R ⟨none, 0, 0⟩ ve v)
 (NilP a fun a16 =>
 LdS (a16.add 5) v fun t18 =>
 Ix t18.a t18.len vclass 1 fun a20 =>
 LdP a20 v fun t21 =>
 Xf.call t21 many v fun t23 t231 v1 =>
 R t23 t231 v1)
theorem Wy.of_vc {a vclass many U R} (hv : Wy.vc a vclass many U R) : Wy.call a vclass many U R :=
 Wa Tryz.func53 (x := Wy.hint) (Eq.mpr (by kernel_rfl) hv)
def WZ.hint : Hn := .q (.o 1) (.q (.q (.o 3) (.c (.q (.o 1) (.l)) (.l))) (.q (.o 11) (.q (.q (.o 2) (.c (.q (.o 1) (.l)) (.l))) (.q (.o 6) (.q (.o 6) (.q (.o 1) (.l)))))))
def WZ.vc (a : Option Addr) (start : Int) (U : Hp) (R : Int -> Hp -> Prop) : Prop :=
 Wz.call a U fun t8 v =>
 If (!t8) (R 5 v)
 (NilP a fun a12 =>
 LdM (a12.add 7) v fun t14 =>
 Lk .i64 (.i .i64) t14 start v fun t16 =>
 If (!t16.isSome) (R 8 v)
 (NilP a fun a22 =>
 LdM (a22.add 7) v fun t24 =>
 MDel .i64 (.i .i64) t24 start v fun v1 =>
 Nw (.cells #[.int .i64 start, .int .i64 (t16.getD 0)] 123 (0, 0)) v1 fun n30 v2 =>
 Xg.call a ⟨(some n30), 1, 1⟩ v2 fun v3 =>
 R 0 v3))
theorem WZ.of_vc {a start U R} (hv : WZ.vc a start U R) : WZ.call a start U R :=
 Wa Tryz.func54 (x := WZ.hint) (Eq.mpr (by kernel_rfl) hv)
def WD.hint : Hn := .q (.o 1) (.q (.q (.o 4) (.q (.o 2) (.c (.q (.o 2) (.l)) (.l)))) (.q (.o 14) (.q (.q (.o 2) (.c (.q (.o 2) (.l)) (.l))) (.q (.o 3) (.q (.o 1) (.l))))))
def WD.vc (a : Option Addr) (vclass : Int) (objects : Sl) (U : Hp) (R : Int -> Hp -> Prop) : Prop :=
 W1.call a vclass U fun ve v =>
 If (ve != 0) (R ve v)
 (NilP a fun a18 =>
 LdS (a18.add 5) v fun t20 =>
 Ix t20.a t20.len vclass 1 fun a22 =>
 LdP a22 v fun t23 =>
 YE.call t23 objects v fun t25 t251 v1 =>
 If (t251 != 0) (R t251 v1)
 (Xg.call a t25 v1 fun v2 =>
 R 0 v2))
theorem WD.of_vc {a vclass objects U R} (hv : WD.vc a vclass objects U R) : WD.call a vclass objects U R :=
 Wa Tryz.func55 (x := WD.hint) (Eq.mpr (by kernel_rfl) hv)
def Wz.hint : Hn := .q (.o 1) (.q (.reg (.seq [.op, .op, .op, .grd true 5 [.op, .op, .op, .op, .op], .op])) (.l))
def Wz.vc (a : Option Addr) (U : Hp) (R : Bool -> Hp -> Prop) : Prop :=
 JnB (fun r v =>
 R r v) fun J =>
 If (!a.isNone) (NilP a fun a7 =>
 LdP (a7.add 1) U fun t9 =>
 J (!t9.isNone) U)
 (J false U)
theorem Wz.of_vc {a U R} (hv : Wz.vc a U R) : Wz.call a U R :=
 Wa Tryz.func57 (x := Wz.hint) (Eq.mpr (by kernel_rfl) hv)
def W1.hint : Hn := .q (.o 1) (.q (.k (.q (.o 4) (.c (.q (.o 1) (.l)) (.q (.reg (.seq [.op, .op, .op, .grd false 7 [.op, .op, .op, .op, .op, .op, .op], .op])) (.c (.q (.o 1) (.l)) (.l)))))) (.q (.o 1) (.l)))
def W1.vc (a : Option Addr) (vclass : Int) (U : Hp) (R : Int -> Hp -> Prop) : Prop :=
 Wz.call a U fun t7 v =>
 If (!t7) (R 5 v)
 (JnB (fun r v1 =>
 If r (R 1 v1)
 (R 0 v1)) fun J =>
 If (decide (vclass < 0)) (J true v)
 (NilP a fun a15 =>
 LdS (a15.add 0) v fun t17 =>
 J (decide (vclass ≥ ((t17.len : Nat) : Int))) v))
theorem W1.of_vc {a vclass U R} (hv : W1.vc a vclass U R) : W1.call a vclass U R :=
 Wa Tryz.func64 (x := W1.hint) (Eq.mpr (by kernel_rfl) hv)
def Xg.hint : Hn := .q (.o 3) (.k (.loop [(8, .one (.i .i64))] (.q (.o 1) (.q (.c (.l) (.l)) (.q (.k (.q (.o 4) (.q (.reg (.tail 8 [.op, .op, .op, .op, .op, .op, .op, .op] [.op])) (.q (.reg (.tail 8 [.op, .op, .op, .op, .op, .op, .op, .op] [.op])) (.reg (.tail 8 [.op, .op, .op, .op, .op, .op, .op, .op] [.op])))))) (.o 2))))))
def Xg.vc (a : Option Addr) (runs : Sl) (U : Hp) (R : Hp -> Prop) : Prop :=
 Xe [(.i .i64)] (fun I => I 0 U) fun J (t8 : Int) v =>
 If (decide (t8 < ((runs.len : Nat) : Int))) (Ix runs.a runs.len t8 2 fun a10 =>
 LdI .i64 (a10.add 0) v fun t11 =>
 LdI .i64 (a10.add 1) v fun t111 =>
 Nw (.cells #[.int .i64 0, .int .i64 0] 123 (0, 0)) v fun n5 v1 =>
 St1 (n5.add 0) (.int .i64 t11) v1 fun v2 =>
 St1 (n5.add 1) (.int .i64 t111) v2 fun v3 =>
 NilP a fun a13 =>
 LdP (a13.add 4) v3 fun t15 =>
 LdI .i64 (n5.add 0) v3 fun t17 =>
 LdI .i64 (n5.add 1) v3 fun t19 =>
 XO.call t15 t17 t19 v3 fun t20 v4 =>
 NilP a fun a22 =>
 LdP (a22.add 3) v4 fun t24 =>
 LdI .i64 (n5.add 0) v4 fun t26 =>
 LdI .i64 (n5.add 1) v4 fun t28 =>
 Xz.call t24 t26 t28 v4 fun t29 v5 =>
 NilP a fun a31 =>
 LdP (a31.add 2) v5 fun t33 =>
 LdI .i64 (n5.add 0) v5 fun t35 =>
 LdI .i64 (n5.add 1) v5 fun t37 =>
 Yb.call t33 t35 t37 v5 fun t38 v6 =>
 Ar .i64 (t8 + 1) fun t39 =>
 J t39 v6)
 (R v)
theorem Xg.of_vc {a runs U R} (hv : Xg.vc a runs U R) : Xg.call a runs U R :=
 Wa Tryz.func68 (x := Xg.hint) (Eq.mpr (by kernel_rfl) hv)
def Yz.hint : Hn := .q (.o 2) (.q (.o 12) (.sjn [(10, .one (.i .i64)), (11, .one (.i .i64))] (.q (.o 2) (.c (.q (.o 1) (.q (.k (.loop [(12, .one (.i .i64))] (.q (.q (.o 5) (.c (.l) (.l))) (.k (.o 3))))) (.q (.q (.o 4) (.c (.q (.o 2) (.l)) (.l))) (.o 12)))) (.l))) (.q (.q (.o 2) (.c (.q (.o 3) (.l)) (.l))) (.q (.o 7) (.q (.o 8) (.q (.o 3) (.l)))))))
def Yz.vc (a : Option Addr) (pages : Int) (align : Int) (no : Int) (U : Hp) (R : Int -> Int -> Hp -> Prop) : Prop :=
 NilP a fun a15 =>
 LdP (a15.add 2) U fun t17 =>
 XT.call t17 pages align U fun t20 t201 v =>
 Jn [(.i .i64), (.i .i64)] (fun (start : Int) (ve : Int) v1 =>
 If (ve != 0) (R 0 ve v1)
 (NilP a fun a50 =>
 LdP (a50.add 3) v1 fun t52 =>
 XL.call t52 start pages v1 fun t55 v2 =>
 NilP a fun a57 =>
 LdP (a57.add 4) v2 fun t59 =>
 X3.call t59 start pages no v2 fun t63 v3 =>
 R start 0 v3)) fun J =>
 If (t201 == 6) (Xe [(.i .i64)] (fun I => I 16 v) fun J1 (size : Int) v4 =>
 If (decide (size < (if align > pages then align else pages))) (Ar .i64 (size * 2) fun size1 =>
 J1 size1 v4)
 (YD.call a size v4 fun t34 v5 =>
 If (!t34) (R 0 6 v5)
 (NilP a fun a38 =>
 LdP (a38.add 2) v5 fun t40 =>
 XT.call t40 pages align v5 fun t43 t431 v6 =>
 J t43 t431 v6)))
 (J t20 t201 v)
theorem Yz.of_vc {a pages align no U R} (hv : Yz.vc a pages align no U R) : Yz.call a pages align no U R :=
 Wa Tryz.func82 (x := Yz.hint) (Eq.mpr (by kernel_rfl) hv)
def YD.hint : Hn := .q (.o 1) (.q (.q (.o 2) (.k (.loop [(5, .one (.i .i64))] (.q (.q (.o 9) (.c (.l) (.l))) (.q (.k (.q (.q (.o 8) (.c (.l) (.l))) (.q (.q (.o 3) (.k (.loop [(6, .one (.i .i64))] (.q (.q (.o 6) (.c (.l) (.l))) (.q (.k (.o 6)) (.o 3)))))) (.q (.o 7) (.q (.o 1) (.l)))))) (.o 4)))))) (.q (.o 1) (.l)))
def YD.vc (a : Option Addr) (pages : Int) (U : Hp) (R : Bool -> Hp -> Prop) : Prop :=
 Xe [(.i .i64)] (fun I => I pages U) fun J (start : Int) v =>
 Ar .i64 (start + pages) fun t10 =>
 NilP a fun a12 =>
 LdP (a12.add 1) v fun t14 =>
 Wv.call t14 v fun t15 v1 =>
 If (decide (t10 <= t15)) (NilP a fun a21 =>
 LdP (a21.add 1) v1 fun t23 =>
 YI.call t23 start pages v1 fun t26 v2 =>
 If (t26 != 0) (Ar .i64 (start + pages) fun start1 =>
 J start1 v2)
 (Nz 16 <| Ar .i64 (start.tdiv 16) fun vh =>
 Xe [(.i .i64)] (fun I1 => I1 vh v2) fun J1 (vh1 : Int) v3 =>
 Ar .i64 (start + pages) fun t33 =>
 Nz 16 <| Ar .i64 (t33.tdiv 16) fun t34 =>
 If (decide (vh1 < t34)) (NilP a fun a39 =>
 LdP (a39.add 3) v3 fun t41 =>
 Ya.call t41 vh1 v3 fun t43 v4 =>
 Ar .i64 (vh1 + 1) fun vh2 =>
 J1 vh2 v4)
 (NilP a fun a45 =>
 LdP (a45.add 2) v3 fun t47 =>
 Yb.call t47 start pages v3 fun t50 v5 =>
 R true v5)))
 (R false v1)
theorem YD.of_vc {a pages U R} (hv : YD.vc a pages U R) : YD.call a pages U R :=
 Wa Tryz.func167 (x := YD.hint) (Eq.mpr (by kernel_rfl) hv)
def YG.hint : Hn := .q (.q (.o 3) (.c (.l) (.l))) (.q (.o 6) (.k (.loop [(14, .one (.i .i64))] (.q (.o 1) (.q (.c (.l) (.l)) (.q (.k (.q (.o 5) (.q (.o 4) (.k (.loop [(22, .one (.i .i64))] (.q (.o 1) (.q (.c (.l) (.l)) (.q (.k (.q (.o 3) (.o 4))) (.o 2))))))))) (.o 2)))))))
def YG.vc (a : Option Addr) (U : Hp) (R : Hp -> Prop) : Prop :=
 Wz.call a U fun t7 v =>
 If (!t7) (R v)
 (NilP a fun a10 =>
 LdS (a10.add 6) v fun t12 =>
 Xe [(.i .i64)] (fun I => I 0 v) fun J (t14 : Int) v1 =>
 If (decide (t14 < ((t12.len : Nat) : Int))) (Ix t12.a t12.len t14 1 fun a17 =>
 LdP a17 v1 fun t =>
 Xm.call t v1 fun t20 v2 =>
 Xe [(.i .i64)] (fun I1 => I1 0 v2) fun J1 (t22 : Int) v3 =>
 If (decide (t22 < ((t20.len : Nat) : Int))) (Ix t20.a t20.len t22 1 fun a24 =>
 LdS a24 v3 fun batch =>
 WD.call a t14 batch v3 fun t29 v4 =>
 Ar .i64 (t22 + 1) fun t30 =>
 J1 t30 v4)
 (Ar .i64 (t14 + 1) fun t31 =>
 J t31 v3))
 (R v1))
theorem YG.of_vc {a U R} (hv : YG.vc a U R) : YG.call a U R :=
 Wa Tryz.func186 (x := YG.hint) (Eq.mpr (by kernel_rfl) hv)
end Go.Proofs
namespace Go.Ar
open Go Go.Vc Go.Proofs
open Go.Bu (XA Zg Xj cnt)


inductive Lb where
 | hd | tab | free | trk | own | crow | trow | runs
 | cen (k : Nat)
 | tra (k : Nat)
 deriving DecidableEq
structure Lay where
 p : Nat
 hs : Nat
 fr : Nat
 tr : Nat
 op : Nat
 rn : Nat
 tab : Sl
 crow : Sl
 trow : Sl
 cps : List Nat
 tps : List Nat
def hdV (Y : Lay) : List Value := [.slice Y.tab.a Y.tab.len Y.tab.cap, .pointer (some ⟨Y.hs, 0, none⟩), .pointer (some ⟨Y.fr, 0, none⟩), .pointer (some ⟨Y.tr, 0, none⟩), .pointer (some ⟨Y.op, 0, none⟩), .slice Y.crow.a Y.crow.len Y.crow.cap, .slice Y.trow.a Y.trow.len Y.trow.cap, .map (some Y.rn)]
def tabV (tb : List Cls) : List Value := tb.flatMap fun c => [.int .i64 (c.size : Int), .int .i64 (c.pages : Int), .int .i64 (c.batch : Int)]
def ptrV (l : List Nat) : List Value := l.map fun b => .pointer (some ⟨b, 0, none⟩)
def runI (l : List (Nat × Nat)) : List (Int × Int) := l.map fun r => ((r.1 : Int), (r.2 : Int))
def U4 (p n : Nat) (S : Nat -> Bool) : Hp -> Rg -> Prop := fun U F => ∃ sb ms, Go.Bu.BH U p n S sb ms /\ ∀ b, Go.Bu.fp p sb ms b -> F b
def TrkR (p : Nat) (st : List Nat) : Hp -> Rg -> Prop := fun U F => ∃ q, TrH U p q st /\ F p /\ F q
def CenR (p : Option Nat) (c : Option Cls) (ss : Option (List SpA)) : Hp -> Rg -> Prop := fun U F => match p, c, ss with
 | some p, some c, some ss => ∃ ps, CeH U F p c ps ss
 | _, _, _ => True
def TraR (p : Option Nat) (c : Option Cls) (room : Nat) (t : Option TrA) : Hp -> Rg -> Prop := fun U F => match p, c, t with
 | some p, some c, some t => TfH U F p c.batch room t
 | _, _, _ => True
def AC (A : AR) (Y : Lay) (T : Nat -> Hp -> Rg -> Prop) : Lb -> Hp -> Rg -> Prop
 | .hd => BlkR Y.p (hdV Y)
 | .tab => SlR Y.tab 3 (tabV A.tb)
 | .free => U4 Y.fr A.n A.S
 | .trk => TrkR Y.tr A.st
 | .own => fun U F => PmH U F Y.op A.ow
 | .crow => RowR Y.crow 1 (ptrV Y.cps)
 | .trow => RowR Y.trow 1 (ptrV Y.tps)
 | .runs => MapR Y.rn .i64 (.i .i64) (runI A.runs)
 | .cen k => CenR Y.cps[k]? A.tb[k]? A.cen[k]?
 | .tra k => T k
def traT (A : AR) (Y : Lay) (k : Nat) : Hp -> Rg -> Prop := TraR Y.tps[k]? A.tb[k]? A.room A.tra[k]?
theorem U4.loc (p n : Nat) (S : Nat -> Bool) : Lcl (U4 p n S) := by
 rintro U σ' F G ⟨sb, ms, h, hf⟩ hz hs
 have hlt : ∀ b, Go.Bu.fp p sb ms b -> b < U.size := fun b hb => by
  unfold Go.Bu.fp at hb
  rcases List.mem_cons.1 hb with h1 | h1
  ·obtain ⟨c, hc⟩ := h.hd; rw [h1]; exact hc.lt
  rcases List.mem_cons.1 h1 with h2 | h2
  ·obtain ⟨c, hc⟩ := h.row; rw [h2]; exact hc.lt
  ·obtain ⟨k, hk⟩ := List.getElem?_of_mem h2
   obtain ⟨B, hB, _⟩ := h.maps k b hk
   exact hB.lt
 have e : Ext (fun b => ¬ Go.Bu.fp p sb ms b) U σ' := ⟨hz, fun b hb hf' => (hs b hb (hf b (Classical.not_not.1 hf'))).2⟩
 exact ⟨sb, ms, h.keep e fun b hb hn => hn hb, fun b hb => (hs b (hlt b hb) (hf b hb)).1⟩
theorem TrkR.loc (p : Nat) (st : List Nat) : Lcl (TrkR p st) := by
 rintro U σ' F G ⟨q, h, hp, hq⟩ hz hs
 have e : Ext (fun b => b ≠ p /\ b ≠ q) U σ' := ⟨hz, fun b hb hf => by
  by_cases h1 : b = p
  ·subst h1; exact (hs b hb hp).2
  ·have h2 : b = q := Classical.byContradiction fun h2 => hf ⟨h1, h2⟩
   subst h2; exact (hs b hb hq).2⟩
 exact ⟨q, h.keep e (fun hx => hx.1 rfl) (fun hx => hx.2 rfl), (hs p h.lt.1 hp).1, (hs q h.lt.2 hq).1⟩
theorem CenR.loc (p : Option Nat) (c : Option Cls) (ss : Option (List SpA)) : Lcl (CenR p c ss) := by
 rintro U σ' F G h hz hs
 unfold CenR at *
 split
 ·simp only at h
  obtain ⟨ps, h⟩ := h
  exact ⟨ps, CeH.loc _ _ _ _ h hz hs⟩
 ·trivial
theorem TraR.loc (p : Option Nat) (c : Option Cls) (room : Nat) (t : Option TrA) : Lcl (TraR p c room t) := by
 rintro U σ' F G h hz hs
 unfold TraR at *
 split
 ·exact TfH.loc _ _ _ _ h hz hs
 ·trivial
theorem AC.loc {A : AR} {Y : Lay} {T : Nat -> Hp -> Rg -> Prop} (hT : ∀ k, Lcl (T k)) : ∀ i, Lcl (AC A Y T i)
 | .hd => BlkR.loc _ _
 | .tab => SlR.loc _ _ _
 | .free => U4.loc _ _ _
 | .trk => TrkR.loc _ _
 | .own => PmH.loc
 | .crow => RowR.loc _ _ _
 | .trow => RowR.loc _ _ _
 | .runs => MapR.loc _ _ _ _
 | .cen k => CenR.loc _ _ _
 | .tra k => hT k
theorem traT.loc {A : AR} {Y : Lay} (k : Nat) : Lcl (traT A Y k) := TraR.loc _ _ _ _
structure LayOk (A : AR) (Y : Lay) : Prop where
 c : Y.cps.length = A.tb.length
 t : Y.tps.length = A.tb.length
 cen : A.cen.length = A.tb.length
 tra : A.tra.length = A.tb.length
 tb1 : 1 <= A.tb.length
 tb2 : A.tb.length <= 40
 n1 : 32 <= A.n
 n2 : A.n <= 1024
 n3 : A.n % 16 = 0
 st : A.st.length = A.n
 room : A.room <= 8
 ok : ∀ c ∈ A.tb, c.ok
structure AHY (U : Hp) (F : Rg) (Y : Lay) (A : AR) (T : Nat -> Hp -> Rg -> Prop) : Prop where
 lay : LayOk A Y
 tl : ∀ k, Lcl (T k)
 sep : Sep (AC A Y T) U F
def AH (U : Hp) (F : Rg) (p hs : Nat) (A : AR) : Prop := ∃ Y : Lay, Y.p = p /\ Y.hs = hs /\ AHY U F Y A (traT A Y)
variable {U : Hp} {F : Rg} {p hs : Nat} {A : AR} {Y : Lay} {T : Nat -> Hp -> Rg -> Prop}
theorem AHY.loc : Lcl fun U F => AHY U F Y A T := fun U σ' F G h hz hs => ⟨h.lay, h.tl, Sep.loc (AC.loc h.tl) _ _ _ _ h.sep hz hs⟩
theorem AH.loc : Lcl fun U F => AH U F p hs A := fun U σ' F G ⟨Y, h1, h2, h⟩ hz hs => ⟨Y, h1, h2, AHY.loc _ _ _ _ h hz hs⟩
theorem AHY.keep0 {σ' : Hp} (h : AHY U F Y A T) (e : Ext0 U σ') : AHY σ' F Y A T := Lcl.keep0 AHY.loc h e
theorem AHY.hd (h : AHY U F Y A T) : Blk U Y.p (hdV Y) := by
 obtain ⟨G, hG, hp, hb⟩ := h.sep.get .hd
 exact hb
theorem Va (tb : List Cls) : (tabV tb).length = tb.length * 3 := by
 induction tb with
 | nil => rfl
 | cons x l ih => simp only [tabV, List.flatMap_cons, List.length_append, List.length_cons, List.length_nil] at *; omega
theorem GX {tb : List Cls} {i : Nat} {c : Cls} (h : tb[i]? = some c) : (tabV tb)[3 * i]? = some (.int .i64 (c.size : Int)) /\ (tabV tb)[3 * i + 1]? = some (.int .i64 (c.pages : Int)) /\ (tabV tb)[3 * i + 2]? = some (.int .i64 (c.batch : Int)) := by
 induction tb generalizing i with
 | nil => simp at h
 | cons x l ih =>
  have e : tabV (x :: l) = [.int .i64 (x.size : Int), .int .i64 (x.pages : Int), .int .i64 (x.batch : Int)] ++ tabV l := by simp [tabV]
  rw [e]
  cases i with
  | zero => simp at h; subst h; simp
  | succ i =>
   have := ih (i := i) (by simpa using h)
   rw [show 3 * (i + 1) = 3 * i + 3 by omega]
   simpa using this
theorem AHY.tabL (h : AHY U F Y A T) : Y.tab.len = A.tb.length := by
 obtain ⟨G, hG, hb⟩ := h.sep.get .tab
 have := hb.1
 rw [Va] at this; omega
theorem Wio {s : Sl} {tb : List Cls} (h : SlR s 3 (tabV tb) U F) {k d : Nat} {c : Cls} (hc : tb[k]? = some c) (hd : d < 3) {K : Int -> Prop} (hK : K (if d = 0 then c.size else if d = 1 then c.pages else c.batch : Nat)) :
 Ix s.a s.len (k : Int) 3 fun a => LdI .i64 (a.add d) U K := by
 have hg := GX hc
 have hv : (tabV tb)[3 * k + d]? = some (.int .i64 ((if d = 0 then c.size else if d = 1 then c.pages else c.batch : Nat) : Int)) := by
  match d, hd with
  | 0, _ => exact hg.1
  | 1, _ => exact hg.2.1
  | 2, _ => exact hg.2.2
 have hk := (gSi.1 hc).1
 obtain ⟨b, o, ha, hcell⟩ := h.cell hv
 have hl := h.1
 rw [Va] at hl
 rw [ha]
 refine ix (by omega) (by omega) ?_
 rw [add_lit, add_lit]
 refine ldI ?_ hK
 rw [show o + (k : Int).toNat * 3 + d = o + (3 * k + d) by omega]; exact hcell
theorem AHY.tabR (h : AHY U F Y A T) {k d : Nat} {c : Cls} (hc : A.tb[k]? = some c) (hd : d < 3) {K : Int -> Prop} (hK : K (if d = 0 then c.size else if d = 1 then c.pages else c.batch : Nat)) :
 Ix Y.tab.a Y.tab.len (k : Int) 3 fun a => LdI .i64 (a.add d) U K := by
 obtain ⟨G, hG, hb⟩ := h.sep.get .tab
 exact Wio hb hc hd hK
theorem Wdr {s : Sl} {l : List Nat} (h : SlR s 1 (ptrV l) U F) {k q : Nat} (hq : l[k]? = some q) {K : Option Addr -> Prop} (hK : K (some ⟨q, 0, none⟩)) : Ix s.a s.len (k : Int) 1 fun a => LdP a U K := by
 have hk := (gSi.1 hq).1
 obtain ⟨b, o, ha, hcell⟩ := h.cell (j := k) (v := .pointer (some ⟨q, 0, none⟩)) (by simp [ptrV, hq])
 have hl := h.1
 simp [ptrV] at hl
 rw [ha]
 refine ix (by omega) (by omega) ?_
 rw [add_lit]
 exact ldP (by rw [show o + (k : Int).toNat * 1 = o + k by omega]; exact hcell) hK
theorem AHY.crowL (h : AHY U F Y A T) : Y.crow.len = A.tb.length := by
 obtain ⟨G, hG, hb⟩ := h.sep.get .crow
 have := hb.1
 have := h.lay.c
 simp [ptrV] at *; omega
theorem AHY.trowL (h : AHY U F Y A T) : Y.trow.len = A.tb.length := by
 obtain ⟨G, hG, hb⟩ := h.sep.get .trow
 have := hb.1
 have := h.lay.t
 simp [ptrV] at *; omega
theorem AHY.crowR (h : AHY U F Y A T) {k q : Nat} (hq : Y.cps[k]? = some q) {K : Option Addr -> Prop} (hK : K (some ⟨q, 0, none⟩)) : Ix Y.crow.a Y.crow.len (k : Int) 1 fun a => LdP a U K := by
 obtain ⟨G, hG, hb⟩ := h.sep.get .crow
 exact Wdr (RowR.slR hb) hq hK
theorem AHY.trowR (h : AHY U F Y A T) {k q : Nat} (hq : Y.tps[k]? = some q) {K : Option Addr -> Prop} (hK : K (some ⟨q, 0, none⟩)) : Ix Y.trow.a Y.trow.len (k : Int) 1 fun a => LdP a U K := by
 obtain ⟨G, hG, hb⟩ := h.sep.get .trow
 exact Wdr (RowR.slR hb) hq hK
theorem AHY.at_ (h : AHY U F Y A T) {k : Nat} (hk : k < A.tb.length) : ∃ c ss q t r, A.tb[k]? = some c /\ A.cen[k]? = some ss /\ Y.cps[k]? = some q /\ A.tra[k]? = some t /\ Y.tps[k]? = some r /\ c.ok := by
 have h1 := h.lay.c; have h2 := h.lay.t; have h3 := h.lay.cen; have h4 := h.lay.tra
 exact ⟨A.tb[k], A.cen[k], Y.cps[k], A.tra[k], Y.tps[k], by simp, by simp, by simp, by simp, by simp, h.lay.ok _ (List.getElem_mem hk)⟩
theorem WiX {k q : Nat} {c : Cls} {ss : List SpA} {G : Rg} (h1 : Y.cps[k]? = some q) (h2 : A.tb[k]? = some c) (h3 : A.cen[k]? = some ss) (h : AC A Y T (.cen k) U G) : ∃ ps, CeH U G q c ps ss := by
 simp only [AC] at h
 rw [h1, h2, h3] at h
 exact h
theorem AHY.cen (h : AHY U F Y A T) {k q : Nat} {c : Cls} {ss : List SpA} (h1 : Y.cps[k]? = some q) (h2 : A.tb[k]? = some c) (h3 : A.cen[k]? = some ss) : ∃ G ps, (∀ b, G b -> F b) /\ CeH U G q c ps ss := by
 obtain ⟨G, hG, hb⟩ := h.sep.get (.cen k)
 obtain ⟨ps, hc⟩ := WiX h1 h2 h3 hb
 exact ⟨G, ps, hG, hc⟩
theorem Qx (h : AHY U F Y A T) {R : Bool -> Hp -> Prop} (hR : R true U) : Wz.call (some ⟨Y.p, 0, none⟩) U R := by
 refine Wz.of_vc ?_
 unfold Wz.vc
 exact JnB.intro (ifT rfl (nilP (h.hd.rP rfl hR)))
theorem K3 (h : AHY U F Y A T) (k : Int) {R : Int -> Hp -> Prop} (h1 : A.ck k = false -> R 1 U) (h0 : ∀ x : Nat, k = x -> x < A.tb.length -> R 0 U) : W1.call (some ⟨Y.p, 0, none⟩) k U R := by
 refine W1.of_vc ?_
 unfold W1.vc
 have hl := h.tabL
 have bad : ¬ (0 <= k /\ k < A.tb.length) -> R 1 U := fun hn => h1 (by unfold AR.ck; rw [← Bool.decide_and]; exact decide_eq_false hn)
 refine Qx h (ifF rfl (JnB.intro (ifD (fun c1 => ifT rfl (bad (by omega))) fun c1 => nilP (h.hd.rS rfl (ifD (fun c2 => ?_) fun c2 => ?_)))))
 ·simp only at c2; exact bad (by omega)
 ·simp only at c2; exact h0 k.toNat (by omega) (by omega)
theorem UT (h : AHY U F Y A T) (x : Int) {R : Bool -> Hp -> Prop} (hR : R (Uz A x) U) : Xh.call (some ⟨Y.p, 0, none⟩) x U R := by
 refine Xh.of_vc ?_
 unfold Xh.vc
 obtain ⟨G, hG, q, hT, _⟩ := h.sep.get .trk
 refine Qx h (JnB.intro (ifT rfl (nilP (h.hd.rP rfl (WdW hT x ?_)))))
 have : decide (stI A.st x > 0) = Uz A x := by
  unfold stI Uz
  by_cases hx : 0 <= x
  ·by_cases hl : x < A.st.length
   ·rw [if_pos ⟨hx, hl⟩, decide_eq_true hx, Bool.true_and, decide_eq_decide]; omega
   ·rw [if_neg (by omega), decide_eq_true hx, Bool.true_and, List.getD_eq_getElem?_getD, List.getElem?_eq_none (by omega)]; rfl
  ·rw [if_neg (by omega), decide_eq_false hx]; rfl
 rw [this]; exact hR
structure RunsOk (A : AR) : Prop where
 dis : ∀ r ∈ A.runs, ∀ s ∈ A.runs, ∀ x, r.1 <= x -> x < r.1 + r.2 -> s.1 <= x -> x < s.1 + s.2 -> r = s
 big : ∀ x, x < 1024 -> A.ow x = 41 -> (Gv A x).isSome = true
 cls : ∀ x, x < 1024 -> A.ow x ≠ 0 -> A.ow x ≠ 41 -> A.ow x <= A.tb.length
 fit : ∀ r ∈ A.runs, r.1 + r.2 <= 1024
theorem GI (h : RunsOk A) {x : Nat} {r : Nat × Nat} (hr : r ∈ A.runs) (h1 : r.1 <= x) (h2 : x < r.1 + r.2) : Gv A x = some r := by
 cases hf : Gv A x with
 | none =>
  unfold Gv at hf
  rw [List.find?_eq_none] at hf
  have := hf r hr
  simp [h1, h2] at this
 | some s =>
  unfold Gv at hf
  have hs := List.mem_of_find?_eq_some hf
  have hp := List.find?_some hf
  simp at hp
  rw [h.dis r hr s hs x h1 h2 hp.1 hp.2]
theorem Wdf (h : AHY U F Y A T) (hr : RunsOk A) (x : Int) (hx : I63 x) {R : Int -> Int -> Int -> Hp -> Prop} (h1 : ∀ σ' k a, Ext0 U σ' -> Vu A x = some (k, a) -> R k (a : Int) 0 σ') (h0 : ∀ σ', Ext0 U σ' -> Vu A x = none -> R 0 0 8 σ') :
 Yd.call (some ⟨Y.p, 0, none⟩) x U R := by
 refine Yd.of_vc ?_
 unfold Yd.vc
 refine Qx h (ifF rfl (ifD (fun c1 => h0 U (Ext.refl _ _) (by unfold Vu; rw [if_pos c1])) fun c1 => nilP (h.hd.rP rfl (nz (by decide) ?_))))
 obtain ⟨y, rfl⟩ := Int.eq_ofNat_of_zero_le (show 0 <= x by omega)
 have hy : y <= 9223372036854775807 := by unfold I63 at hx; omega
 have tp : ((y : Int).tdiv 256) = ((y / 256 : Nat) : Int) := by rw [ZJ (by omega)]; simp
 refine ar (by rw [tp]; omega) (by rw [tp]; omega) ?_
 rw [tp]
 obtain ⟨G, hG, hP⟩ := h.sep.get .own
 refine WgW hP _ ?_
 have eo : owI A.ow ((y / 256 : Nat) : Int) = if y / 256 < 1024 then A.ow (y / 256) else 0 := by
  unfold owI
  by_cases hl : y / 256 < 1024
  ·rw [if_pos (by omega), if_pos hl]; rfl
  ·rw [if_neg (by omega), if_neg hl]
 have ef : Vu A (y : Int) = (let no := if y / 256 < 1024 then A.ow (y / 256) else 0
  if no = 0 then none else if no = 41 then (Gv A (y / 256)).map fun r => (-1, r.1 * 256) else
  match A.tb[no - 1]?, A.cen[no - 1]? with
  | some c, some ss => (Gp c ss (y : Int)).map fun a => (((no - 1 : Nat) : Int), a)
  | _, _ => none) := by
  unfold Vu; rw [if_neg c1]; rfl
 rw [eo]
 generalize hno : (if y / 256 < 1024 then A.ow (y / 256) else 0) = no at *
 simp only at ef
 rw [Wbj]
 refine iff_ (fun e0 => h0 U (Ext.refl _ _) (by rw [ef, if_pos (by simpa using e0)])) fun e0 => ?_
 have hne : no ≠ 0 := by simpa using e0
 rw [if_neg hne] at ef
 have hlt : y / 256 < 1024 := by
  rcases Nat.lt_or_ge (y / 256) 1024 with h | h
  ·exact h
  ·rw [if_neg (by omega)] at hno; exact absurd hno.symm hne
 rw [if_pos hlt] at hno
 refine Jn.intro ?_
 have e41 : (((no : Nat) : Int) == 41) = (no == 41) := beqN no 41
 rw [e41]
 refine iff_ (fun c2 => ?_) fun c2 => ?_
 ·have h41 : no = 41 := by simpa using c2
  subst h41
  rw [if_pos rfl] at ef
  obtain ⟨r, hrr⟩ := Option.isSome_iff_exists.1 (hr.big _ hlt hno)
  have hrm := List.mem_of_find?_eq_some hrr
  have hrp := List.find?_some hrr
  simp at hrp
  obtain ⟨G, hG, hRm⟩ := h.sep.get .runs
  refine nilP (h.hd.rM rfl ?_)
  refine rng0 hRm.2 (fun todo v => Ext0 U v /\ (∀ z ∈ todo, z ∈ runI A.runs) /\ ((r.1 : Int), (r.2 : Int)) ∈ todo) (fun v hz e => ⟨e, fun z hz => hz, List.mem_map.2 ⟨r, hrm, rfl⟩⟩) (fun v hv => absurd hv.2.2 (by simp)) ?_
  rintro todo n z v v' J ⟨e, hsub, hmem⟩ hm ho hlt2 hJ
  have e' : Ext0 U v' := Ext.fresh e ho.ext fun i hi => by omega
  obtain ⟨s, hs, hse⟩ := List.mem_map.1 (hsub _ hm)
  cases hse
  have hfit := hr.fit s hs
  refine nz (by decide) (ar (by omega) (by omega) ?_)
  refine JnB.intro (ifD (fun c3 => ar (by omega) (by omega) (ifD (fun c4 => ?_) fun c4 => ?_)) fun c3 => ifF rfl ?_)
  ·have hsr := GI hr hs (x := y / 256) (by omega) (by omega)
   refine ar (by omega) (by omega) ?_
   have := h1 v' (-1) (s.1 * 256) e' (by rw [ef, hsr]; rfl)
   simpa using this
  ·refine hJ v' rfl rfl ⟨e', fun u hu => hsub u (List.mem_filter.1 hu).1, List.mem_filter.2 ⟨hmem, ?_⟩⟩
   have : ¬ (r.1 : Int) = (s.1 : Int) := fun e => by
    have := GI hr hrm hrp.1 hrp.2
    have e1 : r.1 = s.1 := by omega
    by_cases h2 : r.2 = 0
    ·omega
    by_cases h3 : s.2 = 0
    ·have := hRm.2.nodup
     have hkk := Kz this (List.mem_map.2 ⟨r, hrm, rfl⟩)
     have hkk2 := Kz this (List.mem_map.2 ⟨s, hs, rfl⟩)
     rw [e1, hkk2] at hkk
     have : s.2 = r.2 := by
      have : (s.2 : Int) = (r.2 : Int) := Option.some.inj hkk
      omega
     omega
    ·have := hr.dis r hrm s hs r.1 (by omega) (by omega) (by omega) (by omega)
     subst this; omega
   simpa using this
  ·refine hJ v' rfl rfl ⟨e', fun u hu => hsub u (List.mem_filter.1 hu).1, List.mem_filter.2 ⟨hmem, ?_⟩⟩
   have : ¬ (r.1 : Int) = (s.1 : Int) := fun e => by omega
   simpa using this
 ·have h41 : no ≠ 41 := by simpa using c2
  rw [if_neg h41] at ef
  have hcl := hr.cls _ hlt (by rw [hno]; exact hne) (by rw [hno]; exact h41)
  rw [hno] at hcl
  obtain ⟨c, ss, q, t, r, hc, hss, hq, _, _, hok⟩ := h.at_ (k := no - 1) (by omega)
  obtain ⟨G, ps, hG, hC⟩ := h.cen hq hc hss
  rw [hc, hss] at ef
  simp only at ef
  refine nilP (h.hd.rS rfl (arN (m := no - 1) (by omega) (by have := h.lay.tb2; omega) (h.crowR hq (Wgt hC _ hx (fun a ha => ?_) fun ha => ?_))))
  ·refine ifF rfl (arN (m := no - 1) (by omega) (by have := h.lay.tb2; omega) (h1 U _ a (Ext.refl _ _) ?_))
   rw [ef, ha]; rfl
  ·refine ifT rfl (h0 U (Ext.refl _ _) ?_)
   rw [ef, ha]; rfl
theorem K7 (h : AHY U F Y A T) (hr : RunsOk A) (x : Int) (hx : I63 x) {R : Bool -> Hp -> Prop} (hR : ∀ σ', Ext0 U σ' -> R (Ub A x) σ') : WR.call (some ⟨Y.p, 0, none⟩) x U R := by
 refine WR.of_vc ?_
 unfold WR.vc
 refine Wdf h hr x hx (fun σ' k a e hf => ?_) fun σ' e hf => ?_
 ·have ei : Ub A x = if (a : Int) = x then (if k < 0 then true else (match A.tb[k.toNat]?, A.cen[k.toNat]? with
   | some c, some ss => isTk c ss x == some true
   | _, _ => false)) else false := by unfold Ub; rw [hf]; rfl
  have h' := h.keep0 e
  refine JnB.intro (ifF rfl (iff_ (fun c1 => ?_) fun c1 => ?_))
  ·have : ¬ (a : Int) = x := by simpa using c1
   rw [if_neg this] at ei
   have := hR σ' e; rw [ei] at this; exact this
  ·have : (a : Int) = x := by simpa using c1
   rw [if_pos this] at ei
   refine ifD (fun c2 => ?_) fun c2 => ?_
   ·rw [if_pos c2] at ei
    have := hR σ' e; rw [ei] at this; exact this
   ·rw [if_neg c2] at ei
    have hkl : k.toNat < A.tb.length := by
     unfold Vu at hf
     split at hf
     ·cases hf
     ·simp only at hf
      generalize (if x.toNat / 256 < 1024 then A.ow (x.toNat / 256) else 0) = no at hf
      split at hf
      ·cases hf
      ·split at hf
       ·cases hro : Gv A (x.toNat / 256) with
        | none => rw [hro] at hf; cases hf
        | some r => rw [hro] at hf; simp at hf; omega
       ·cases htb : A.tb[no - 1]? with
        | none => rw [htb] at hf; simp at hf
        | some c =>
         cases hcn : A.cen[no - 1]? with
         | none => rw [htb, hcn] at hf; simp at hf
         | some ss =>
          rw [htb, hcn] at hf
          simp only [Option.map_eq_some_iff, Prod.mk.injEq] at hf
          obtain ⟨_, _, hk, _⟩ := hf
          have := (gSi.1 htb).1
          omega
    obtain ⟨j, rfl⟩ := Int.eq_ofNat_of_zero_le (show 0 <= k by omega)
    simp only [iTn] at ei hkl
    obtain ⟨c, ss, q, t, r, hc, hss, hq, _, _, hok⟩ := h'.at_ hkl
    obtain ⟨G, ps, hG, hC⟩ := h'.cen hq hc hss
    rw [hc, hss] at ei
    simp only at ei
    refine nilP (h'.hd.rS rfl (h'.crowR hq (Vq hC _ hx (fun b hb => ?_) fun hb => ?_)))
    ·rw [hb] at ei
     have := hR σ' e; rw [ei] at this
     cases b <;> exact this
    ·rw [hb] at ei
     have := hR σ' e; rw [ei] at this; exact this
 ·have ei : Ub A x = false := by unfold Ub; rw [hf]
  refine JnB.intro (ifT rfl (ifT rfl ?_))
  have := hR σ' e; rw [ei] at this; exact this
end Go.Ar
namespace Go.Ar
open Go Go.Vc Go.Proofs
open Go.Bu (XA Zg Xj cnt)


open Classical in
theorem _root_.Go.Vc.Sep.stepD {L : Type} {C : L -> Hp -> Rg -> Prop} {U : Hp} {F : Rg} (hC : ∀ i, Lcl (C i)) (h : Sep C U F) (i : L) : ∃ G : Rg, (∀ b, G b -> F b) /\ C i U G /\ (∀ j, j ≠ i -> ∃ H : Rg, (∀ b, H b -> F b) /\ (∀ b, H b -> ¬ G b) /\ C j U H) /\ ∀ (σ' : Hp) (C' : L -> Hp -> Rg -> Prop) (G' : Rg),
 (∀ j, j ≠ i -> C' j = C j) -> Ext G U σ' -> (∀ b, G' b -> G b ∨ U.size <= b) -> C' i σ' G' -> Lcl (C' i) -> Sep C' σ' fun b => F b /\ b < U.size /\ ¬ G b ∨ G' b := by
 obtain ⟨ρ, h⟩ := h
 refine ⟨_, fun b hb => hb.1, h i, fun j hj => ⟨_, fun b hb => hb.1, fun b h1 h2 => hj (h1.2.symm.trans h2.2), h j⟩, fun σ' C' G' hj e hg hi hL => ⟨fun b => if G' b then i else ρ b, fun j => ?_⟩⟩
 by_cases hji : j = i
 ·subst hji
  exact hL.mono hi fun b _ hb => ⟨.inr hb, if_pos hb⟩
 ·rw [hj j hji]
  refine hC j _ _ _ _ (h j) e.1 fun b hb hf => ?_
  have hnG : ¬ (F b /\ ρ b = i) := fun hx => hji (hf.2.symm.trans hx.2)
  have hnG' : ¬ G' b := fun hx => by
   rcases hg b hx with h1 | h1
   ·exact hnG h1
   ·omega
  exact ⟨⟨.inl ⟨hf.1, hb, hnG⟩, (if_neg hnG').trans hf.2⟩, e.2 b hb hnG⟩
variable {U : Hp} {F : Rg} {p hs : Nat} {A : AR} {Y : Lay} {T : Nat -> Hp -> Rg -> Prop}
theorem AHY.step (h : AHY U F Y A T) (i : Lb) : ∃ G : Rg, (∀ b, G b -> F b) /\ AC A Y T i U G /\ (∀ j, j ≠ i -> ∃ H : Rg, (∀ b, H b -> F b) /\ (∀ b, H b -> ¬ G b) /\ AC A Y T j U H) /\ ∀ (σ' : Hp) (A' : AR) (Y' : Lay) (T' : Nat -> Hp -> Rg -> Prop) (G' H : Rg),
 LayOk A' Y' -> (∀ k, Lcl (T' k)) -> (∀ j, j ≠ i -> AC A' Y' T' j = AC A Y T j) -> Ext G U σ' -> (∀ b, G' b -> G b ∨ U.size <= b) -> AC A' Y' T' i σ' G' -> (∀ b, (F b /\ b < U.size /\ ¬ G b ∨ G' b) -> H b) -> AHY σ' H Y' A' T' := by
 obtain ⟨G, hG, hi, hd, hput⟩ := h.sep.stepD (AC.loc h.tl) i
 refine ⟨G, hG, hi, hd, fun σ' A' Y' T' G' H hL hT hj e hg hi' hH => ⟨hL, hT, ?_⟩⟩
 exact (Sep.loc (AC.loc hT)).mono (hput σ' _ G' hj e hg hi' (AC.loc hT i)) fun b _ hb => hH b hb
theorem Q8 {U : Hp} {F G G' : Rg} (hG : ∀ b, G b -> F b) (hg : ∀ b, G' b -> G b ∨ U.size <= b) : ∀ b, (F b /\ b < U.size /\ ¬ G b ∨ G' b) -> Grow F U b := fun b hb => by
 rcases hb with hb | hb
 ·exact .inl hb.1
 ·exact (hg b hb).imp (hG b) id
theorem Q6 {U : Hp} {F G G' : Rg} (hG : ∀ b, G b -> F b) (hg : ∀ b, G' b -> G b) : ∀ b, (F b /\ b < U.size /\ ¬ G b ∨ G' b) -> F b := fun b hb => by
 rcases hb with hb | hb
 ·exact hb.1
 ·exact hG b (hg b hb)
theorem Wex {U : Hp} {F G : Rg} (hG : ∀ b, G b -> F b) : ∀ b, (F b /\ b < U.size /\ ¬ G b ∨ Cut G U b) -> Cut F U b := fun b hb => by
 rcases hb with hb | hb
 ·exact ⟨hb.1, hb.2.1⟩
 ·exact ⟨hG b hb.1, hb.2⟩
theorem WiL {ow : Nat -> Nat} : ∀ j, j ≠ Lb.own -> AC { A with ow := ow } Y T j = AC A Y T j := by
 intro j hj; cases j <;> first | rfl | exact absurd rfl hj
theorem Wi5 {st : List Nat} : ∀ j, j ≠ Lb.trk -> AC { A with st := st } Y T j = AC A Y T j := by
 intro j hj; cases j <;> first | rfl | exact absurd rfl hj
theorem AC_S {S : Nat -> Bool} : ∀ j, j ≠ Lb.free -> AC { A with S := S } Y T j = AC A Y T j := by
 intro j hj; cases j <;> first | rfl | exact absurd rfl hj
theorem WhB {rs : List (Nat × Nat)} : ∀ j, j ≠ Lb.runs -> AC { A with runs := rs } Y T j = AC A Y T j := by
 intro j hj; cases j <;> first | rfl | exact absurd rfl hj
theorem WiP {k : Nat} {ss : List SpA} : ∀ j, j ≠ Lb.cen k -> AC { A with cen := A.cen.set k ss } Y T j = AC A Y T j := by
 intro j hj
 cases j <;> first | rfl | skip
 rename_i k'
 have hne : k ≠ k' := fun e => hj (by rw [e])
 simp only [AC]
 rw [List.getElem?_set_ne hne]
theorem LayOk.ow {ow : Nat -> Nat} (h : LayOk A Y) : LayOk { A with ow := ow } Y := ⟨h.c, h.t, h.cen, h.tra, h.tb1, h.tb2, h.n1, h.n2, h.n3, h.st, h.room, h.ok⟩
theorem LayOk.setS {S : Nat -> Bool} (h : LayOk A Y) : LayOk { A with S := S } Y := ⟨h.c, h.t, h.cen, h.tra, h.tb1, h.tb2, h.n1, h.n2, h.n3, h.st, h.room, h.ok⟩
theorem LayOk.setRuns {rs : List (Nat × Nat)} (h : LayOk A Y) : LayOk { A with runs := rs } Y := ⟨h.c, h.t, h.cen, h.tra, h.tb1, h.tb2, h.n1, h.n2, h.n3, h.st, h.room, h.ok⟩
theorem LayOk.setSt {st : List Nat} (h : LayOk A Y) (hl : st.length = A.st.length) : LayOk { A with st := st } Y := ⟨h.c, h.t, h.cen, h.tra, h.tb1, h.tb2, h.n1, h.n2, h.n3, hl.trans h.st, h.room, h.ok⟩
theorem LayOk.setCen {k : Nat} {ss : List SpA} (h : LayOk A Y) : LayOk { A with cen := A.cen.set k ss } Y := ⟨h.c, h.t, by simpa using h.cen, h.tra, h.tb1, h.tb2, h.n1, h.n2, h.n3, h.st, h.room, h.ok⟩
theorem HC (st : List Nat) (a m : Int) (v : Nat) (fr : List Nat) : (Kb st a m v fr).length = st.length := by
 unfold Kb; split <;> simp [ZL]
theorem Wgg (st : List Nat) (k : Int) : (addT st k).length = st.length := by
 unfold addT; split <;> simp [ZL]
theorem Wgo (st : List Nat) (k : Int) : (remT st k).length = st.length := by
 unfold remT; split <;> simp [ZL]
theorem AHY.Clear (h : AHY U F Y A T) (a m : Nat) (ha : a <= 1000000) {R : Int -> Hp -> Prop} (hR : ∀ σ' t, Ext F U σ' -> AHY σ' (Grow F U) Y { A with ow := setO A.ow a m 0 } T -> R t σ') : XO.call (some ⟨Y.op, 0, none⟩) a m U R := by
 obtain ⟨G, hG, hi, _, hput⟩ := h.step .own
 refine Wdg hi a m ha fun σ' e hP => hR σ' _ (e.sub hG) ?_
 exact hput σ' _ _ T (Grow G U) _ h.lay.ow h.tl WiL e (fun b hb => hb) hP (Q8 hG fun b hb => hb)
theorem AHY.Set (h : AHY U F Y A T) (a m : Nat) (ha : a <= 1000000) {no : Nat} (h1 : 1 <= no) (h2 : no <= 1000) {R : Int -> Hp -> Prop} (hR : ∀ σ' t, Ext F U σ' -> AHY σ' (Grow F U) Y { A with ow := setO A.ow a m no } T -> R t σ') : X3.call (some ⟨Y.op, 0, none⟩) a m no U R := by
 obtain ⟨G, hG, hi, _, hput⟩ := h.step .own
 refine Whu hi a m ha h1 h2 fun σ' e hP => hR σ' _ (e.sub hG) ?_
 exact hput σ' _ _ T (Grow G U) _ h.lay.ow h.tl WiL e (fun b hb => hb) hP (Q8 hG fun b hb => hb)
theorem AHY.trk (h : AHY U F Y A T) : ∃ G : Rg, (∀ b, G b -> F b) /\ ∃ q, TrH U Y.tr q A.st /\ F q /\ ∀ (σ' : Hp) (st : List Nat), st.length = A.st.length -> Ext (· = q) U σ' -> TrH σ' Y.tr q st -> Ext F U σ' /\ AHY σ' F Y { A with st := st } T := by
 obtain ⟨G, hG, ⟨q, hT, gp, gq⟩, _, hput⟩ := h.step .trk
 refine ⟨G, hG, q, hT, hG _ gq, fun σ' st hl e h' => ⟨e.sub fun b hb => by subst hb; exact hG _ gq, ?_⟩⟩
 exact hput σ' _ _ T G _ (h.lay.setSt hl) h.tl Wi5 (e.sub fun b hb => by subst hb; exact gq) (fun b hb => .inl hb) ⟨q, h', gp, gq⟩ (Q6 hG fun b hb => hb)
theorem AHY.Unuse (h : AHY U F Y A T) (a m : Int) {R : Int -> Hp -> Prop} (hR : ∀ σ' t, Ext F U σ' -> AHY σ' F Y { A with st := Kb A.st a m 2 [1] } T -> R t σ') : Xz.call (some ⟨Y.tr, 0, none⟩) a m U R := by
 obtain ⟨G, hG, q, hT, _, hput⟩ := h.trk
 refine WfU hT a m fun σ' e h' => ?_
 have := hput σ' _ (HC _ _ _ _ _) e h'
 exact hR σ' _ this.1 this.2
theorem AHY.Use (h : AHY U F Y A T) (a m : Int) {R : Int -> Hp -> Prop} (hR : ∀ σ' t, Ext F U σ' -> AHY σ' F Y { A with st := Kb A.st a m 1 [2, 3] } T -> R t σ') : XL.call (some ⟨Y.tr, 0, none⟩) a m U R := by
 obtain ⟨G, hG, q, hT, _, hput⟩ := h.trk
 refine WiH hT a m fun σ' e h' => ?_
 have := hput σ' _ (HC _ _ _ _ _) e h'
 exact hR σ' _ this.1 this.2
theorem AHY.Rel (h : AHY U F Y A T) (a m : Int) {R : Int -> Hp -> Prop} (hR : ∀ σ' t, Ext F U σ' -> AHY σ' F Y { A with st := Kb A.st a m 3 [2] } T -> R t σ') : Xb.call (some ⟨Y.tr, 0, none⟩) a m U R := by
 obtain ⟨G, hG, q, hT, _, hput⟩ := h.trk
 refine Wa7 hT a m fun σ' e h' => ?_
 have := hput σ' _ (HC _ _ _ _ _) e h'
 exact hR σ' _ this.1 this.2
theorem AHY.AddH (h : AHY U F Y A T) (k : Int) {R : Int -> Hp -> Prop} (hR : ∀ σ' t, Ext F U σ' -> AHY σ' F Y { A with st := addT A.st k } T -> R t σ') : Ya.call (some ⟨Y.tr, 0, none⟩) k U R := by
 obtain ⟨G, hG, q, hT, _, hput⟩ := h.trk
 refine Whv hT k fun σ' e h' => ?_
 have := hput σ' _ (Wgg _ _) e h'
 exact hR σ' _ this.1 this.2
theorem AHY.RemH (h : AHY U F Y A T) (k : Int) {R : Int -> Hp -> Prop} (hR : ∀ σ' t, Ext F U σ' -> AHY σ' F Y { A with st := remT A.st k } T -> R t σ') : Xn.call (some ⟨Y.tr, 0, none⟩) k U R := by
 obtain ⟨G, hG, q, hT, _, hput⟩ := h.trk
 refine WcV hT k fun σ' e h' => ?_
 have := hput σ' _ (Wgo _ _) e h'
 exact hR σ' _ this.1 this.2
theorem AHY.free (h : AHY U F Y A T) : ∃ sb ms, Go.Bu.BH U Y.fr A.n A.S sb ms /\ ∀ (σ' : Hp) (S : Nat -> Bool), Ext (· ∈ ms) U σ' -> Go.Bu.BH σ' Y.fr A.n S sb ms -> Ext F U σ' /\ AHY σ' F Y { A with S := S } T := by
 obtain ⟨G, hG, ⟨sb, ms, hB, hf⟩, _, hput⟩ := h.step .free
 have hm : ∀ b, b ∈ ms -> G b := fun b hb => hf b (by unfold Go.Bu.fp; simp [hb])
 refine ⟨sb, ms, hB, fun σ' S e h' => ⟨e.sub fun b hb => hG b (hm b hb), ?_⟩⟩
 exact hput σ' _ _ T G _ h.lay.setS h.tl AC_S (e.sub hm) (fun b hb => .inl hb) ⟨sb, ms, h', hf⟩ (Q6 hG fun b hb => hb)
theorem AHY.Give (h : AHY U F Y A T) (a m : Int) {R : Int -> Hp -> Prop} (hR : ∀ σ' t, Ext F U σ' -> AHY σ' F Y { A with S := Zg A.n A.S a m } T -> R t σ') : Yb.call (some ⟨Y.fr, 0, none⟩) a m U R := by
 obtain ⟨sb, ms, hB, hput⟩ := h.free
 refine Go.Bu.Give_ok hB a m fun σ' e h' => ?_
 have := hput σ' _ e h'
 exact hR σ' _ this.1 this.2
theorem AHY.TakeRun (h : AHY U F Y A T) (a m : Int) {R : Int -> Hp -> Prop} (hR : ∀ σ' t, Ext F U σ' -> AHY σ' F Y { A with S := Go.Bu.runS A.n A.S a m } T -> R t σ') : Xv.call (some ⟨Y.fr, 0, none⟩) a m U R := by
 obtain ⟨sb, ms, hB, hput⟩ := h.free
 refine Go.Bu.TakeRun_ok hB a m fun σ' e h' => ?_
 have := hput σ' _ e h'
 exact hR σ' _ this.1 this.2
theorem AHY.TakeB (h : AHY U F Y A T) (a m : Int) {R : Int -> Int -> Hp -> Prop} (hR : ∀ σ', Ext F U σ' -> AHY σ' F Y { A with S := Go.Bu.takeS A.n A.S a m } T -> R ((Go.Bu.takeV A.n A.S a m : Nat) : Int) (Go.Bu.takeE A.n A.S a m) σ') : XT.call (some ⟨Y.fr, 0, none⟩) a m U R := by
 obtain ⟨sb, ms, hB, hput⟩ := h.free
 refine Go.Bu.Take_ok hB a m fun σ' e h' => ?_
 have := hput σ' _ e h'
 exact hR σ' this.1 this.2
def rV (rs : List (Nat × Nat)) : List Value := rs.flatMap fun r => [.int .i64 (r.1 : Int), .int .i64 (r.2 : Int)]
theorem WbX (rs : List (Nat × Nat)) : (rV rs).length = rs.length * 2 := by
 induction rs with
 | nil => rfl
 | cons x l ih => simp only [rV, List.flatMap_cons, List.length_append, List.length_cons, List.length_nil] at *; omega
theorem Wit {l : List (Nat × Nat)} {i : Nat} {r : Nat × Nat} (h : l[i]? = some r) : (rV l)[2 * i]? = some (.int .i64 (r.1 : Int)) /\ (rV l)[2 * i + 1]? = some (.int .i64 (r.2 : Int)) := by
 induction l generalizing i with
 | nil => simp at h
 | cons x l ih =>
  have e : rV (x :: l) = [.int .i64 (x.1 : Int), .int .i64 (x.2 : Int)] ++ rV l := by simp [rV]
  rw [e]
  cases i with
  | zero => simp at h; subst h; simp
  | succ i =>
   have := ih (i := i) (by simpa using h)
   rw [show 2 * (i + 1) = 2 * i + 2 by omega]
   simpa using this
theorem WdU (c : Cls) (l : List Nat) : runV c l = rV (l.map fun s => (s, c.pages)) := by
 simp [runV, rV, List.flatMap_map]
theorem Wiw {s : Sl} {rs : List (Nat × Nat)} (h : SlR s 2 (rV rs) U F) {i : Nat} {r : Nat × Nat} (hr : rs[i]? = some r) {K : Int -> Int -> Prop} (hK : K (r.1 : Int) (r.2 : Int)) :
 Ix s.a s.len (i : Int) 2 fun a => LdI .i64 (a.add 0) U fun u => LdI .i64 (a.add 1) U fun w => K u w := by
 have hg := Wit hr
 have hi := (gSi.1 hr).1
 obtain ⟨b, o, ha, hc⟩ := h.cell hg.1
 obtain ⟨b1, o1, ha1, hc1⟩ := h.cell hg.2
 rw [ha] at ha1; cases ha1
 have hl := h.1
 rw [WbX] at hl
 rw [ha]
 refine ix (by omega) (by omega) ?_
 rw [add_lit]
 refine ldI ?_ (ldI ?_ hK) <;> rw [add_lit]
 ·rw [show o + (i : Int).toNat * 2 + 0 = o + 2 * i by omega]; exact hc
 ·rw [show o + (i : Int).toNat * 2 + 1 = o + (2 * i + 1) by omega]; exact hc1
theorem AHY.mono {G : Rg} (h : AHY U F Y A T) (hs : ∀ b, b < U.size -> F b -> G b) : AHY U G Y A T := Lcl.mono AHY.loc h hs
theorem AHY.cut (h : AHY U F Y A T) : AHY U (Cut F U) Y A T := Lcl.cut AHY.loc h
theorem Wc9 (A : AR) (rs : List (Nat × Nat)) (r : Nat × Nat) : QD A (rs ++ [r]) = Q3 (QD A rs) r := by simp [QD]
theorem WbG (h : AHY U F Y A T) {sl : Sl} {rs : List (Nat × Nat)} {X : Rg} (hs : SlR sl 2 (rV rs) U X) (hX : ∀ b, b < U.size -> X b -> ¬ F b) (hl : rs.length <= 1000000) (hb : ∀ r ∈ rs, r.1 <= 1000000) {R : Hp -> Prop}
 (hR : ∀ σ', Ext F U σ' -> AHY σ' (Grow F U) Y (QD A rs) T -> R σ') : Xg.call (some ⟨Y.p, 0, none⟩) sl U R := by
 refine Xg.of_vc ?_
 unfold Xg.vc
 have hlen : sl.len = rs.length := by have := hs.1; rw [WbX] at this; omega
 have hs0 : SlR sl 2 (rV rs) U (Cut X U) := (SlR.loc _ _ _).cut hs
 refine YX (a := .i .i64) (fun (t : Int) v => ∃ i : Nat, t = (i : Int) /\ i <= rs.length /\ Ext F U v /\ AHY v (Grow F U) Y (QD A (rs.take i)) T) (fun t _ => rs.length - t.toNat) ⟨0, rfl, by omega, Ext.refl _ _, by simpa [QD] using h.mono fun b _ hb => .inl hb⟩ ?_
 rintro t v ⟨i, rfl, hi, e, hA⟩
 refine ifD (fun hlt => ?_) fun hge => ?_
 ·have hi' : i < rs.length := by omega
  have hx : rs[i]? = some rs[i] := gGe hi'
  have hbr := hb _ (List.getElem_mem hi')
  have hsv := (SlR.loc _ _ _).keep hs0 e fun b hb' hx hf => hX b hb' hx.1 hf
  refine Wiw hsv hx ?_
  have htk : rs.take (i + 1) = rs.take i ++ [rs[i]] := by rw [List.take_add_one, hx]; rfl
  generalize rs[i] = r at *
  refine nw (cs := [.int .i64 0, .int .i64 0]) fun v4 hz4 e4 hb4 => hb4.s1 (by simp) fun v5 o5 b5 => b5.s1 (by simp) fun v6 o6 b6 => ?_
  have e46 : Ext0 v v6 := Ext.fresh (Ext.fresh e4 o5.ext fun i hi => by omega) o6.ext fun i hi => by omega
  have hA6 := hA.cut.keep0 e46
  have nF : ¬ Cut (Grow F U) v v.size := fun hf => by have := hf.2; omega
  have b6' : Blk v6 v.size [.int .i64 (r.1 : Int), .int .i64 (r.2 : Int)] := b6
  have z6 : v.size < v6.size := b6.lt
  refine nilP (hA6.hd.rP rfl (b6'.rI rfl (b6'.rI rfl (hA6.Clear r.1 r.2 hbr fun v7 t7 e7 hA7 => ?_))))
  have b7 := e7.blk b6' nF
  have hA7' := hA7.mono (G := fun b => Cut (Grow F U) v b ∨ v.size < b) fun b _ hb => by
   rcases hb with hb | hb
   ·exact .inl hb
   ·exact .inr (by omega)
  have nF7 : ¬ (Cut (Grow F U) v v.size ∨ v.size < v.size) := fun hf => by
   rcases hf with h | h
   ·exact nF h
   ·omega
  refine nilP (hA7'.hd.rP rfl (b7.rI rfl (b7.rI rfl (hA7'.Unuse _ _ fun v8 t8 e8 hA8 => ?_))))
  have b8 := e8.blk b7 nF7
  refine nilP (hA8.hd.rP rfl (b8.rI rfl (b8.rI rfl (hA8.Give _ _ fun v9 t9 e9 hA9 => ?_))))
  have sub : ∀ b, (Cut (Grow F U) v b ∨ v.size < b) -> Grow F U b := fun b hb => by
   rcases hb with hb | hb
   ·exact hb.1
   ·exact .inr (by have := e.1; omega)
  have ee : Ext F U v9 := ((((e.trans (Ext0.to e46)).growT (e7.sub fun b hb => hb.1))).growT (e8.sub sub)).growT (e9.sub sub)
  refine arN (m := i + 1) (by omega) (by omega) ⟨⟨i + 1, rfl, by omega, ee, ?_⟩, by omega⟩
  rw [htk, Wc9]
  exact hA9.mono fun b _ hb => sub b hb
 ·have : i = rs.length := by omega
  subst this
  rw [List.take_length] at hA
  exact hR v e hA
end Go.Ar
namespace Go.Ar
open Go Go.Vc Go.Proofs
open Go.Bu (XA Zg Xj cnt)


variable {U : Hp} {F : Rg} {p hs : Nat} {A : AR} {Y : Lay} {T : Nat -> Hp -> Rg -> Prop}
theorem AHY.cenS (h : AHY U F Y A T) {k q : Nat} {c : Cls} {ss : List SpA} (h1 : Y.cps[k]? = some q) (h2 : A.tb[k]? = some c) (h3 : A.cen[k]? = some ss) :
 ∃ G : Rg, (∀ b, G b -> F b) /\ (∃ ps, CeH U G q c ps ss) /\ (∀ j, ∃ H : Rg, (∀ b, H b -> F b) /\ (∀ b, H b -> ¬ G b) /\ T j U H) /\ ∀ (σ' : Hp) (ss' : List SpA) (ps' : List (Nat × Nat)) (G' H : Rg),
  Ext G U σ' -> (∀ b, G' b -> G b ∨ U.size <= b) -> CeH σ' G' q c ps' ss' -> (∀ b, (F b /\ b < U.size /\ ¬ G b ∨ G' b) -> H b) -> AHY σ' H Y { A with cen := A.cen.set k ss' } T := by
 obtain ⟨G, hG, hi, hd, hput⟩ := h.step (.cen k)
 have hk : k < A.cen.length := (gSi.1 h3).1
 refine ⟨G, hG, WiX h1 h2 h3 hi, fun j => hd (.tra j) (by intro e; cases e), fun σ' ss' ps' G' H e hg hC hH => ?_⟩
 refine hput σ' _ _ T G' H h.lay.setCen h.tl WiP e hg ?_ hH
 simp only [AC]
 rw [h1, h2, List.getElem?_set_self hk]
 exact ⟨ps', hC⟩
theorem Vo (h : AHY U F Y A T) (k m : Int) {R : Sl -> Int -> Hp -> Prop} (hR : ∀ s σ', Ext F U σ' -> RowR s 1 (ints (YY A k m)) σ' (fun b => U.size <= b) -> AHY σ' (Cut F U) Y (Ye A k m) T -> R s (Zm A k m) σ') :
 Wy.call (some ⟨Y.p, 0, none⟩) k m U R := by
 refine Wy.of_vc ?_
 unfold Wy.vc
 refine K3 h k (fun hk => ?_) fun x hx hlt => ?_
 ·have e1 : Zm A k m = 1 := by unfold Zm; rw [hk]; rfl
  have e2 : Ye A k m = A := by unfold Ye; rw [e1]; rfl
  have e3 : YY A k m = [] := by unfold YY; rw [e1]; rfl
  have := hR ⟨none, 0, 0⟩ U (Ext.refl _ _) (by rw [e3]; exact RowR.nil _ _ _ _) (by rw [e2]; exact h.cut)
  rw [e1] at this
  exact ifT rfl this
 ·subst hx
  have hk : A.ck (x : Int) = true := by unfold AR.ck; simp; omega
  obtain ⟨c, ss, q, t, r, hc, hss, hq, _, _, hok⟩ := h.at_ hlt
  obtain ⟨G, hG, ⟨ps, hC⟩, _, hput⟩ := h.cenS hq hc hss
  refine ifF rfl (nilP (h.hd.rS rfl (h.crowR hq ?_)))
  by_cases hm : m < 0
  ·have e1 : Zm A x m = 1 := by unfold Zm; rw [hk, if_pos rfl, if_pos hm]
   have e2 : Ye A x m = A := by unfold Ye; rw [e1]; rfl
   have e3 : YY A x m = [] := by unfold YY; rw [e1]; rfl
   have := hR ⟨none, 0, 0⟩ U (Ext.refl _ _) (by rw [e3]; exact RowR.nil _ _ _ _) (by rw [e2]; exact h.cut)
   rw [e1] at this
   exact WdR hC m hm this
  ·have e1 : Zm A x m = 0 := by unfold Zm; rw [hk, if_pos rfl, if_neg hm]
   have er : K8 A x m = Z7 c m.toNat ss := by unfold K8; simp only [iTn]; rw [hc, hss]
   have e2 : Ye A x m = { A with cen := A.cen.set x (Z7 c m.toNat ss).2 } := by unfold Ye; rw [e1, if_pos rfl, er]; rfl
   have e3 : YY A x m = (Z7 c m.toNat ss).1 := by unfold YY; rw [e1, if_pos rfl, er]
   refine WfC hC m (by omega) fun s σ' e hrow hC' => ?_
   have := hR s σ' (e.sub hG) (by rw [e3]; exact hrow) (by rw [e2]; exact hput σ' _ _ (Cut G U) _ e (fun b hb => .inl hb.1) hC' (Wex hG))
   rw [e1] at this; exact this
theorem WiJ {k : Nat} {f : TrA -> TrA} : ∀ j, j ≠ Lb.tra k -> AC { A with tra := A.tra.modify k f } Y (traT { A with tra := A.tra.modify k f } Y) j = AC A Y (traT A Y) j := by
 intro j hj
 cases j <;> first | rfl | skip
 rename_i k'
 have hne : k ≠ k' := fun e => hj (by rw [e])
 simp only [AC, traT]
 simp [List.getElem?_modify, hne]
theorem LayOk.setTra {k : Nat} {f : TrA -> TrA} (h : LayOk A Y) : LayOk { A with tra := A.tra.modify k f } Y := ⟨h.c, h.t, h.cen, by simpa using h.tra, h.tb1, h.tb2, h.n1, h.n2, h.n3, h.st, h.room, h.ok⟩
theorem AHY.traS (h : AHY U F Y A (traT A Y)) {k q : Nat} {c : Cls} {t : TrA} (h1 : Y.tps[k]? = some q) (h2 : A.tb[k]? = some c) (h3 : A.tra[k]? = some t) :
 ∃ G : Rg, (∀ b, G b -> F b) /\ TfH U G q c.batch A.room t /\ ∀ (σ' : Hp) (f : TrA -> TrA) (G' H : Rg),
  Ext G U σ' -> (∀ b, G' b -> G b ∨ U.size <= b) -> TfH σ' G' q c.batch A.room (f t) -> (∀ b, (F b /\ b < U.size /\ ¬ G b ∨ G' b) -> H b) -> AHY σ' H Y { A with tra := A.tra.modify k f } (traT { A with tra := A.tra.modify k f } Y) := by
 obtain ⟨G, hG, hi, hd, hput⟩ := h.step (.tra k)
 have hi' : TfH U G q c.batch A.room t := by
  simp only [AC, traT] at hi
  rw [h1, h2, h3] at hi
  exact hi
 refine ⟨G, hG, hi', fun σ' f G' H e hg hC hH => ?_⟩
 refine hput σ' _ _ _ G' H h.lay.setTra (fun j => traT.loc j) WiJ e hg ?_ hH
 simp only [AC, traT]
 rw [h1, h2, List.getElem?_modify_eq, h3]
 exact hC
theorem Hr (h : AHY U F Y A (traT A Y)) (k : Int) {R : Sl -> Int -> Hp -> Prop} (hR : ∀ s σ', Ext F U σ' -> SlR s 1 (YH (Y8 A k)) σ' F -> s.len <= s.cap -> AHY σ' F Y (Y7 A k) (traT (Y7 A k) Y) -> R s (Z1 A k) σ') :
 WG.call (some ⟨Y.p, 0, none⟩) k U R := by
 refine WG.of_vc ?_
 unfold WG.vc
 refine K3 h k (fun hk => ?_) fun x hx hlt => ?_
 ·have e1 : Z1 A k = 1 := by unfold Z1; rw [hk]; rfl
  have e2 : Y7 A k = A := by unfold Y7; rw [e1]; rfl
  have e3 : Y8 A k = [] := by unfold Y8; rw [e1]; rfl
  have := hR ⟨none, 0, 0⟩ U (Ext.refl _ _) (by rw [e3]; exact SlR.nil _ _ _ _) (Nat.le_refl _) (by rw [e2]; exact h)
  rw [e1] at this
  exact ifT rfl this
 ·subst hx
  have hk : A.ck (x : Int) = true := by unfold AR.ck; simp; omega
  obtain ⟨c, ss, q, t, r, hc, hss, hq, ht, hr, hok⟩ := h.at_ hlt
  obtain ⟨G, hG, hC, hput⟩ := h.traS hr hc ht
  refine ifF rfl (nilP (h.hd.rS rfl (h.trowR hr ?_)))
  by_cases hb : t.bs = []
  ·have e1 : Z1 A x = 4 := by unfold Z1; rw [hk, if_pos rfl]; simp only [iTn]; rw [ht]; simp [hb]
   have e2 : Y7 A x = A := by unfold Y7; rw [e1]; rfl
   have e3 : Y8 A x = [] := by unfold Y8; rw [e1]; rfl
   have := hR ⟨none, 0, 0⟩ U (Ext.refl _ _) (by rw [e3]; exact SlR.nil _ _ _ _) (Nat.le_refl _) (by rw [e2]; exact h)
   rw [e1] at this
   exact WbC hC hb this
  ·have e1 : Z1 A x = 0 := by unfold Z1; rw [hk, if_pos rfl]; simp only [iTn]; rw [ht]; simp [hb]
   have e2 : Y7 A x = { A with tra := A.tra.modify x TrA.rem } := by unfold Y7; rw [e1, if_pos rfl]; rfl
   have e3 : Y8 A x = t.bs.getLast?.getD [] := by unfold Y8; rw [e1, if_pos rfl]; simp only [iTn]; rw [ht]
   refine WdN hC hb fun s σ' e hrow hcap hC' => ?_
   have := hR s σ' (e.sub hG) (by rw [e3]; exact (SlR.loc _ _ _).mono hrow fun b _ hb => hG b hb) hcap (by rw [e2]; exact hput σ' _ G _ e (fun b hb => .inl hb) hC' (Q6 hG fun b hb => hb))
   rw [e1] at this; exact this
theorem GZ (h : AHY U F Y A (traT A Y)) (k : Int) {sl : Sl} {xs : List Int} {X : Rg} (hs : SlR sl 1 (YH xs) U X) (hi : ∀ x ∈ xs, I63 x) {R : Bool -> Int -> Hp -> Prop} (hR : ∀ σ', Ext F U σ' -> AHY σ' (Grow F U) Y (Qu A k xs) (traT (Qu A k xs) Y) -> R (KJ A k xs) (VM A k xs) σ') :
 W8.call (some ⟨Y.p, 0, none⟩) k sl U R := by
 refine W8.of_vc ?_
 unfold W8.vc
 have hlen : sl.len = xs.length := by have := hs.1; simp [YH] at this; omega
 have no : ∀ e : Int, e ≠ 0 -> VM A k xs = e -> R false e U := fun e he h1 => by
  have e3 : KJ A k xs = false := by unfold KJ; rw [decide_eq_false (by omega)]; rfl
  have e2 : Qu A k xs = A := by unfold Qu; rw [e3]; rfl
  have := hR U (Ext.refl _ _) (by rw [e2]; exact h.mono fun b _ hb => .inl hb)
  rw [h1, e3] at this; exact this
 refine K3 h k (fun hk => ifT rfl (no 1 (by decide) (by unfold VM; rw [hk]; rfl))) fun x hx hlt => ?_
 subst hx
 have hk : A.ck (x : Int) = true := by unfold AR.ck; simp; omega
 obtain ⟨c, ss, q, t, r, hc, hss, hq, ht, hr, hok⟩ := h.at_ hlt
 obtain ⟨G1, ps, hG1, hCe⟩ := h.cen hq hc hss
 obtain ⟨G, hG, hC, hput⟩ := h.traS hr hc ht
 have eE : VM A x xs = if xs.length = c.batch then (if xs.all (fun x => isTk c ss x == some true) then 0 else 8) else 1 := by unfold VM; rw [hk, if_pos rfl]; simp only [iTn]; rw [hc, hss]
 refine ifF rfl (nilP (h.hd.rS rfl (h.tabR (d := 2) hc (by omega) ?_)))
 simp only [if_neg (show ¬ (2 = 0) by omega), if_neg (show ¬ (2 = 1) by omega)]
 rw [bneN]
 refine iff_ (fun hb => ?_) fun hb => ?_
 ·have : ¬ xs.length = c.batch := by rw [← hlen]; simpa using hb
  exact no 1 (by decide) (by rw [eE, if_neg this])
 have hbl : xs.length = c.batch := by rw [← hlen]; simpa using hb
 rw [if_pos hbl] at eE
 have h32 : c.batch <= 32 := hok.2.2.2.2.2.2.2
 refine YX (a := .i .i64) (fun (i : Int) v => ∃ j : Nat, i = (j : Int) /\ j <= xs.length /\ v = U /\ ∀ y ∈ xs.take j, isTk c ss y = some true) (fun i _ => xs.length - i.toNat) ⟨0, rfl, by omega, rfl, by simp⟩ ?_
 rintro i v ⟨j, rfl, hj, rfl, hall⟩
 refine ifD (fun hlt2 => ?_) fun hge => ?_
 ·have hj' : j < xs.length := by omega
  have hx : xs[j]? = some xs[j] := gGe hj'
  have htk : xs.take (j + 1) = xs.take j ++ [xs[j]] := by rw [List.take_add_one, hx]; rfl
  have hmem := List.getElem_mem hj'
  generalize xs[j] = y at *
  have bad : isTk c ss y ≠ some true -> R false 8 v := fun hn => no 8 (by decide) (by
   rw [eE, if_neg]
   intro ha
   rw [List.all_eq_true] at ha
   exact hn (by simpa using ha y hmem))
  refine hs.ixI hx (nilP (h.hd.rS rfl (h.crowR hq (Vq hCe _ (hi y hmem) (fun b hb => ?_) fun hb => ?_))))
  ·refine JnB.intro (ifF rfl ?_)
   cases b
   ·exact ifT rfl (bad (by rw [hb]; simp))
   ·refine ifF rfl (arN (m := j + 1) (by omega) (by omega) ⟨⟨j + 1, rfl, by omega, rfl, fun z hz => ?_⟩, by omega⟩)
    rw [htk] at hz
    rcases List.mem_append.1 hz with h1 | h1
    ·exact hall z h1
    ·simp at h1; rw [h1]; exact hb
  ·exact JnB.intro (ifT rfl (ifT rfl (bad (by rw [hb]; simp))))
 ·have : j = xs.length := by omega
  subst this
  rw [List.take_length] at hall
  have eE0 : VM A x xs = 0 := by
   rw [eE, if_pos]
   rw [List.all_eq_true]
   intro y hy; simp [hall y hy]
  have eV : KJ A x xs = decide (t.bs.length < A.room) := by unfold KJ; rw [eE0]; simp only [iTn]; rw [ht]; simp
  refine nilP (h.hd.rS rfl (h.trowR hr (Wfd hC hs (by omega) (fun hn => absurd hbl hn) (fun _ hf => ?_) fun _ hf σ' e hC' => ?_)))
  ·rw [decide_eq_false (by omega)] at eV
   have e2 : Qu A x xs = A := by unfold Qu; rw [eV]; rfl
   have := hR v (Ext.refl _ _) (by rw [e2]; exact h.mono fun b _ hb => .inl hb)
   rw [eE0, eV] at this; exact this
  ·rw [decide_eq_true (by omega)] at eV
   have e2 : Qu A x xs = { A with tra := A.tra.modify x fun t => { t with bs := t.bs ++ [xs] } } := by unfold Qu; rw [eV, if_pos rfl]; rfl
   have := hR σ' (e.sub hG) (by rw [e2]; exact hput σ' (fun t => { t with bs := t.bs ++ [xs] }) (Grow G v) _ e (fun b hb => hb) hC' (Q8 hG fun b hb => hb))
   rw [eE0, eV] at this; exact this
theorem CeH.stB {q : Nat} {c : Cls} {ps : List (Nat × Nat)} {ss : List SpA} {G : Rg} (h : CeH U G q c ps ss) : ∀ s ∈ ss, s.st <= 1024 := by
 intro s hs
 obtain ⟨i, hi⟩ := List.getElem?_of_mem hs
 have hl := (gSi.1 hi).1
 have hp : i < ps.length := by rw [h.len]; exact hl
 have := (h.sp _ _ _ (gGe hp) hi).fit
 omega
theorem KP (h : AHY U F Y A T) (k : Int) {sl : Sl} {xs : List Int} (hi : ∀ x ∈ xs, I63 x) (hl : xs.length <= 1000000) (hcap : sl.len <= sl.cap)
 (hs : (∃ X : Rg, SlR sl 1 (YH xs) U X /\ ∀ b, b < U.size -> X b -> ¬ F b) ∨ ∃ j, ∀ H, T j U H -> SlR sl 1 (YH xs) U H)
 {R : Int -> Hp -> Prop} (hR : ∀ σ', Ext F U σ' -> AHY σ' (Grow F U) Y (Yu A k xs) T -> R (Zr A k xs) σ') :
 WD.call (some ⟨Y.p, 0, none⟩) k sl U R := by
 refine WD.of_vc ?_
 unfold WD.vc
 have no : ∀ e : Int, e ≠ 0 -> Zr A k xs = e -> R e U := fun e he h1 => by
  have e2 : Yu A k xs = A := by unfold Yu; rw [if_neg (by omega)]
  have := hR U (Ext.refl _ _) (by rw [e2]; exact h.mono fun b _ hb => .inl hb)
  rw [h1] at this; exact this
 refine K3 h k (fun hk => ifT rfl (no 1 (by decide) (by unfold Zr; rw [hk]; rfl))) fun x hx hlt => ?_
 subst hx
 have hk : A.ck (x : Int) = true := by unfold AR.ck; simp; omega
 obtain ⟨c, ss, q, t, r, hc, hss, hq, _, _, hok⟩ := h.at_ hlt
 obtain ⟨G, hG, ⟨ps, hC⟩, hd, hput⟩ := h.cenS hq hc hss
 have hX : ∃ X : Rg, SlR sl 1 (YH xs) U X /\ ∀ b, X b -> ¬ G b := by
  rcases hs with ⟨X, h1, h2⟩ | ⟨j, hj⟩
  ·exact ⟨Cut X U, (SlR.loc _ _ _).cut h1, fun b hb hg => h2 b hb.2 hb.1 (hG b hg)⟩
  ·obtain ⟨H, _, hn, hT⟩ := hd j
   exact ⟨H, hj H hT, hn⟩
 obtain ⟨X, hsX, hXG⟩ := hX
 have eE : Zr A x xs = putE c ss xs := by unfold Zr; rw [hk, if_pos rfl]; simp only [iTn]; rw [hc, hss]
 refine ifF rfl (nilP (h.hd.rS rfl (h.crowR hq (WhE hC hsX hXG hi hl hcap (fun hn => ?_) fun h0 o σ1 e1 hrow hC1 => ?_))))
 ·refine ifT (by simpa using hn) (no _ hn eE)
 ·refine ifF rfl ?_
  have eS : Yu A x xs = QD { A with cen := A.cen.set x (sweep (xs.foldl (put1 c) ss)) } ((Zn (xs.foldl (put1 c) ss)).map fun s => (s, c.pages)) := by
   unfold Yu; rw [eE, if_pos h0]; simp only [iTn]; rw [hc, hss]
  have hA1 := hput σ1 _ _ (Cut G U) _ e1 (fun b hb => .inl hb.1) hC1 (Wex hG)
  rw [WdU] at hrow
  have hlr : ((Zn (xs.foldl (put1 c) ss)).map fun s => (s, c.pages)).length <= 1000000 /\ ∀ r ∈ ((Zn (xs.foldl (put1 c) ss)).map fun s => (s, c.pages)), r.1 <= 1000000 := by
   have hfold : ∀ (ys : List Int) (ls : List SpA), ((ys.foldl (put1 c) ls).map (·.st)) = ls.map (·.st) := by
    intro ys
    induction ys with
    | nil => intro ls; rfl
    | cons y ys ih =>
     intro ls
     rw [List.foldl_cons, ih]
     unfold put1
     split
     ·rename_i j hj
      split
      ·rename_i s hs2
       split
       ·simp only [List.map_set]
        apply List.ext_getElem?
        intro z
        rw [List.getElem?_set]
        by_cases hz : j = z
        ·subst hz
         rw [if_pos rfl]
         have := (gSi.1 hs2).1
         rw [if_pos (by simpa using this)]
         simp [hs2, SpA.put]
        ·rw [if_neg hz]
       ·rfl
      ·rfl
     ·rfl
   have hsw : ∀ s ∈ Zn (xs.foldl (put1 c) ss), s ∈ ss.map (·.st) := by
    intro s hs2
    rw [← hfold xs ss]
    unfold Zn at hs2
    simp only [List.mem_map, List.mem_filter] at hs2 ⊢
    obtain ⟨z, hz, rfl⟩ := hs2
    exact ⟨z, hz.1, rfl⟩
   have hfew := hC.few
   refine ⟨?_, fun r hr => ?_⟩
   ·have : (Zn (xs.foldl (put1 c) ss)).length <= (xs.foldl (put1 c) ss).length := by
     unfold Zn; rw [List.length_map]; exact List.length_filter_le _ _
    have h2 : (xs.foldl (put1 c) ss).length = ss.length := by have := congrArg List.length (hfold xs ss); simpa using this
    rw [List.length_map]; omega
   ·obtain ⟨s, hs2, rfl⟩ := List.mem_map.1 hr
    obtain ⟨z, hz, rfl⟩ := List.mem_map.1 (hsw s hs2)
    have := hC.stB z hz
    simp only; omega
  refine WbG hA1 hrow.slR (fun b _ hb hf => by have := hf.2; omega) hlr.1 hlr.2 fun σ2 e2 hA2 => ?_
  have := hR σ2 ((e1.sub hG).trans (e2.sub fun b hb => hb.1)) ?_
  ·rw [eE, h0] at this; exact this
  ·rw [eS]
   exact hA2.mono fun b _ hb => by
    rcases hb with hb | hb
    ·exact .inl hb.1
    ·exact .inr (Nat.le_trans e1.1 hb)
end Go.Ar
namespace Go.Ar
open Go Go.Vc Go.Proofs
open Go.Bu (XA Zg Xj cnt)


variable {U : Hp} {F : Rg} {p hs : Nat} {A : AR} {Y : Lay} {T : Nat -> Hp -> Rg -> Prop}
theorem WgF (l : List (Nat × Nat)) (x : Int) : mget (runI l) x = (l.find? fun r => (r.1 : Int) == x).map fun r => (r.2 : Int) := by
 induction l with
 | nil => rfl
 | cons r l ih =>
  have : runI (r :: l) = ((r.1 : Int), (r.2 : Int)) :: runI l := rfl
  rw [this, Qd, List.find?_cons, ih]
  by_cases h : (r.1 : Int) = x
  ·simp [h]
  ·have : ((r.1 : Int) == x) = false := by simpa using h
   rw [this, if_neg h]
theorem Wgx (l : List (Nat × Nat)) (x : Int) : mdel (runI l) x = runI (l.filter fun q => !((q.1 : Int) == x)) := by
 unfold mdel runI
 rw [List.filter_map]; rfl
theorem Wcn (l : List (Nat × Nat)) (x m : Nat) : mset (runI l) (x : Int) (m : Int) = runI (Yt.mset2 l x m) := by
 unfold mset Yt.mset2 runI
 have e : (l.map fun r => ((r.1 : Int), (r.2 : Int))).any (fun y => y.1 == (x : Int)) = l.any fun r => r.1 == x := by
  rw [List.any_map]
  congr 1
  funext r
  exact beqN r.1 x
 rw [e]
 split
 ·rw [List.map_map, List.map_map]
  apply List.map_congr_left
  intro r _
  simp only [Function.comp_def]
  rw [beqN]
  split <;> rfl
 ·simp
theorem AHY.runsS (h : AHY U F Y A T) : F Y.rn /\ MapL U Y.rn .i64 (.i .i64) (runI A.runs) /\ ∀ (σ' : Hp) (rs : List (Nat × Nat)), Z5 U σ' Y.rn -> MapL σ' Y.rn .i64 (.i .i64) (runI rs) -> AHY σ' F Y { A with runs := rs } T := by
 obtain ⟨G, hG, ⟨gr, hm⟩, _, hput⟩ := h.step .runs
 refine ⟨hG _ gr, hm, fun σ' rs ho h' => ?_⟩
 exact hput σ' _ _ T G _ h.lay.setRuns h.tl WhB (ho.ext.sub fun b hb => by subst hb; exact gr) (fun b hb => .inl hb) ⟨gr, h'⟩ (Q6 hG fun b hb => hb)
theorem Ul (h : AHY U F Y A T) (x : Int) (hf : ∀ r ∈ A.runs, r.1 <= 1000000) {R : Int -> Hp -> Prop} (hR : ∀ σ', Ext F U σ' -> AHY σ' (Grow F U) Y (ZO A x) T -> R (ZS A x) σ') :
 WZ.call (some ⟨Y.p, 0, none⟩) x U R := by
 refine WZ.of_vc ?_
 unfold WZ.vc
 obtain ⟨gr, hm, hput⟩ := h.runsS
 refine Qx h (ifF rfl (nilP (h.hd.rM rfl ⟨_, hm, ?_⟩)))
 rw [WgF]
 cases hr : (A.runs.find? fun r => (r.1 : Int) == x) with
 | none =>
  have e1 : ZS A x = 8 := by unfold ZS KB; rw [hr]; rfl
  have e2 : ZO A x = A := by unfold ZO KB; rw [hr]
  have := hR U (Ext.refl _ _) (by rw [e2]; exact h.mono fun b _ hb => .inl hb)
  rw [e1] at this
  exact ifT rfl this
 | some r =>
  have e1 : ZS A x = 0 := by unfold ZS KB; rw [hr]; rfl
  have e2 : ZO A x = Q3 { A with runs := A.runs.filter fun q => !((q.1 : Int) == x) } r := by unfold ZO KB; rw [hr]
  have hrm := List.mem_of_find?_eq_some hr
  have hrx : (r.1 : Int) = x := by simpa using List.find?_some hr
  refine ifF rfl (nilP (h.hd.rM rfl ⟨_, hm, fun v1 ho1 _ hm1 => ?_⟩))
  have o1 := ho1 _ rfl
  have hm1' : MapL v1 Y.rn .i64 (.i .i64) (mdel (runI A.runs) x) := hm1
  rw [Wgx] at hm1'
  have hA1 := hput v1 _ o1 hm1'
  simp only [Option.map_some, Option.getD_some]
  refine nw (cs := [.int .i64 x, .int .i64 (r.2 : Int)]) fun v2 hz2 e2' hb2 => ?_
  have hA2 := hA1.cut.keep0 e2'
  have hsl : SlR ⟨some ⟨v1.size, 0, none⟩, 1, 1⟩ 2 (rV [r]) v2 (· = v1.size) := by
   refine ⟨rfl, .inr ⟨_, 0, _, rfl, rfl, hb2.q, fun j hj => ?_⟩⟩
   have : rV [r] = [.int .i64 (r.1 : Int), .int .i64 (r.2 : Int)] := rfl
   rw [this, hrx, Nat.zero_add]
  refine WbG hA2 hsl (fun b _ hb hc => by have := hc.2; omega) (by simp) (fun q hq => by simp at hq; subst hq; exact hf _ hrm) fun v3 e3 hA3 => ?_
  have e13 : Ext F U v3 := (o1.ext.sub fun b hb => by subst hb; exact gr).trans ((Ext0.to e2').trans (e3.sub fun b hb => hb.1))
  have := hR v3 e13 (by
   rw [e2]
   exact hA3.mono fun b _ hb => by
    rcases hb with hb | hb
    ·exact .inl hb.1
    ·exact .inr (by have := o1.1; omega))
  rw [e1] at this; exact this
theorem Zv (rs : List (Nat × Nat)) : ∀ A : AR, (QD A rs).tb = A.tb /\ (QD A rs).room = A.room /\ (QD A rs).tra = A.tra /\ (QD A rs).cen = A.cen /\ (QD A rs).runs = A.runs /\ (QD A rs).n = A.n := by
 induction rs with
 | nil => intro A; exact ⟨rfl, rfl, rfl, rfl, rfl, rfl⟩
 | cons r rs ih => intro A; exact ih (Q3 A r)
theorem Waz (A : AR) (k : Int) (xs : List Int) : (Yu A k xs).tb = A.tb /\ (Yu A k xs).room = A.room /\ (Yu A k xs).tra = A.tra /\ (Yu A k xs).runs = A.runs /\ (Yu A k xs).n = A.n := by
 unfold Yu
 split
 ·split
  ·exact ⟨(Zv _ _).1, (Zv _ _).2.1, (Zv _ _).2.2.1, (Zv _ _).2.2.2.2.1, (Zv _ _).2.2.2.2.2⟩
  ·exact ⟨rfl, rfl, rfl, rfl, rfl⟩
 ·exact ⟨rfl, rfl, rfl, rfl, rfl⟩
theorem AHY.chT {T' : Nat -> Hp -> Rg -> Prop} (h : AHY U F Y A T) (hT : ∀ k, Lcl (T' k)) (hi : ∀ k G, T k U G -> T' k U G) : AHY U F Y A T' := by
 refine ⟨h.lay, hT, ?_⟩
 obtain ⟨ρ, hs⟩ := h.sep
 refine ⟨ρ, fun i => ?_⟩
 have := hs i
 cases i <;> first | exact this | exact hi _ _ this
theorem WcY (h : AHY U F Y A T) {k : Nat} (hk : k < A.tb.length) {q : Nat} (hq : Y.cps[k]? = some q) {K : Hp -> Prop} (hK : ∀ σ', Ext F U σ' -> AHY σ' (Grow F U) Y (ZD A k) T -> K σ') :
 W4.call (some ⟨q, 0, none⟩) U fun t34 v2 => Xg.call (some ⟨Y.p, 0, none⟩) t34 v2 K := by
 obtain ⟨c, ss, q', t, r, hc, hss, hq', _, _, hok⟩ := h.at_ hk
 rw [hq] at hq'; cases hq'
 obtain ⟨G, hG, ⟨ps, hC⟩, hd, hput⟩ := h.cenS hq hc hss
 refine WbW hC fun o σ1 e1 hrow hC1 => ?_
 have hA1 := hput σ1 _ _ (Cut G U) _ e1 (fun b hb => .inl hb.1) hC1 (Wex hG)
 rw [WdU] at hrow
 have eS : ZD A k = QD { A with cen := A.cen.set k (sweep ss) } ((Zn ss).map fun s => (s, c.pages)) := by
  unfold ZD; rw [hc, hss]
 have hfew := hC.few
 have hst := hC.stB
 refine WbG hA1 hrow.slR (fun b _ hb hf => by have := hf.2; omega) ?_ (fun r hr => ?_) fun σ2 e2 hA2 => ?_
 ·have : (Zn ss).length <= ss.length := by unfold Zn; rw [List.length_map]; exact List.length_filter_le _ _
  rw [List.length_map]; omega
 ·obtain ⟨s, hs2, rfl⟩ := List.mem_map.1 hr
  unfold Zn at hs2
  simp only [List.mem_map, List.mem_filter] at hs2
  obtain ⟨z, hz, rfl⟩ := hs2
  have := hst z hz.1
  simp only; omega
 ·refine hK σ2 ((e1.sub hG).trans (e2.sub fun b hb => hb.1)) ?_
  rw [eS]
  exact hA2.mono fun b _ hb => by
   rcases hb with hb | hb
   ·exact .inl hb.1
   ·exact .inr (Nat.le_trans e1.1 hb)
theorem WaI (A : AR) (k : Nat) : (ZD A k).tb = A.tb /\ (ZD A k).room = A.room /\ (ZD A k).tra = A.tra /\ (ZD A k).runs = A.runs /\ (ZD A k).n = A.n := by
 unfold ZD
 split
 ·exact ⟨(Zv _ _).1, (Zv _ _).2.1, (Zv _ _).2.2.1, (Zv _ _).2.2.2.2.1, (Zv _ _).2.2.2.2.2⟩
 ·exact ⟨rfl, rfl, rfl, rfl, rfl⟩
theorem Wax (m : Nat) (A : AR) : ((List.range m).foldl ZD A).tb = A.tb /\ ((List.range m).foldl ZD A).room = A.room /\ ((List.range m).foldl ZD A).tra = A.tra /\ ((List.range m).foldl ZD A).runs = A.runs /\ ((List.range m).foldl ZD A).n = A.n := by
 induction m with
 | zero => exact ⟨rfl, rfl, rfl, rfl, rfl⟩
 | succ m ih =>
  rw [List.range_succ, List.foldl_append]
  have := WaI ((List.range m).foldl ZD A) m
  exact ⟨this.1.trans ih.1, this.2.1.trans ih.2.1, this.2.2.1.trans ih.2.2.1, this.2.2.2.1.trans ih.2.2.2.1, this.2.2.2.2.trans ih.2.2.2.2⟩
theorem Wel (h : AHY U F Y A T) {crow : Sl} (hcr : crow = Y.crow) {K : Hp -> Prop} (hK : ∀ σ', Ext F U σ' -> AHY σ' (Grow F U) Y (Zi A) T -> K σ') :
 Xe [(.i .i64)] (fun I => I 0 U) fun J (t28 : Int) v1 => If (decide (t28 < ((crow.len : Nat) : Int))) (Ix crow.a crow.len t28 1 fun a30 => LdP a30 v1 fun l => W4.call l v1 fun t34 v2 =>
  Xg.call (some ⟨Y.p, 0, none⟩) t34 v2 fun v3 => Ar .i64 (t28 + 1) fun t36 => J t36 v3) (K v1) := by
 subst hcr
 have hl := h.crowL
 refine YX (a := .i .i64) (fun (t : Int) v => ∃ i : Nat, t = (i : Int) /\ i <= A.tb.length /\ Ext F U v /\ AHY v (Grow F U) Y ((List.range i).foldl ZD A) T) (fun t _ => A.tb.length - t.toNat) ⟨0, rfl, by omega, Ext.refl _ _, h.mono fun b _ hb => .inl hb⟩ ?_
 rintro t v ⟨i, rfl, hi, e, hA⟩
 refine ifD (fun hlt => ?_) fun hge => ?_
 ·have hi' : i < A.tb.length := by omega
  have hfr := Wax i A
  obtain ⟨c, ss, q, t, r, hc, hss, hq, _, _, hok⟩ := h.at_ hi'
  refine hA.crowR hq (WcY hA.cut (by rw [hfr.1]; exact hi') hq fun v3 e3 hA3 => ?_)
  refine arN (m := i + 1) (by omega) (by have := h.lay.tb2; omega) ⟨⟨i + 1, rfl, by omega, e.growT (e3.sub fun b hb => hb.1), ?_⟩, by omega⟩
  rw [List.range_succ, List.foldl_append]
  exact hA3.mono fun b _ hb => by
   rcases hb with hb | hb
   ·exact hb.1
   ·exact .inr (Nat.le_trans e.1 hb)
 ·have : i = A.tb.length := by omega
  subst this
  exact hK v e hA
end Go.Ar
namespace Go.Ar
open Go Go.Vc Go.Proofs
open Go.Bu (XA Zg Xj cnt)


variable {U : Hp} {F : Rg} {p hs : Nat} {A : AR} {Y : Lay} {T : Nat -> Hp -> Rg -> Prop}
def TraI (A : AR) : Prop := ∀ t ∈ A.tra, ∀ xs ∈ t.bs, ∀ x ∈ xs, I63 x
theorem TrA.tick_sub (t : TrA) : ∀ xs ∈ t.tick.bs, xs ∈ t.bs := fun xs h => List.mem_of_mem_drop h
theorem TrA.out_sub (t : TrA) : ∀ xs ∈ t.out, xs ∈ t.bs := fun xs h => List.mem_of_mem_take h
theorem HP {α : Type} {l : List α} {k : Nat} {t : α} {f : α -> α} (h : l[k]? = some t) : l.modify k f = l.set k (f t) := by
 apply List.ext_getElem?
 intro i
 rw [List.getElem?_set, List.getElem?_modify]
 by_cases hi : k = i
 ·subst hi
  have := (gSi.1 h).1
  rw [if_pos rfl, if_pos this, h]; simp
 ·simp [hi]
theorem Vt (A : AR) (k : Nat) : (Z8 A k).tb = A.tb /\ (Z8 A k).room = A.room /\ (Z8 A k).tra = (match A.tra[k]? with | some t => A.tra.set k t.tick | none => A.tra) /\ (Z8 A k).runs = A.runs /\ (Z8 A k).n = A.n := by
 have key : ∀ (l : List (List Int)) (B : AR), (l.foldl (fun A' xs => Yu A' k xs) B).tb = B.tb /\ (l.foldl (fun A' xs => Yu A' k xs) B).room = B.room /\ (l.foldl (fun A' xs => Yu A' k xs) B).tra = B.tra /\ (l.foldl (fun A' xs => Yu A' k xs) B).runs = B.runs /\ (l.foldl (fun A' xs => Yu A' k xs) B).n = B.n := by
  intro l
  induction l with
  | nil => intro B; exact ⟨rfl, rfl, rfl, rfl, rfl⟩
  | cons x l ih =>
   intro B
   have h1 := ih (Yu B k x)
   have h2 := Waz B k x
   exact ⟨h1.1.trans h2.1, h1.2.1.trans h2.2.1, h1.2.2.1.trans h2.2.2.1, h1.2.2.2.1.trans h2.2.2.2.1, h1.2.2.2.2.trans h2.2.2.2.2⟩
 unfold Z8
 cases A.tra[k]? with
 | none => exact ⟨rfl, rfl, rfl, rfl, rfl⟩
 | some t => exact key _ _
theorem WcN {k : Nat} (h : TraI A) : TraI (Z8 A k) := by
 unfold TraI
 rw [(Vt A k).2.2.1]
 cases hk : A.tra[k]? with
 | none => exact h
 | some t =>
  intro t' ht'
  rcases List.mem_or_eq_of_mem_set ht' with h1 | h1
  ·exact h t' h1
  ·subst h1
   exact fun xs hxs => h t (List.mem_of_getElem? hk) xs (t.tick_sub xs hxs)
def Uu (A : AR) (Y : Lay) (k r : Nat) (c : Cls) (t : TrA) (out : Sl) (sls : List Sl) (j : Nat) : Hp -> Rg -> Prop :=
 if j = k then fun U G => TfH U G r c.batch A.room t.tick /\ SlR out 1 (sls.map slV) U G /\ Bat sls t.out U G else traT A Y j
theorem Uu.loc {k r : Nat} {c : Cls} {t : TrA} {out : Sl} {sls : List Sl} (j : Nat) : Lcl (Uu A Y k r c t out sls j) := by
 unfold Uu
 split
 ·exact fun U σ' F G ⟨h1, h2, h3⟩ hz hs => ⟨TfH.loc _ _ _ _ h1 hz hs, SlR.loc _ _ _ _ _ _ _ h2 hz hs, Bat.loc _ _ _ _ _ _ h3 hz hs⟩
 ·exact traT.loc j
theorem Wh5 {k r : Nat} {c : Cls} {t : TrA} {out : Sl} {sls : List Sl} {tr : List TrA} : ∀ j, j ≠ Lb.tra k -> AC { A with tra := tr } Y (Uu A Y k r c t out sls) j = AC A Y (traT A Y) j := by
 intro j hj
 cases j <;> first | rfl | skip
 rename_i k'
 have hne : ¬ k' = k := fun e => hj (by rw [e])
 simp only [AC, Uu]
 rw [if_neg hne]
theorem Wff (h : AHY U F Y A (traT A Y)) {k r : Nat} (hk : k < A.tb.length) (hr : Y.tps[k]? = some r) (hI : TraI A) {K : Hp -> Prop} (hK : ∀ σ', Ext F U σ' -> AHY σ' (Grow F U) Y (Z8 A k) (traT (Z8 A k) Y) -> K σ') :
 Xm.call (some ⟨r, 0, none⟩) U fun t20 v2 => Xe [(.i .i64)] (fun I1 => I1 0 v2) fun J1 (t22 : Int) v3 => If (decide (t22 < ((t20.len : Nat) : Int))) (Ix t20.a t20.len t22 1 fun a24 => LdS a24 v3 fun batch =>
  WD.call (some ⟨Y.p, 0, none⟩) (k : Int) batch v3 fun t29 v4 => Ar .i64 (t22 + 1) fun t30 => J1 t30 v4) (K v3) := by
 obtain ⟨c, ss, q, t, r', hc, hss, hq, ht, hr', hok⟩ := h.at_ hk
 rw [hr] at hr'; cases hr'
 obtain ⟨G, hG, hi, hd, hput⟩ := h.step (.tra k)
 have hC : TfH U G r c.batch A.room t := by
  simp only [AC, traT] at hi
  rw [hr, hc, ht] at hi
  exact hi
 refine Whq hC fun out v2 e2 hOut hC2 => ?_
 obtain ⟨sls, hO1, hO2⟩ := hOut
 have e2F := e2.sub hG
 have hOg : SlR out 1 (sls.map slV) v2 (Grow G U) := (SlR.loc _ _ _).mono hO1 fun b _ hb => .inl hb
 have hBg : Bat sls t.out v2 (Grow G U) := (Bat.loc _ _).mono hO2 fun b _ hb => .inl hb
 have hA2 : AHY v2 (Grow F U) Y { A with tra := A.tra.set k t.tick } (Uu A Y k r c t out sls) := by
  refine hput v2 _ _ _ (Grow G U) _ ?_ Uu.loc Wh5 e2 (fun b hb => hb) ?_ (Q8 hG fun b hb => hb)
  ·exact ⟨h.lay.c, h.lay.t, h.lay.cen, by simpa using h.lay.tra, h.lay.tb1, h.lay.tb2, h.lay.n1, h.lay.n2, h.lay.n3, h.lay.st, h.lay.room, h.lay.ok⟩
  ·simp only [AC, Uu, if_true]
   exact ⟨hC2, hOg, hBg⟩
 have hol : out.len = t.out.length := by
  have := hO1.1; have := hO2.1; simp at *; omega
 have hfew : t.out.length <= 8 := by
  have h1 := hC.few; have h2 := hC.r1
  have : t.out.length <= t.bs.length := by unfold TrA.out; rw [List.length_take]; omega
  omega
 refine YX (a := .i .i64) (fun (i : Int) w => ∃ j : Nat, i = (j : Int) /\ j <= t.out.length /\ Ext F U w /\ AHY w (Grow F U) Y ((t.out.take j).foldl (fun A' xs => Yu A' k xs) { A with tra := A.tra.set k t.tick }) (Uu A Y k r c t out sls)) (fun i _ => t.out.length - i.toNat) ⟨0, rfl, by omega, e2F, hA2⟩ ?_
 rintro i w ⟨j, rfl, hj, ew, hAw⟩
 refine ifD (fun hlt => ?_) fun hge => ?_
 ·have hj' : j < t.out.length := by omega
  have hx : t.out[j]? = some t.out[j] := gGe hj'
  have htk : t.out.take (j + 1) = t.out.take j ++ [t.out[j]] := by rw [List.take_add_one, hx]; rfl
  have hmem := t.out_sub _ (List.getElem_mem hj')
  generalize t.out[j] = xs at *
  obtain ⟨G2, hG2, hT2⟩ := hAw.sep.get (.tra k)
  simp only [AC, Uu, if_true] at hT2
  have hsj : j < sls.length := by rw [hT2.2.2.1]; exact hj'
  have hs : sls[j]? = some sls[j] := gGe hsj
  refine hT2.2.1.ixS hs (KP (xs := xs) hAw k (hI t (List.mem_of_getElem? ht) xs hmem) (by have := hC.all xs hmem; have := hC.b1; omega) (hT2.2.2.2 j _ xs hs hx).2 (.inr ⟨k, fun H hTH => ?_⟩) fun w2 e3 hA3 => ?_)
  ·unfold Uu at hTH
   rw [if_pos rfl] at hTH
   exact (hTH.2.2.2 j _ xs hs hx).1
  ·refine arN (m := j + 1) (by omega) (by omega) ⟨⟨j + 1, rfl, by omega, ew.growT e3, ?_⟩, by omega⟩
   rw [htk, List.foldl_append]
   exact hA3.mono fun b _ hb => by
    rcases hb with hb | hb
    ·exact hb
    ·exact .inr (Nat.le_trans ew.1 hb)
 ·have : j = t.out.length := by omega
  subst this
  rw [List.take_length] at hAw
  have hfr := Vt A k
  rw [ht] at hfr
  have e1 : Z8 A k = t.out.foldl (fun A' xs => Yu A' k xs) { A with tra := A.tra.set k t.tick } := by unfold Z8; rw [ht]
  rw [← e1] at hAw
  refine hK w ew (hAw.chT (fun j => traT.loc j) fun j G3 hT3 => ?_)
  unfold Uu at hT3
  unfold traT
  rw [hfr.1, hfr.2.1, hfr.2.2.1]
  simp only
  split at hT3
  ·rename_i hjk
   subst hjk
   rw [hr, hc, List.getElem?_set_self (by rw [h.lay.tra]; exact hk)]
   exact hT3.1
  ·rename_i hjk
   rw [List.getElem?_set_ne (fun e => hjk e.symm)]
   exact hT3
theorem Wbt (m : Nat) (A : AR) (hI : TraI A) : ((List.range m).foldl Z8 A).tb = A.tb /\ ((List.range m).foldl Z8 A).tra.length = A.tra.length /\ ((List.range m).foldl Z8 A).runs = A.runs /\ ((List.range m).foldl Z8 A).n = A.n /\ TraI ((List.range m).foldl Z8 A) := by
 induction m with
 | zero => exact ⟨rfl, rfl, rfl, rfl, hI⟩
 | succ m ih =>
  rw [List.range_succ, List.foldl_append]
  have := Vt ((List.range m).foldl Z8 A) m
  refine ⟨this.1.trans ih.1, ?_, this.2.2.2.1.trans ih.2.2.1, this.2.2.2.2.trans ih.2.2.2.1, WcN ih.2.2.2.2⟩
  show (Z8 ((List.range m).foldl Z8 A) m).tra.length = _
  rw [this.2.2.1]
  split
  ·rw [List.length_set]; exact ih.2.1
  ·exact ih.2.1
theorem Wfy (h : AHY U F Y A (traT A Y)) (hI : TraI A) {R : Hp -> Prop} (hR : ∀ σ', Ext F U σ' -> AHY σ' (Grow F U) Y (QB A) (traT (QB A) Y) -> R σ') : YG.call (some ⟨Y.p, 0, none⟩) U R := by
 refine YG.of_vc ?_
 unfold YG.vc
 refine Qx h (ifF rfl (nilP (h.hd.rS rfl ?_)))
 have hl := h.trowL
 refine YX (a := .i .i64) (fun (t : Int) v => ∃ i : Nat, t = (i : Int) /\ i <= A.tb.length /\ Ext F U v /\ AHY v (Grow F U) Y ((List.range i).foldl Z8 A) (traT ((List.range i).foldl Z8 A) Y)) (fun t _ => A.tb.length - t.toNat) ⟨0, rfl, by omega, Ext.refl _ _, h.mono fun b _ hb => .inl hb⟩ ?_
 rintro t v ⟨i, rfl, hi, e, hA⟩
 refine ifD (fun hlt => ?_) fun hge => ?_
 ·have hi' : i < A.tb.length := by simp only at hlt; omega
  have hfr := Wbt i A hI
  obtain ⟨c, ss, q, t, r, hc, hss, hq, _, hr, hok⟩ := h.at_ hi'
  refine hA.trowR hr (Wff hA.cut (by rw [hfr.1]; exact hi') hr hfr.2.2.2.2 fun v3 e3 hA3 => ?_)
  refine arN (m := i + 1) (by omega) (by have := h.lay.tb2; omega) ⟨⟨i + 1, rfl, by omega, e.growT (e3.sub fun b hb => hb.1), ?_⟩, by omega⟩
  rw [List.range_succ, List.foldl_append]
  exact hA3.mono fun b _ hb => by
   rcases hb with hb | hb
   ·exact hb.1
   ·exact .inr (Nat.le_trans e.1 hb)
 ·have : i = A.tb.length := by simp only at hge; omega
  subst this
  refine hR v e ?_
  unfold QB
  rw [h.lay.tra]; exact hA
end Go.Ar
namespace Go.Bu


variable {n : Nat} {S : Nat -> Bool}
theorem Kr {m a k x : Nat} (h : Zf n S m a k = some x) : ∃ j, j < k /\ m <= 2 ^ j /\ a <= 2 ^ j /\ (Qj n S j).head? = some x /\ ∀ i, i < j -> m <= 2 ^ i -> a <= 2 ^ i -> Qj n S i = [] := by
 have H5 : ∀ k, Zf n S m a k = none -> ∀ i, i < k -> m <= 2 ^ i -> a <= 2 ^ i -> Qj n S i = [] := by
  intro k
  induction k with
  | zero => intro _ i hi; omega
  | succ k ih =>
   intro hn i hi h1 h2
   rw [Zf] at hn
   split at hn
   ·cases hn
   ·rename_i hn'
    by_cases e : i = k
    ·subst e
     rw [if_pos ⟨h1, h2⟩] at hn
     simpa using hn
    ·exact ih hn' i (by omega) h1 h2
 induction k with
 | zero => simp [Zf] at h
 | succ k ih =>
  rw [Zf] at h
  split at h
  ·rename_i y hy
   cases h
   obtain ⟨j, h1, h2⟩ := ih hy
   exact ⟨j, by omega, h2⟩
  ·rename_i hn
   split at h
   ·rename_i hc
    exact ⟨k, by omega, hc.1, hc.2, h, H5 k hn⟩
   ·cases h
theorem Vw {m a : Nat} : ∀ {k}, Zf n S m a k = none -> ∀ i, i < k -> m <= 2 ^ i -> a <= 2 ^ i -> Qj n S i = []
 | 0, _, i, hi, _, _ => by omega
 | k + 1, hn, i, hi, h1, h2 => by
  rw [Zf] at hn
  split at hn
  ·cases hn
  ·rename_i hn'
   by_cases e : i = k
   ·subst e
    rw [if_pos ⟨h1, h2⟩] at hn
    simpa using hn
   ·exact Vw hn' i (by omega) h1 h2
theorem take_in (hb : Bounded S n) {m a x : Nat} (h : Xj n S m a = some x) : x + m <= n /\ ∀ y, x <= y -> y < x + m -> S y = true := by
 obtain ⟨j, _, hm, _, hh, _⟩ := Kr h
 have hmem : x ∈ Qj n S j := List.mem_of_head? hh
 obtain ⟨q, rfl, hc⟩ := (ZW hb).1 hmem
 have := Zd hb (Y4.1 hc).1
 exact ⟨by omega, fun y h1 h2 => QH hc (Zo.2 (by omega))⟩
end Go.Bu
namespace Go.Ar
open Go Go.Vc Go.Proofs
open Go.Bu (XA Zg Xj cnt)


variable {U : Hp} {F H : Rg} {p hs : Nat} {A : AR} {sp : Sp} {Y : Lay} {T : Nat -> Hp -> Rg -> Prop}
structure W2 (U : Hp) (F H : Rg) (Y : Lay) (A : AR) (T : Nat -> Hp -> Rg -> Prop) (sp : Sp) : Prop where
 a : AHY U F Y A T
 s : SpH3 U H Y.hs sp
 d : ∀ b, F b -> ¬ H b
 g : Gl U
 o : Off F
 o2 : Off H
def Both (F H : Rg) : Rg := fun b => F b ∨ H b
theorem W2.arena (h : W2 U F H Y A T sp) {σ' : Hp} {A' : AR} (e : Ext F U σ') (ha : AHY σ' F Y A' T) : W2 σ' F H Y A' T sp :=
 ⟨ha, Lcl.keep SpH3.loc h.s e fun b _ hb hf => h.d b hf hb, h.d, h.g.keep e h.o, h.o, h.o2⟩
theorem W2.space (h : W2 U F H Y A T sp) {σ' : Hp} {sp' : Sp} (e : Ext H U σ') (hs : SpH3 σ' H Y.hs sp') : W2 σ' F H Y A T sp' :=
 ⟨Lcl.keep AHY.loc h.a e fun b _ hb hf => h.d b hb hf, hs, h.d, h.g.keep e h.o2, h.o, h.o2⟩
theorem W2.keep0 (h : W2 U F H Y A T sp) {σ' : Hp} (e : Ext0 U σ') : W2 σ' F H Y A T sp := ⟨h.a.keep0 e, h.s.keep0 e, h.d, h.g.keep0 e, h.o, h.o2⟩
theorem W2.cut (h : W2 U F H Y A T sp) : W2 U (Cut F U) (Cut H U) Y A T sp := ⟨h.a.cut, Lcl.cut SpH3.loc h.s, fun b hb hc => h.d b hb.1 hc.1, h.g, h.o.sub fun b hb => hb.1, h.o2.sub fun b hb => hb.1⟩
theorem W2.arenaG (h : W2 U F H Y A T sp) {σ' : Hp} {A' : AR} (e : Ext F U σ') (ha : AHY σ' (Grow F U) Y A' T) : W2 σ' (Grow F U) (Cut H U) Y A' T sp :=
 ⟨ha, Lcl.keep SpH3.loc (Lcl.cut SpH3.loc h.s) e fun b _ hb hf => h.d b hf hb.1, fun b hb hc => by
  rcases hb with hb | hb
  ·exact h.d b hb hc.1
  ·have := hc.2; omega, h.g.keep e h.o, h.o.grow h.g, h.o2.sub fun b hb => hb.1⟩
theorem W2.rSp (h : W2 U F H Y A T sp) {K : Option Addr -> Prop} (hK : K (some ⟨Y.hs, 0, none⟩)) : LdP (Addr.add ⟨Y.p, 0, none⟩ 1) U K := h.a.hd.rP rfl hK
theorem HV (st : List Nat) (a m : Nat) : Vi st a (m + 1) = addT (Vi st a m) ((a + m : Nat) : Int) := by
 unfold Vi; rw [List.range_succ, List.map_append, List.foldl_append]; rfl
theorem Wfz {a m : Int} (h : mapE sp a m ≠ 0) : mapS sp a m = sp := by unfold mapS; rw [if_neg h]
theorem HG {size : Nat} (h1 : 1 <= size) (h : ∀ j, 1 <= j -> j * size + size <= sp.st.length -> mapE sp ((j * size : Nat) : Int) (size : Int) ≠ 0) : ZA sp size = none := by
 unfold ZA
 rw [List.find?_eq_none]
 intro x hx
 obtain ⟨j, hj, rfl⟩ := List.mem_map.1 hx
 rw [List.mem_range] at hj
 have h2 : (j + 1) * size <= sp.st.length := Nat.le_trans (Nat.mul_le_mul_right size hj) (Nat.div_mul_le_self _ _)
 rw [Nat.add_mul, Nat.one_mul] at h2
 by_cases h0 : j = 0
 ·subst h0; simp
 ·have := h j (by omega) h2
  have hbe : (mapE sp ((j * size : Nat) : Int) (size : Int) == 0) = false := by simpa only [beq_eq_false_iff_ne] using this
  rw [hbe, Bool.and_false]; simp
theorem HH {size j : Nat} (h1 : 1 <= size) (h0 : 1 <= j) (hf : j * size + size <= sp.st.length) (hm : mapE sp ((j * size : Nat) : Int) (size : Int) = 0) (h : ∀ i, 1 <= i -> i < j -> mapE sp ((i * size : Nat) : Int) (size : Int) ≠ 0) : ZA sp size = some (j * size) := by
 unfold ZA
 have hj : j < sp.st.length / size := by
  rw [Nat.lt_iff_add_one_le, Nat.le_div_iff_mul_le h1, Nat.add_mul, Nat.one_mul]; exact hf
 have hsplit : List.range (sp.st.length / size) = List.range j ++ (j :: (List.range (sp.st.length / size - j - 1)).map (j + 1 + ·)) := by
  apply List.ext_getElem?
  intro i
  rw [List.getElem?_append, List.length_range]
  by_cases hi : i < j
  ·rw [if_pos hi, List.getElem?_range (by omega), List.getElem?_range hi]
  ·rw [if_neg hi]
   by_cases hij : i = j
   ·subst hij; rw [Nat.sub_self, List.getElem?_cons_zero, List.getElem?_range hj]
   ·rw [show i - j = (i - j - 1) + 1 by omega, List.getElem?_cons_succ, List.getElem?_map]
    by_cases hl : i < sp.st.length / size
    ·rw [List.getElem?_range hl, List.getElem?_range (by omega)]
     simp only [Option.map_some]
     congr 1; omega
    ·rw [List.getElem?_eq_none (by rw [List.length_range]; omega), List.getElem?_eq_none (by rw [List.length_range]; omega)]; rfl
 rw [hsplit, List.map_append, List.find?_append]
 have hnone : ((List.range j).map (· * size)).find? (fun (s : Nat) => s != 0 && mapE sp s size == 0) = none := by
  rw [List.find?_eq_none]
  intro x hx
  obtain ⟨i, hi, rfl⟩ := List.mem_map.1 hx
  rw [List.mem_range] at hi
  by_cases h0 : i = 0
  ·subst h0; simp
  ·have := h i (by omega) hi
   have hbe : (mapE sp ((i * size : Nat) : Int) (size : Int) == 0) = false := by simpa only [beq_eq_false_iff_ne] using this
   rw [hbe, Bool.and_false]; simp
 rw [hnone, List.map_cons, List.find?_cons]
 have : (j * size != 0 && mapE sp ((j * size : Nat) : Int) (size : Int) == 0) = true := by
  rw [hm]
  have hp : 0 < j * size := Nat.mul_pos (by omega) (by omega)
  have hne : j * size ≠ 0 := by omega
  simp [hne]
 rw [this]; rfl
theorem WgC (h : W2 U F H Y A T sp) {size : Nat} (h1 : size = 16 ∨ size = 32 ∨ size = 64) {R : Bool -> Hp -> Prop} (h0 : Kg A sp size = none -> ∀ σ', Ext (Both F H) U σ' -> W2 σ' F H Y A T sp -> R false σ')
 (hR : ∀ A' sp', Kg A sp size = some (A', sp') -> ∀ σ', Ext (Both F H) U σ' -> W2 σ' F H Y A' T sp' -> R true σ') : YD.call (some ⟨Y.p, 0, none⟩) (size : Int) U R := by
 refine YD.of_vc ?_
 unfold YD.vc
 have hn2 : sp.st.length <= 1024 := by obtain ⟨q, r, l, B, hh⟩ := h.s; exact hh.n2
 have es : ∀ {a b : Hp}, Ext H a b -> Ext (Both F H) a b := fun e => e.sub fun b hb => .inr hb
 have ea : ∀ {a b : Hp}, Ext F a b -> Ext (Both F H) a b := fun e => e.sub fun b hb => .inl hb
 have hmul : ∀ j, j * size + size = (j + 1) * size := fun j => by rw [Nat.add_mul, Nat.one_mul]
 refine YX (a := .i .i64) (fun (t : Int) v => ∃ j : Nat, t = ((j * size : Nat) : Int) /\ 1 <= j /\ j * size <= 1024 + 64 /\ Ext (Both F H) U v /\ W2 v F H Y A T sp /\ ∀ i, 1 <= i -> i < j -> i * size + size <= sp.st.length -> mapE sp ((i * size : Nat) : Int) (size : Int) ≠ 0) (fun t _ => 2000 - t.toNat)
  ⟨1, by omega, Nat.le_refl _, by omega, Ext.refl _ _, h, fun i h1 h2 => by omega⟩ ?_
 rintro t v ⟨j, rfl, hj, hb, e, hW, hall⟩
 refine arN (m := j * size + size) (by omega) (by omega) (nilP (hW.rSp (QG hW.s (ifD (fun hlt => ?_) fun hge => ?_))))
 ·have hf : j * size + size <= sp.st.length := by omega
  refine nilP (hW.rSp (Wir hW.s hW.g hW.o2 _ _ fun v2 e2 hS2 => ?_))
  refine iff_ (fun hc => ?_) fun hc => ?_
  ·have hne : mapE sp ((j * size : Nat) : Int) (size : Int) ≠ 0 := by simpa using hc
   rw [Wfz hne] at hS2
   refine arN (m := (j + 1) * size) (by rw [← hmul]; omega) (by rw [← hmul]; omega) ⟨⟨j + 1, rfl, by omega, by rw [← hmul]; omega, e.trans (es e2), hW.space e2 hS2, fun i hi1 hi2 hif => ?_⟩, by rw [← hmul]; omega⟩
   by_cases hij : i = j
   ·subst hij; exact hne
   ·exact hall i hi1 (by omega) hif
  ·have hm0 : mapE sp ((j * size : Nat) : Int) (size : Int) = 0 := by simpa using hc
   have hW2 := hW.space e2 hS2
   have hfit : ∀ i, i < j -> i * size + size <= sp.st.length := fun i hi => by
    have : (i + 1) * size <= j * size := Nat.mul_le_mul_right _ hi
    rw [hmul]; omega
   have hgs := HH (sp := sp) (by omega) hj hf hm0 fun i hi1 hi2 => hall i hi1 hi2 (hfit i hi2)
   have hga : Kg A sp size = some ({ A with st := Vi A.st (j * size / 16) (size / 16), S := Zg A.n A.S ((j * size : Nat) : Int) size }, mapS sp ((j * size : Nat) : Int) size) := by unfold Kg; rw [hgs]
   have hd16 : (j * size) % 16 = 0 := by
    rcases h1 with rfl | rfl | rfl
    ·omega
    ·omega
    ·omega
   refine nz (by decide) (arN (m := j * size / 16) (by rw [ZJ (by omega)]; simp) (by omega) ?_)
   refine YX (a := .i .i64) (fun (t : Int) w => ∃ i : Nat, t = ((j * size / 16 + i : Nat) : Int) /\ i <= size / 16 /\ Ext (Both F H) U w /\ W2 w F H Y { A with st := Vi A.st (j * size / 16) i } T (mapS sp ((j * size : Nat) : Int) size)) (fun t _ => 200 - t.toNat)
    ⟨0, by omega, by omega, e.trans (es e2), hW2⟩ ?_
   rintro t w ⟨i, rfl, hi, ew, hWw⟩
   refine arN (m := j * size + size) (by omega) (by omega) (nz (by decide) (arN (m := (j * size + size) / 16) (by rw [ZJ (by omega)]; simp) (by omega) (ifD (fun hlt2 => ?_) fun hge2 => ?_)))
   ·refine nilP (hWw.a.hd.rP rfl (hWw.a.AddH _ fun w2 t2 e3 hA3 => ?_))
    refine arN (m := j * size / 16 + (i + 1)) (by omega) (by omega) ⟨⟨i + 1, rfl, by omega, ew.trans (ea e3), ?_⟩, by omega⟩
    rw [HV]
    exact hWw.arena e3 hA3
   ·have hii : i = size / 16 := by omega
    subst hii
    refine nilP (hWw.a.hd.rP rfl (hWw.a.Give _ _ fun w2 t2 e3 hA3 => ?_))
    exact hR _ _ hga w2 (ew.trans (ea e3)) (hWw.arena e3 hA3)
 ·have hgs := HG (sp := sp) (size := size) (by omega) fun i hi1 hif => by
   by_cases hij : i < j
   ·exact hall i hi1 hij hif
   ·have : j * size <= i * size := Nat.mul_le_mul_right _ (by omega)
    omega
  have hga : Kg A sp size = none := by unfold Kg; rw [hgs]
  exact h0 hga v e hW
theorem WcA {m a : Nat} (h1 : 1 <= m) (h2 : m <= 64) (ha : a = 1 ∨ a = 2 ∨ a = 4 ∨ a = 8 ∨ a = 16) : Go.Bu.takeArg (m : Int) (a : Int) = true := by
 have hp : Go.Bu.isPow (a : Int) = true := by rcases ha with rfl | rfl | rfl | rfl | rfl <;> decide
 unfold Go.Bu.takeArg
 rw [hp]
 simp only [Bool.and_true, Bool.and_eq_true, decide_eq_true_eq]
 omega
theorem W2.take (h : W2 U F H Y A T sp) {m a : Nat} (hok : Go.Bu.takeArg (m : Int) (a : Int) = true) {R : Int -> Int -> Hp -> Prop} (h0 : Xj A.n A.S m a = none -> ∀ σ', Ext F U σ' -> W2 σ' F H Y A T sp -> R 0 6 σ')
 (h1 : ∀ x, Xj A.n A.S m a = some x -> x + m <= A.n -> ∀ σ', Ext F U σ' -> W2 σ' F H Y { A with S := Go.Bu.take A.S x (x + m) } T sp -> R (x : Int) 0 σ') : XT.call (some ⟨Y.fr, 0, none⟩) (m : Int) (a : Int) U R := by
 have hbnd : Go.Bu.Bounded A.S A.n := by obtain ⟨sb, ms, hB, _⟩ := h.a.free; exact hB.bnd
 refine h.a.TakeB _ _ fun σ' e hA => ?_
 have hW := h.arena e hA
 cases ht : Xj A.n A.S m a with
 | none =>
  have e1 : Go.Bu.takeE A.n A.S (m : Int) (a : Int) = 6 := by unfold Go.Bu.takeE; rw [hok, if_pos rfl]; simp only [iTn]; rw [ht]
  have e2 : Go.Bu.takeV A.n A.S (m : Int) (a : Int) = 0 := by unfold Go.Bu.takeV; rw [hok, if_pos rfl]; simp only [iTn]; rw [ht]
  have e3 : Go.Bu.takeS A.n A.S (m : Int) (a : Int) = A.S := by unfold Go.Bu.takeS; rw [hok, if_pos rfl]; simp only [iTn]; rw [ht]
  rw [e1, e2]; rw [e3] at hW
  exact h0 ht σ' e hW
 | some x =>
  have e1 : Go.Bu.takeE A.n A.S (m : Int) (a : Int) = 0 := by unfold Go.Bu.takeE; rw [hok, if_pos rfl]; simp only [iTn]; rw [ht]
  have e2 : Go.Bu.takeV A.n A.S (m : Int) (a : Int) = x := by unfold Go.Bu.takeV; rw [hok, if_pos rfl]; simp only [iTn]; rw [ht]
  have e3 : Go.Bu.takeS A.n A.S (m : Int) (a : Int) = Go.Bu.take A.S x (x + m) := by unfold Go.Bu.takeS; rw [hok, if_pos rfl]; simp only [iTn]; rw [ht]
  rw [e1, e2]; rw [e3] at hW
  exact h1 x ht (Go.Bu.take_in hbnd ht).1 σ' e hW
theorem Wg5 {size : Nat} {A' : AR} {sp' : Sp} (h : Kg A sp size = some (A', sp')) : A'.n = A.n := by
 unfold Kg at h
 split at h
 ·cases h
 ·cases h; rfl
def Fits (U : Hp) (F H F' H' : Rg) : Prop := (∀ b, F' b -> Grow F U b) /\ ∀ b, H' b -> H b
theorem WgM (h : W2 U F H Y A T sp) {m a no : Nat} (h1 : 1 <= m) (h2 : m <= 64) (ha : a = 1 ∨ a = 2 ∨ a = 4 ∨ a = 8 ∨ a = 16) (hn1 : 1 <= no) (hn2 : no <= 1000) {R : Int -> Int -> Hp -> Prop}
 (h0 : (getA A sp m a no).1 = none -> ∀ σ', Ext (Both F H) U σ' -> W2 σ' F H Y (getA A sp m a no).2.1 T (getA A sp m a no).2.2 -> R 0 6 σ')
 (hR : ∀ x, (getA A sp m a no).1 = some x -> x + m <= A.n -> ∀ σ' F' H', Fits U F H F' H' -> Ext (Both F H) U σ' -> W2 σ' F' H' Y (getA A sp m a no).2.1 T (getA A sp m a no).2.2 -> R (x : Int) 0 σ') :
 Yz.call (some ⟨Y.p, 0, none⟩) (m : Int) (a : Int) (no : Int) U R := by
 refine Yz.of_vc ?_
 unfold Yz.vc
 have hok := WcA h1 h2 ha
 have es : ∀ {a b : Hp}, Ext H a b -> Ext (Both F H) a b := fun e => e.sub fun b hb => .inr hb
 have ea : ∀ {a b : Hp}, Ext F a b -> Ext (Both F H) a b := fun e => e.sub fun b hb => .inl hb
 have fin : ∀ (v : Hp) (x : Nat) (A1 : AR) (sp1 : Sp), Ext (Both F H) U v -> x + m <= A.n -> W2 v F H Y { A1 with S := Go.Bu.take A1.S x (x + m) } T sp1 -> getA A sp m a no = (some x, useA A1 x m no, sp1) →
  NilP (some ⟨Y.p, 0, none⟩) fun a50 => LdP (a50.add 3) v fun t52 => XL.call t52 (x : Int) (m : Int) v fun t55 v2 => NilP (some ⟨Y.p, 0, none⟩) fun a57 => LdP (a57.add 4) v2 fun t59 => X3.call t59 (x : Int) (m : Int) (no : Int) v2 fun t63 v3 => R (x : Int) 0 v3 := by
  intro v x A1 sp1 e hxm hW hg
  have hxl : x <= 1000000 := by have := h.a.lay.n2; omega
  refine nilP (hW.a.hd.rP rfl (hW.a.Use _ _ fun v2 t2 e2 hA2 => ?_))
  have hW2 := hW.arena e2 hA2
  refine nilP (hW2.a.hd.rP rfl (hW2.a.Set x m hxl hn1 hn2 fun v3 t3 e3 hA3 => ?_))
  have hW3 := hW2.arenaG e3 hA3
  refine hR x (by rw [hg]) hxm v3 (Grow F v2) (Cut H v2) ⟨fun b hb => ?_, fun b hb => hb.1⟩ ((e.trans (ea e2)).trans (ea e3)) (by rw [hg]; exact hW3)
  rcases hb with hb | hb
  ·exact .inl hb
  ·exact .inr (Nat.le_trans (e.trans (ea e2)).1 hb)
 refine nilP (h.a.hd.rP rfl (h.take hok (fun ht v e hW => ?_) fun x ht hxn v e hW => ?_))
 ·refine Jn.intro (ifT rfl ?_)
  have hmx : (if (a : Int) > (m : Int) then (a : Int) else (m : Int)) = ((max m a : Nat) : Int) := by
   by_cases hgt : (a : Int) > (m : Int)
   ·rw [if_pos hgt]; omega
   ·rw [if_neg hgt]; omega
  rw [hmx]
  refine YX (a := .i .i64) (fun (t : Int) w => w = v /\ (t = 16 ∨ t = 32 /\ 16 < max m a ∨ t = 64 /\ 32 < max m a)) (fun t _ => 100 - t.toNat) ⟨rfl, .inl rfl⟩ ?_
  rintro (t : Int) w ⟨rfl, hcase⟩
  have ha16 : a <= 16 := by omega
  refine ifD (fun hlt => ?_) fun hge => ?_
  ·have : t = 16 ∨ t = 32 := by omega
   rcases this with rfl | rfl
   ·exact ar (by omega) (by omega) ⟨⟨rfl, by omega⟩, by decide⟩
   ·exact ar (by omega) (by omega) ⟨⟨rfl, by omega⟩, by decide⟩
  ·have hup : t = ((ZZ (max m a) : Nat) : Int) := by
    unfold ZZ
    by_cases c1 : max m a <= 16
    ·rw [if_pos c1]; omega
    ·rw [if_neg c1]
     by_cases c2 : max m a <= 32
     ·rw [if_pos c2]; omega
     ·rw [if_neg c2]; omega
   subst hup
   have hsz : ZZ (max m a) = 16 ∨ ZZ (max m a) = 32 ∨ ZZ (max m a) = 64 := by omega
   refine WgC hW hsz (fun hg σ' e' hW' => ?_) fun A' sp' hg σ' e' hW' => ?_
   ·have hga : getA A sp m a no = (none, A, sp) := by unfold getA; rw [ht]; simp only; rw [hg]
    exact ifT rfl (h0 (by rw [hga]) σ' ((ea e).trans e') (by rw [hga]; exact hW'))
   ·refine ifF rfl (nilP (hW'.a.hd.rP rfl (hW'.take hok (fun ht2 v2 e2 hW2 => ?_) fun x ht2 hxn v2 e2 hW2 => ?_)))
    ·have hga : getA A sp m a no = (none, A', sp') := by unfold getA; rw [ht]; simp only; rw [hg]; simp only; rw [ht2]
     exact ifT rfl (h0 (by rw [hga]) v2 (((ea e).trans e').trans (ea e2)) (by rw [hga]; exact hW2))
    ·have hga : getA A sp m a no = (some x, useA A' x m no, sp') := by unfold getA; rw [ht]; simp only; rw [hg]; simp only; rw [ht2]
     exact ifF rfl (fin v2 x A' sp' (((ea e).trans e').trans (ea e2)) (by rw [← Wg5 hg]; exact hxn) hW2 hga)
 ·have hga : getA A sp m a no = (some x, useA A x m no, sp) := by unfold getA; rw [ht]
  refine Jn.intro (ifF rfl (ifF rfl (fin v x A sp (ea e) hxn hW hga)))
end Go.Ar
namespace Go.Ar
open Go Go.Vc Go.Proofs
open Go.Bu (XA Zg Xj cnt)


variable {U : Hp} {F H : Rg} {p hs : Nat} {A : AR} {sp : Sp} {Y : Lay} {T : Nat -> Hp -> Rg -> Prop}
theorem Fits.refl : Fits U F H F H := ⟨fun b hb => .inl hb, fun b hb => hb⟩
theorem Wck (h : W2 U F H Y A T sp) (k : Int) {R : Int -> Hp -> Prop} (hR : ∀ σ' F' H', Fits U F H F' H' -> Ext (Both F H) U σ' -> W2 σ' F' H' Y (ZX A sp k).1 T (ZX A sp k).2 -> R (KT A sp k) σ') :
 XJ.call (some ⟨Y.p, 0, none⟩) k U R := by
 refine XJ.of_vc ?_
 unfold XJ.vc
 refine K3 h.a k (fun hk => ?_) fun x hx hlt => ?_
 ·have e1 : KT A sp k = 1 := by unfold KT; rw [hk]; rfl
  have e2 : ZX A sp k = (A, sp) := by unfold ZX; rw [hk]; rfl
  have := hR U F H Fits.refl (Ext.refl _ _) (by rw [e2]; exact h)
  rw [e1] at this
  exact ifT rfl this
 ·subst hx
  have hk : A.ck (x : Int) = true := by unfold AR.ck; simp; omega
  obtain ⟨c, ss, q, t, r, hc, hss, hq, _, _, hok⟩ := h.a.at_ hlt
  have ht2 := h.a.lay.tb2
  obtain ⟨_, _, _, hp1, hp4, _⟩ := hok
  refine ifF rfl (nilP (h.a.hd.rS rfl (h.a.tabR (d := 1) hc (by omega) ?_)))
  simp only [if_neg (show ¬ (1 = 0) by omega), if_true]
  refine arN (m := x + 1) (by omega) (by omega) ?_
  have eE : KT A sp x = match (getA A sp c.pages 1 (x + 1)).1 with
   | some y => Uw c ss y
   | none => 6 := by unfold KT; rw [hk, if_pos rfl]; simp only [iTn]; rw [hc, hss]; rfl
  have eS : ZX A sp x = match getA A sp c.pages 1 (x + 1) with
   | (some y, A', sp') => (if Uw c ss y = 0 then { A' with cen := A'.cen.set x (addS c ss y) } else A', sp')
   | (none, A', sp') => (A', sp') := by unfold ZX; rw [hk, if_pos rfl]; simp only [iTn]; rw [hc, hss]; rfl
  refine WgM (a := 1) h hp1 (by omega) (.inl rfl) (by omega) (by omega) (fun hg σ' e hW => ?_) fun y hg hyn σ' F' H' hfit e hW => ?_
  ·have := hR σ' F H Fits.refl e
   rw [eE, eS, hg] at this
   generalize getA A sp c.pages 1 (x + 1) = g at *
   obtain ⟨g1, g2, g3⟩ := g
   simp only at hg; subst hg
   exact ifT rfl (this hW)
  ·have hfr : (getA A sp c.pages 1 (x + 1)).2.1.tb = A.tb /\ (getA A sp c.pages 1 (x + 1)).2.1.cen = A.cen := by
    unfold getA
    split
    ·exact ⟨rfl, rfl⟩
    ·split
     ·exact ⟨rfl, rfl⟩
     ·rename_i A1 sp1 hga
      have : A1.tb = A.tb /\ A1.cen = A.cen := by
       unfold Kg at hga
       split at hga
       ·cases hga
       ·cases hga; exact ⟨rfl, rfl⟩
      split
      ·exact this
      ·exact this
   have hRx := fun σ' F' H' => hR σ' F' H'
   rw [eE, eS] at hRx
   generalize getA A sp c.pages 1 (x + 1) = g at *
   obtain ⟨g1, A', sp'⟩ := g
   simp only at hg hW hfr hRx; subst hg
   simp only at hRx
   have hWc := hW
   obtain ⟨G, hG, ⟨ps, hC⟩, _, hput⟩ := hW.a.cenS hq (by rw [hfr.1]; exact hc) (by rw [hfr.2]; exact hss)
   have hn2 := h.a.lay.n2
   refine ifF rfl (nilP (hW.a.hd.rS rfl (hW.a.crowR hq (Wif hC (by omega) (fun h9 v e2 => ?_) fun h0 v ps' e2 hC2 => ?_))))
   ·have := hRx v F' H' hfit (e.trans0 e2) (by rw [h9]; exact hW.keep0 e2)
    rw [h9] at this; exact this
   ·have hA2 := hput v _ _ (Grow G σ') _ e2 (fun b hb => hb) hC2 (Q8 hG fun b hb => hb)
    have hW2 := hW.arenaG (e2.sub hG) hA2
    have := hRx v (Grow F' σ') (Cut H' σ') ⟨fun b hb => ?_, fun b hb => hfit.2 b hb.1⟩ (e.newT (e2.sub hG) fun b hb => ?_) (by rw [h0]; exact hW2)
    ·rw [h0] at this; exact this
    ·rcases hb with hb | hb
     ·exact hfit.1 b hb
     ·exact .inr (Nat.le_trans e.1 hb)
    ·rcases hfit.1 b hb with h1 | h1
     ·exact .inl (.inl h1)
     ·exact .inr h1
theorem Wi3 : ∀ a : Nat, a < 17 -> 1 <= a -> ((bits .and .i64 (a : Int) ((a : Int) - 1) != 0) = !(a == 1 || (a == 2 || (a == 4 || (a == 8 || a == 16))))) := by decide
theorem VF (h : W2 U F H Y A T sp) (m a : Int) {R : Int -> Int -> Hp -> Prop} (hR : ∀ σ' F' H', Fits U F H F' H' -> Ext (Both F H) U σ' -> W2 σ' F' H' Y (Yt A sp m a).1 T (Yt A sp m a).2 -> R ((QF A sp m a : Nat) : Int) (ZT A sp m a) σ') :
 W0.call (some ⟨Y.p, 0, none⟩) m a U R := by
 refine W0.of_vc ?_
 unfold W0.vc
 have bad : Qo m a = false -> R 0 1 U := fun hk => by
  have e1 : ZT A sp m a = 1 := by unfold ZT; rw [hk]; rfl
  have e2 : Yt A sp m a = (A, sp) := by unfold Yt; rw [hk]; rfl
  have e3 : QF A sp m a = 0 := by unfold QF; rw [hk]; rfl
  have := hR U F H Fits.refl (Ext.refl _ _) (by rw [e2]; exact h)
  rw [e1, e3] at this; exact this
 have badR : ¬ (1 <= m /\ m <= 64 /\ (a = 1 ∨ a = 2 ∨ a = 4 ∨ a = 8 ∨ a = 16)) -> R 0 1 U := fun hn => bad (by
  rw [← Bool.not_eq_true]
  intro hp
  unfold Qo at hp
  simp at hp
  omega)
 refine Qx h.a (ifF rfl (JnB.intro (ifD (fun c1 => JnB.intro (ifT rfl (JnB.intro (ifT rfl (JnB.intro (ifT rfl (ifT rfl (badR (by omega))))))))) fun c1 => ?_)))
 refine JnB.intro (ifD (fun c2 => JnB.intro (ifT rfl (JnB.intro (ifT rfl (ifT rfl (badR (by omega))))))) fun c2 => ?_)
 refine JnB.intro (ifD (fun c3 => JnB.intro (ifT rfl (ifT rfl (badR (by omega))))) fun c3 => ?_)
 refine JnB.intro (ifD (fun c4 => ifT rfl (badR (by omega))) fun c4 => ar (by omega) (by omega) ?_)
 obtain ⟨y, rfl⟩ := Int.eq_ofNat_of_zero_le (show 0 <= m by omega)
 obtain ⟨z, rfl⟩ := Int.eq_ofNat_of_zero_le (show 0 <= a by omega)
 rw [Wi3 z (by omega) (by omega)]
 refine iff_ (fun c5 => ?_) fun c5 => ?_
 ·refine badR (fun hh => ?_)
  simp at c5
  omega
 ·have hz : z = 1 ∨ z = 2 ∨ z = 4 ∨ z = 8 ∨ z = 16 := by
   simp at c5
   omega
  have hk : Qo (y : Int) (z : Int) = true := by
   unfold Qo
   simp
   omega
  have eE : ZT A sp y z = if (getA A sp y z 41).1.isSome then 0 else 6 := by unfold ZT; rw [hk, if_pos rfl]; rfl
  have eV : QF A sp y z = (getA A sp y z 41).1.getD 0 := by unfold QF; rw [hk, if_pos rfl]; rfl
  have eS : Yt A sp y z = match getA A sp y z 41 with
   | (some x, A', sp') => ({ A' with runs := Yt.mset2 A'.runs x y }, sp')
   | (none, A', sp') => (A', sp') := by unfold Yt; rw [hk, if_pos rfl]; rfl
  refine WgM (no := 41) h (by omega) (by omega) hz (by omega) (by omega) (fun hg σ' e hW => ?_) fun x hg hyn σ' F' H' hfit e hW => ?_
  ·have := hR σ' F H Fits.refl e
   rw [eE, eS, eV, hg] at this
   generalize getA A sp y z 41 = g at *
   obtain ⟨g1, g2, g3⟩ := g
   simp only at hg; subst hg
   exact ifT rfl (this hW)
  ·have hRx := fun σ' F' H' => hR σ' F' H'
   rw [eE, eS, eV] at hRx
   generalize getA A sp y z 41 = g at *
   obtain ⟨g1, A', sp'⟩ := g
   simp only at hg hW hRx; subst hg
   simp only at hRx
   obtain ⟨gr, hm, hput⟩ := hW.a.runsS
   refine ifF rfl (nilP (hW.a.hd.rM rfl ⟨_, _, rfl, hm, fun v ho hm' => ?_⟩))
   have hm2 : MapL v Y.rn .i64 (.i .i64) (mset (runI A'.runs) (x : Int) (y : Int)) := hm'
   rw [Wcn] at hm2
   have hA2 := hput v _ ho hm2
   have e2 : Ext F' σ' v := ho.ext.sub fun b hb => by subst hb; exact gr
   have hW2 := hW.arena e2 hA2
   exact hRx v F' H' hfit (e.newT e2 fun b hb => by
    rcases hfit.1 b hb with h1 | h1
    ·exact .inl (.inl h1)
    ·exact .inr h1) hW2
theorem GG (h : W2 U F H Y A T sp) {R : Int -> Hp -> Prop} (hR : ∀ σ', Ext (Both F H) U σ' -> W2 σ' (Cut F U) (Cut H U) Y (Vh A sp).1 T (Vh A sp).2 -> R ((WhN A : Nat) : Int) σ') :
 XN.call (some ⟨Y.p, 0, none⟩) U R := by
 refine XN.of_vc ?_
 unfold XN.vc
 have es : ∀ {a b : Hp}, Ext (Cut H U) a b -> Ext (Both F H) a b := fun e => e.sub fun b hb => .inr hb.1
 have ea : ∀ {a b : Hp}, Ext (Cut F U) a b -> Ext (Both F H) a b := fun e => e.sub fun b hb => .inl hb.1
 obtain ⟨G, hG, q, hT, _⟩ := h.a.trk
 refine Qx h.a (ifF rfl (nilP (h.a.hd.rP rfl (WgH hT fun s v1 e1 hrow => ?_))))
 have hn2 := h.a.lay.n2
 have hstl := h.a.lay.st
 have hlen := hrow.lenN
 have hthl : (Z9 A.st 0).length <= 64 := by
  unfold Z9
  refine Nat.le_trans (List.length_filter_le _ _) ?_
  rw [List.length_range]; omega
 have hthm : ∀ k ∈ Z9 A.st 0, k <= 64 := fun k hk => by
  unfold Z9 at hk
  have := (List.mem_filter.1 hk).1
  rw [List.mem_range] at this
  omega
 have hsl := (SlR.loc _ _ _).cut hrow.slR
 refine YX (a := .i .i64) (fun (t : Int) w => ∃ i : Nat, t = (i : Int) /\ i <= (Z9 A.st 0).length /\ Ext (Both F H) U w /\ W2 w (Cut F U) (Cut H U) Y (((Z9 A.st 0).take i).foldl KH (A, sp)).1 T (((Z9 A.st 0).take i).foldl KH (A, sp)).2 /\ SlR s 1 (ints (Z9 A.st 0)) w (fun b => U.size <= b)) (fun t _ => (Z9 A.st 0).length - t.toNat)
  ⟨0, rfl, by omega, Ext0.to e1, h.cut.keep0 e1, hrow.slR⟩ ?_
 rintro t w ⟨i, rfl, hi, e, hW, hs⟩
 refine ifD (fun hlt => ?_) fun hge => ?_
 ·have hi' : i < (Z9 A.st 0).length := by omega
  have hx : (Z9 A.st 0)[i]? = some (Z9 A.st 0)[i] := gGe hi'
  have htk : (Z9 A.st 0).take (i + 1) = (Z9 A.st 0).take i ++ [(Z9 A.st 0)[i]] := by rw [List.take_add_one, hx]; rfl
  have hk := hthm _ (List.getElem_mem hi')
  generalize (Z9 A.st 0)[i] = k at *
  refine hs.ixN hx (nilP (hW.a.hd.rP rfl (hW.a.RemH _ fun w2 t2 e2 hA2 => ?_)))
  have hW2 := hW.arena e2 hA2
  refine nilP (hW2.a.hd.rP rfl (arN (m := k * 16) (by omega) (by omega) (hW2.a.TakeRun _ _ fun w3 t3 e3 hA3 => ?_)))
  have hW3 := hW2.arena e3 hA3
  refine nilP (hW3.rSp (arN (m := k * 16) (by omega) (by omega) (Wgm hW3.s hW3.g hW3.o2 _ _ fun w4 e4 hS4 => ?_)))
  have hW4 := hW3.space e4 hS4
  have hs4 : SlR s 1 (ints (Z9 A.st 0)) w4 (fun b => U.size <= b) := (SlR.loc _ _ _).keep ((SlR.loc _ _ _).keep ((SlR.loc _ _ _).keep hs e2 fun b _ hb hc => by have := hc.2; omega) e3 fun b _ hb hc => by have := hc.2; omega) e4 fun b _ hb hc => by have := hc.2; omega
  refine arN (m := i + 1) (by omega) (by omega) ⟨⟨i + 1, rfl, by omega, ((e.trans (ea e2)).trans (ea e3)).trans (es e4), ?_, hs4⟩, by omega⟩
  rw [htk, List.foldl_append]
  exact hW4
 ·have : i = (Z9 A.st 0).length := by omega
  subst this
  rw [List.take_length] at hW
  rw [hlen]
  exact hR w e hW
end Go.Ar
namespace Go.Proofs
open Go.Vc

set_option maxRecDepth 100000
def WW.hint2 : Hn := .seq (.o 1) (.seq (.o 1) (.block (.loop [(1, .one (.i .i64)), (2, .one (.i .i64)), (3, .one (.i .i64)), (10, .one .b), (11, .one .b)] (.block (.seq (.o 4) (.seq (.seq (.o 2) (.cond (.seq (.o 5) (.leaf)) (.leaf))) .leaf))))))
def WW.vc2 (data : Sl) (a : Int) (b : Int) (limit : Int) (cmp : Fv) (U : Hp) (R : Hp -> Prop) : Prop :=
 Xe [(.i .i64), (.i .i64), (.i .i64), .b, .b] (fun I => I a b limit true true U) fun J (a1 : Int) (b1 : Int) (limit1 : Int) (wasBalanced : Bool) (wasPartitioned : Bool) v =>
 Ar .i64 (b1 - a1) fun length =>
 If (decide (length <= 12)) (Wo.call data a1 b1 cmp v fun v1 =>
  R v1)
  False
theorem WW.of_vc2 {data : Sl} {a : Int} {b : Int} {limit : Int} {cmp : Fv} {U : Hp} {R : Hp -> Prop} (hv : WW.vc2 data a b limit cmp U R) : WW.call data a b limit cmp U R :=
 Wa Tryz.func215 (x := WW.hint2) (args := [.slice data.a data.len data.cap, .int .i64 a, .int .i64 b, .int .i64 limit, .func (.func cmp.f) cmp.first cmp.captured]) (rs := []) (R := R) (Eq.mpr (by kernel_rfl) hv)
end Go.Proofs
namespace Go.Ar
open Go Go.Vc Go.Proofs


variable {U : Hp} {Q : Rg} {key : Nat -> Nat}
def insK (key : Nat -> Nat) (l : List Nat) (h : Nat) : List Nat := l.takeWhile (fun g => decide (key g < key h)) ++ h :: l.dropWhile (fun g => decide (key g < key h))
def Vk (key : Nat -> Nat) (l : List Nat) : List Nat := l.foldl (insK key) []
theorem UX (l : List Nat) (h : Nat) : (insK key l h).Perm (h :: l) := by
 unfold insK
 refine List.perm_middle.trans ?_
 rw [List.takeWhile_append_dropWhile]
theorem Wbc {l : List Nat} {h : Nat} (hs : l.Pairwise (fun a b => key a < key b)) (hne : ∀ g ∈ l, key g ≠ key h) : (insK key l h).Pairwise (fun a b => key a < key b) := by
 induction l with
 | nil => simp [insK]
 | cons g l ih =>
  rw [List.pairwise_cons] at hs
  unfold insK
  by_cases hg : key g < key h
  ·rw [List.takeWhile_cons_of_pos (by simpa using hg), List.dropWhile_cons_of_pos (by simpa using hg), List.cons_append, List.pairwise_cons]
   refine ⟨fun b hb => ?_, ih hs.2 fun x hx => hne x (List.mem_cons_of_mem _ hx)⟩
   have := (UX l h).mem_iff.1 hb
   rcases List.mem_cons.1 this with h1 | h1
   ·subst h1; exact hg
   ·exact hs.1 b h1
  ·have hgt : key h < key g := by have := hne g (List.mem_cons_self); omega
   rw [List.takeWhile_cons_of_neg (by simpa using hg), List.dropWhile_cons_of_neg (by simpa using hg), List.nil_append, List.pairwise_cons]
   refine ⟨fun b hb => ?_, List.pairwise_cons.2 hs⟩
   rcases List.mem_cons.1 hb with h1 | h1
   ·subst h1; exact hgt
   ·have := hs.1 b h1; omega
theorem Wec {s : List Nat} {h j : Nat} (hs : s.Pairwise (fun a b => key a < key b)) (hj : j <= s.length) (h1 : ∀ g ∈ s.drop j, key h < key g) (h2 : ∀ g, j ≠ 0 -> s[j - 1]? = some g -> key g < key h) : insK key s h = s.take j ++ h :: s.drop j := by
 have ht : ∀ g ∈ s.take j, key g < key h := by
  intro g hg
  obtain ⟨i, hi⟩ := List.getElem?_of_mem hg
  have hil := (gSi.1 hi).1
  rw [List.length_take] at hil
  rw [List.getElem?_take, if_pos (by omega)] at hi
  have hj1 : s[j - 1]? = some (s[j - 1]'(by omega)) := gGe _
  have hlast := h2 _ (by omega) hj1
  by_cases hij : i = j - 1
  ·subst hij; rw [hj1] at hi; cases hi; exact hlast
  ·have := List.pairwise_iff_getElem.1 hs i (j - 1) (by omega) (by omega) (by omega)
   have hig : s[i]'(by omega) = g := by
    have := gGe (l := s) (i := i) (by omega)
    rw [this] at hi; exact Option.some.inj hi
   rw [hig] at this; omega
 have e : insK key (s.take j ++ s.drop j) h = s.take j ++ h :: s.drop j := by
  unfold insK
  rw [List.takeWhile_append_of_pos (by intro g hg; simpa using ht g hg), List.dropWhile_append_of_pos (by intro g hg; simpa using ht g hg)]
  cases hd : s.drop j with
  | nil => simp
  | cons g d =>
   have := h1 g (by rw [hd]; exact List.mem_cons_self)
   rw [List.takeWhile_cons_of_neg (by simp; omega), List.dropWhile_cons_of_neg (by simp; omega), List.append_nil]
 rw [List.take_append_drop] at e
 exact e
theorem Qp (l : List Nat) : (Vk key l).Perm l := by
 have : ∀ (m acc : List Nat), (m.foldl (insK key) acc).Perm (m ++ acc) := by
  intro m
  induction m with
  | nil => intro acc; exact List.Perm.refl _
  | cons h m ih =>
   intro acc
   rw [List.foldl_cons]
   refine (ih _).trans ?_
   refine ((UX acc h).append_left m).trans ?_
   exact List.perm_middle
 have := this l []
 rwa [List.append_nil] at this
theorem Gh (l : List Nat) {i h : Nat} (hh : l[i]? = some h) : Vk key (l.take (i + 1)) = insK key (Vk key (l.take i)) h := by
 unfold Vk
 rw [List.take_add_one, hh, Option.toList_some, List.foldl_append]; rfl
theorem Un {l : List Nat} (hn : l.Pairwise (fun a b => key a ≠ key b)) : ∀ i, (Vk key (l.take i)).Pairwise (fun a b => key a < key b)
 | 0 => by simp [Vk]
 | i + 1 => by
  have ih := Un hn i
  cases hh : l[i]? with
  | none =>
   have : l.take (i + 1) = l.take i := by rw [List.take_add_one, hh]; simp
   rw [this]; exact ih
  | some h =>
   rw [Gh l hh]
   refine Wbc ih fun g hg => ?_
   have := (Qp (l.take i)).mem_iff.1 hg
   obtain ⟨a, ha⟩ := List.getElem?_of_mem this
   have hal := (gSi.1 ha).1
   rw [List.length_take] at hal
   rw [List.getElem?_take, if_pos (by omega)] at ha
   have hil := (gSi.1 hh).1
   have := List.pairwise_iff_getElem.1 hn a i (by omega) hil (by omega)
   rw [(gSi.1 ha).2, (gSi.1 hh).2] at this
   exact this
theorem Wge (l : List Nat) (i x : Nat) : (ints l).set i (.int .i64 (x : Int)) = ints (l.set i x) := by simp [ints, List.map_set]
theorem _root_.Go.Vc.RowR.ixH {s : Sl} {l : List Nat} (h : RowR s 1 (ints l) U Q) {i x : Nat} (hx : l[i]? = some x) {K : Int -> Prop} (hK : K (x : Int)) : Ix s.a s.len (i : Int) 1 fun a => LdH (· = U) (.i .i64) a K := by
 have hi := (gSi.1 hx).1
 obtain ⟨b, o, ha, hc⟩ := h.slR.cell (Wci hx)
 have hl := h.lenN
 rw [ha]
 refine ix (by omega) (by omega) ?_
 refine ⟨(x : Int), fun m hm => ?_, hK⟩
 rw [hm, add_lit, show o + (i : Int).toNat * 1 = o + i by omega]; exact hc
theorem _root_.Go.Vc.RowR.ixSt {s : Sl} {l : List Nat} (h : RowR s 1 (ints l) U Q) {i x : Nat} (hi : i < l.length) {K : Hp -> Prop} (hK : ∀ σ', Ext Q U σ' -> RowR s 1 (ints (l.set i x)) σ' Q -> K σ') : Ix s.a s.len (i : Int) 1 fun a => St1 a (.int .i64 (x : Int)) U K := by
 have hl := h.lenN
 rcases h.2 with ⟨h0, _⟩ | ⟨b, cs, hq, ha, hb, hle, hcl, ht⟩
 ·omega
 rw [ha]
 refine ix (by omega) (by omega) ?_
 refine h.st (j := i) (by rw [ZN]; exact hi) (fun b' hb' => ?_) fun σ' e hr => hK σ' e (by rw [← Wge]; exact hr)
 rw [ha] at hb'; cases hb'
 rw [add_lit]; congr 1; omega
def CmpN (f : Fv) (key : Nat -> Nat) (l : List Nat) (Q : Rg) (U : Hp) : Prop := ∀ x ∈ l, ∀ y ∈ l, ∀ (σ' : Hp) (R : Int -> Hp -> Prop), Ext Q U σ' -> (∀ (d : Int) σ'', Ext0 σ' σ'' -> (d < 0 ↔ key x < key y) -> R d σ'') →
 Vv Tryz.prog f [.int .i64 (x : Int), .int .i64 (y : Int)] [.one (.i .i64)] σ' R
theorem Wh1 (P D : List Nat) (g h : Nat) : ((P ++ g :: h :: D).set (P.length + 1) g).set P.length h = P ++ h :: g :: D := by
 rw [List.set_append_right _ _ (by omega), show P.length + 1 - P.length = 1 by omega, List.set_append_right _ _ (Nat.le_refl _), Nat.sub_self]
 rfl
set_option maxRecDepth 4000 in
theorem Waf {s : Sl} {l : List Nat} {f : Fv} (h : RowR s 1 (ints l) U Q) (hl : l.length <= 1000) (hn : l.Pairwise (fun a b => key a ≠ key b)) (hc : CmpN f key l Q U) {R : Hp -> Prop}
 (hR : ∀ σ', Ext Q U σ' -> RowR s 1 (ints (Vk key l)) σ' Q -> R σ') : Wo.call s 0 (l.length : Int) f U R := by
 refine Wo.of_vc ?_
 unfold Wo.vc
 rcases Nat.eq_zero_or_pos l.length with h0 | hpos
 ·have hl0 : l = [] := List.length_eq_zero_iff.1 h0
  subst hl0
  refine ar (by omega) (by omega) (YX (a := .i .i64) (fun (t : Int) v => t = 1 /\ v = U) (fun _ _ => 0) ⟨rfl, rfl⟩ ?_)
  rintro t v ⟨rfl, rfl⟩
  refine ifDF (by simp) (hR v (Ext.refl _ _) h)
 refine arN (m := 1) (by omega) (by omega) (YX (a := .i .i64) (fun (t : Int) v => ∃ i : Nat, t = (i : Int) /\ 1 <= i /\ i <= l.length /\ Ext Q U v /\ RowR s 1 (ints (Vk key (l.take i) ++ l.drop i)) v Q) (fun t _ => l.length - t.toNat) ⟨1, rfl, Nat.le_refl _, hpos, Ext.refl _ _, ?_⟩ ?_)
 ·have : Vk key (l.take 1) = l.take 1 := by
   cases l with
   | nil => rfl
   | cons x l => rfl
  rw [this, List.take_append_drop]; exact h
 rintro t v ⟨i, rfl, hi1, hi, e, hr⟩
 refine ifD (fun hlt => ?_) fun hge => ?_
 ·have hi' : i < l.length := by omega
  have hx : l[i]? = some l[i] := gGe hi'
  have hdrop : l.drop i = l[i] :: l.drop (i + 1) := List.drop_eq_getElem_cons hi'
  have hxm := List.getElem_mem hi'
  rw [hdrop] at hr
  generalize l[i] = x at *
  have hsl : (Vk key (l.take i)).length = i := by rw [(Qp _).length_eq, List.length_take]; omega
  have hss := Un hn i
  have hsm : ∀ g ∈ Vk key (l.take i), g ∈ l /\ key g ≠ key x := by
   intro g hg
   have := (Qp (l.take i)).mem_iff.1 hg
   refine ⟨List.mem_of_mem_take this, ?_⟩
   obtain ⟨a, ha⟩ := List.getElem?_of_mem this
   have hal := (gSi.1 ha).1
   rw [List.length_take] at hal
   rw [List.getElem?_take, if_pos (by omega)] at ha
   have := List.pairwise_iff_getElem.1 hn a i (by omega) hi' (by omega)
   rw [(gSi.1 ha).2, (gSi.1 hx).2] at this
   exact this
  have hst := Gh (key := key) l hx
  generalize Vk key (l.take i) = S0 at *
  refine YX (a := .i .i64) (fun (t : Int) w => ∃ j : Nat, t = (j : Int) /\ j <= i /\ Ext Q U w /\ RowR s 1 (ints (S0.take j ++ x :: (S0.drop j ++ l.drop (i + 1)))) w Q /\ ∀ g ∈ S0.drop j, key x < key g) (fun t _ => t.toNat)
   ⟨i, rfl, Nat.le_refl _, e, ?_, fun g hg => by rw [List.drop_eq_nil_of_le (by omega)] at hg; simp at hg⟩ ?_
  ·rw [List.take_of_length_le (by omega), List.drop_eq_nil_of_le (by omega), List.nil_append]; exact hr
  rintro t w ⟨j, rfl, hj, ew, hrw, hgt⟩
  have fin : (∀ g, j ≠ 0 -> S0[j - 1]? = some g -> key g < key x) -> Ar .i64 ((i : Int) + 1) fun i2 => (∃ i' : Nat, i2 = (i' : Int) /\ 1 <= i' /\ i' <= l.length /\ Ext Q U w /\ RowR s 1 (ints (Vk key (l.take i') ++ l.drop i')) w Q) /\ l.length - i2.toNat < l.length - (i : Int).toNat := by
   intro h2
   refine arN (m := i + 1) (by omega) (by omega) ⟨⟨i + 1, rfl, by omega, by omega, ew, ?_⟩, by omega⟩
   rw [hst, Wec hss (by omega) hgt h2, List.append_assoc, List.cons_append]; exact hrw
  refine Jn.intro ⟨(· = w), rfl, ifD (fun c1 => ?_) fun c1 => ifF rfl (fin fun g hj0 => by omega)⟩
  have hj1 : j - 1 < S0.length := by omega
  have hg : S0[j - 1]? = some S0[j - 1] := gGe hj1
  have htk : S0.take j = S0.take (j - 1) ++ [S0[j - 1]] := by
   have := List.take_add_one (l := S0) (i := j - 1)
   rw [show j - 1 + 1 = j by omega, hg] at this
   exact this
  have hdr : S0.drop (j - 1) = S0[j - 1] :: S0.drop j := by
   have := List.drop_eq_getElem_cons (l := S0) hj1
   rw [show j - 1 + 1 = j by omega] at this
   exact this
  have hgm := hsm _ (List.getElem_mem hj1)
  generalize S0[j - 1] = g at *
  have hcur : S0.take j ++ x :: (S0.drop j ++ l.drop (i + 1)) = S0.take (j - 1) ++ g :: x :: (S0.drop j ++ l.drop (i + 1)) := by rw [htk]; simp
  have hPl : (S0.take (j - 1)).length = j - 1 := by rw [List.length_take]; omega
  rw [hcur] at hrw
  have hgx : (S0.take (j - 1) ++ g :: x :: (S0.drop j ++ l.drop (i + 1)))[j]? = some x := by
   rw [List.getElem?_append_right (by omega), hPl, show j - (j - 1) = 1 by omega]; rfl
  have hgg : (S0.take (j - 1) ++ g :: x :: (S0.drop j ++ l.drop (i + 1)))[j - 1]? = some g := by
   rw [List.getElem?_append_right (by omega), hPl, Nat.sub_self]; rfl
  refine hrw.ixH hgx (arN (m := j - 1) (by omega) (by omega) (hrw.ixH hgg (hc x hxm g hgm.1 w _ ew fun d w2 e2 hd => ?_)))
  have hr2 := (RowR.loc _ _ _).keep0 hrw e2
  have ew2 := ew.trans (Ext0.to e2)
  by_cases hlt2 : key x < key g
  ·refine ifT (decide_eq_true (hd.2 hlt2)) ⟨(· = w2), rfl, arN (m := j - 1) (by omega) (by omega) (arN (m := j - 1) (by omega) (by omega) (hr2.ixH hgg (hr2.ixH hgx ?_)))⟩
   refine hr2.ixSt (i := j) (by simp; omega) fun w3 e3 hr3 => hr3.ixSt (i := j - 1) (by simp; omega) fun w4 e4 hr4 => ?_
   have hsw := Wh1 (S0.take (j - 1)) (S0.drop j ++ l.drop (i + 1)) g x
   rw [hPl, show j - 1 + 1 = j by omega] at hsw
   rw [hsw] at hr4
   refine arN (m := j - 1) (by omega) (by omega) ⟨⟨j - 1, rfl, by omega, (ew2.trans e3).trans e4, ?_, fun z hz => ?_⟩, by omega⟩
   ·rw [hdr]; exact hr4
   ·rw [hdr] at hz
    rcases List.mem_cons.1 hz with h1 | h1
    ·subst h1; exact hlt2
    ·exact hgt z h1
  ·refine ifF (decide_eq_false fun hh => hlt2 (hd.1 hh)) ?_
   have hgk : key g < key x := by have := hgm.2; omega
   refine arN (m := i + 1) (by omega) (by omega) ⟨⟨i + 1, rfl, by omega, by omega, ew2, ?_⟩, by omega⟩
   rw [hst, Wec hss (j := j) (by omega) hgt fun z _ hz => by rw [hg] at hz; cases hz; exact hgk]
   rw [List.append_assoc, List.cons_append, hcur]; exact hr2
 ·have : i = l.length := by omega
  subst this
  rw [List.take_length, List.drop_length, List.append_nil] at hr
  exact hR v e hr
theorem ar8 {e : Int} {K : Int -> Prop} (h0 : 0 <= e) (h1 : e < 256) (hK : K e) : Ar .u8 e K := by
 have hw : IntKind.u8.wrap e = e := by
  unfold IntKind.wrap; simp [IntKind.bits, IntKind.signed]; omega
 unfold Ar
 rw [hw]; exact hK
set_option maxRecDepth 100000 in
theorem Wiz {n : Nat} (hn : n <= 12) {R : Int -> Hp -> Prop} (hR : ∀ t, R t U) : Ze.call (n : Int) U R := by
 refine Ze.of_vc ?_
 unfold Ze.vc
 refine YT.of_vc ?_
 unfold YT.vc
 refine Jn.intro (ifDF (by omega) (Jn.intro (ifDF (by omega) (Jn.intro (ifDF (by omega) ?_)))))
 refine ar8 (by omega) (by omega) ?_
 have hc : n = 0 ∨ n = 1 ∨ n = 2 ∨ n = 3 ∨ n = 4 ∨ n = 5 ∨ n = 6 ∨ n = 7 ∨ n = 8 ∨ n = 9 ∨ n = 10 ∨ n = 11 ∨ n = 12 := by omega
 rcases hc with rfl | rfl | rfl | rfl | rfl | rfl | rfl | rfl | rfl | rfl | rfl | rfl | rfl <;> exact ⟨_, by omega, rfl, hR _⟩
theorem Wg6 {s : Sl} {l : List Nat} {f : Fv} (h : RowR s 1 (ints l) U Q) (hl : l.length <= 12) (hn : l.Pairwise (fun a b => key a ≠ key b)) (hc : CmpN f key l Q U) {R : Hp -> Prop}
 (hR : ∀ σ', Ext Q U σ' -> RowR s 1 (ints (Vk key l)) σ' Q -> R σ') : WX.call s f U R := by
 refine WX.of_vc ?_
 unfold WX.vc
 have hlen := h.lenN
 rw [hlen]
 have hw : IntKind.u64.wrap (l.length : Int) = (l.length : Int) := by
  unfold IntKind.wrap; simp [IntKind.bits, IntKind.signed]; omega
 unfold Ar
 rw [hw]
 refine Wiz hl fun t => WW.of_vc2 ?_
 unfold WW.vc2
 refine Win (a := .i .i64) (bb := .i .i64) (c := .i .i64) (d := .b) (e := .b) (fun (x : Int) (y : Int) _ _ _ v => x = 0 /\ y = (l.length : Int) /\ v = U) (fun _ _ _ _ _ _ => 0) ⟨rfl, rfl, rfl⟩ ?_
 rintro x y z u w v ⟨rfl, rfl, rfl⟩
 refine ar (by omega) (by omega) (ifDT (by omega) ?_)
 exact Waf h (by omega) hn hc hR
end Go.Ar
namespace Go.Ar
open Go Go.Vc Go.Proofs


variable {U : Hp} {F : Rg} {p q : Nat} {st : List Nat}
def keyT (st : List Nat) (h : Nat) : Nat := QC st h * 100000 + used st h * 1000 + (999 - h)
def KV (st : List Nat) : List Nat := (List.range (st.length / 16)).filter fun h => 0 < cntR st (16 * h) (16 * h + 16) 2
theorem V2 (st : List Nat) (h : Nat) : used st h <= 16 := by
 unfold used cntR
 refine Nat.le_trans List.count_le_length ?_
 rw [List.length_take]; omega
theorem UL (st : List Nat) (h : Nat) : QC st h <= 2 := by
 unfold QC
 split
 ·omega
 ·split <;> omega
theorem WeS {g h : Nat} (hg : g <= 64) (hh : h <= 64) : bef st g h = decide (keyT st g < keyT st h) := by
 have h1 := V2 st g; have h2 := V2 st h; have h3 := UL st g; have h4 := UL st h
 unfold bef keyT
 rw [Bool.eq_iff_iff]
 simp only [Bool.or_eq_true, Bool.and_eq_true, decide_eq_true_eq, beq_iff_eq]
 omega
theorem KW {α : Type} {P Q : α -> Bool} : ∀ {l : List α}, (∀ x ∈ l, P x = Q x) -> l.takeWhile P = l.takeWhile Q
 | [], _ => rfl
 | x :: l, h => by
  rw [List.takeWhile_cons, List.takeWhile_cons, h x List.mem_cons_self, KW fun y hy => h y (List.mem_cons_of_mem _ hy)]
theorem KL {α : Type} {P Q : α -> Bool} : ∀ {l : List α}, (∀ x ∈ l, P x = Q x) -> l.dropWhile P = l.dropWhile Q
 | [], _ => rfl
 | x :: l, h => by
  rw [List.dropWhile_cons, List.dropWhile_cons, h x List.mem_cons_self, KL fun y hy => h y (List.mem_cons_of_mem _ hy)]
theorem Kh (hl : st.length <= 1024) : ∀ h ∈ KV st, 16 * h + 16 <= st.length /\ h <= 64 := by
 intro h hh
 unfold KV at hh
 have := (List.mem_filter.1 hh).1
 rw [List.mem_range] at this
 omega
theorem KZ (hl : st.length <= 1024) : ordT st = Vk (keyT st) (KV st) := by
 have key : ∀ (l acc : List Nat), (∀ x ∈ l, x <= 64) -> (∀ x ∈ acc, x <= 64) -> l.foldl (insH st) acc = l.foldl (insK (keyT st)) acc := by
  intro l
  induction l with
  | nil => intro acc _ _; rfl
  | cons h l ih =>
   intro acc h1 h2
   have hh := h1 h List.mem_cons_self
   have e : insH st acc h = insK (keyT st) acc h := by
    unfold insH insK
    rw [KW fun g hg => WeS (h2 g hg) hh, KL fun g hg => WeS (h2 g hg) hh]
   rw [List.foldl_cons, List.foldl_cons, e]
   refine ih _ (fun x hx => h1 x (List.mem_cons_of_mem _ hx)) fun x hx => ?_
   rcases List.mem_cons.1 ((UX acc h).mem_iff.1 hx) with h3 | h3
   ·rw [h3]; exact hh
   ·exact h2 x h3
 exact key _ [] (fun x hx => (Kh hl x hx).2) (by simp)
theorem Wbx (hl : st.length <= 1024) : (KV st).Pairwise fun a b => keyT st a ≠ keyT st b := by
 have hn : (KV st).Pairwise (· ≠ ·) := List.Pairwise.sublist List.filter_sublist List.nodup_range
 refine List.Pairwise.imp_of_mem (fun {a b} ha hb hne => ?_) hn
 have h1 := (Kh hl a ha).2; have h2 := (Kh hl b hb).2
 have := V2 st a; have := V2 st b
 unfold keyT
 omega
theorem WdK : ∀ {n m p : Nat}, n <= m -> (∀ j, j < n -> st[p + j]? = some 2) -> (n = m ∨ st[p + n]? ≠ some 2) -> runL st p m = n
 | 0, m, p, _, _, he => by
  unfold runL
  rcases he with h | h
  ·rw [← h]; simp
  ·cases m with
   | zero => simp
   | succ m =>
    cases hd : st[p]? with
    | none =>
     have := List.getElem?_eq_none_iff.1 hd
     rw [List.drop_eq_nil_of_le this]; simp
    | some x =>
     have hl := (gSi.1 hd).1
     rw [List.drop_eq_getElem_cons hl, List.take_succ_cons, List.takeWhile_cons_of_neg]
     ·rfl
     ·have hx := (gSi.1 hd).2
      rw [hx]
      intro h2
      rw [Nat.add_zero, hd] at h
      exact h (by simpa using h2)
 | n + 1, m, p, hm, ha, he => by
  have h0 := ha 0 (by omega)
  rw [Nat.add_zero] at h0
  have hl := (gSi.1 h0).1
  have hx := (gSi.1 h0).2
  have ih := WdK (n := n) (m := m - 1) (p := p + 1) (by omega) (fun j hj => by rw [show p + 1 + j = p + (j + 1) by omega]; exact ha _ (by omega)) (by
   rcases he with h | h
   ·left; omega
   ·right; rw [show p + 1 + n = p + (n + 1) by omega]; exact h)
  unfold runL at *
  obtain ⟨k, rfl⟩ : ∃ k, m = k + 1 := ⟨m - 1, by omega⟩
  rw [List.drop_eq_getElem_cons hl, List.take_succ_cons, List.takeWhile_cons_of_pos (by rw [hx]; rfl), List.length_cons]
  rw [Nat.add_sub_cancel] at ih
  rw [ih]
theorem Gi (e : Nat) : ∀ (f f' x : Nat), e - x < f -> e - x < f' -> Ql st e f x = Ql st e f' x := by
 intro f
 induction f with
 | zero => intro f' x h; omega
 | succ f ih =>
  intro f' x h1 h2
  obtain ⟨g, rfl⟩ : ∃ g, f' = g + 1 := ⟨f' - 1, by omega⟩
  unfold Ql
  by_cases hc : e <= x
  ·rw [if_pos hc, if_pos hc]
  ·rw [if_neg hc, if_neg hc]
   split
   ·exact ih g _ (by omega) (by omega)
   ·rw [ih g (x + runL st x (e - x) + 1) (by omega) (by omega)]
theorem Wef {want : Int} {x : Nat} (h : want <= (x : Int)) : ∀ l, cutW want x l = []
 | [] => rfl
 | r :: l => by unfold cutW; rw [if_pos h]
theorem Wg8 {want : Int} {x : Nat} (h : ¬ want <= (x : Int)) (r : Nat × Nat) (l : List (Nat × Nat)) : cutW want x (r :: l) = r :: cutW want (x + r.2) l := by
 show (if want <= (x : Int) then [] else r :: cutW want (x + r.2) l) = _
 rw [if_neg h]
theorem WcZ {e x f : Nat} (hx : x < e) (hf : e - x < f) : Ql st e f x = if runL st x (e - x) = 0 then Ql st e f (x + 1) else (x, runL st x (e - x)) :: Ql st e f (x + runL st x (e - x) + 1) := by
 obtain ⟨g, rfl⟩ : ∃ g, f = g + 1 := ⟨f - 1, by omega⟩
 rw [Ql, if_neg (by omega)]
 split
 ·exact Gi e _ _ _ (by omega) (by omega)
 ·rw [Gi e g (g + 1) _ (by omega) (by omega)]
theorem WdZ {e x f : Nat} (hx : e <= x) : Ql st e f x = [] := by
 cases f with
 | zero => rfl
 | succ f => rw [Ql, if_pos hx]
theorem WgB (h : TrH U p q st) {n2 : Nat} (hb : Blk U n2 [.pointer (some ⟨p, 0, none⟩)]) {Q : Rg} (hq : ¬ Q p /\ ¬ Q q /\ ¬ Q n2) (hl : st.length <= 1024) {l : List Nat} (hm : ∀ x ∈ l, 16 * x + 16 <= st.length) :
 CmpN ⟨153, #[], #[.pointer (some ⟨n2, 0, none⟩)]⟩ (keyT st) l Q U := by
 intro x hx y hy σ' R e hR
 refine WaO (all := #[.int .i64 (x : Int), .int .i64 (y : Int), .pointer (some ⟨n2, 0, none⟩)]) (by kernel_rfl) (by simp) ?_
 show XH.call (x : Int) (y : Int) ⟨n2, 0, none⟩ σ' R
 refine XH.of_vc ?_
 unfold XH.vc
 have h' := h.keep e hq.1 hq.2.1
 have hb' := e.blk hb hq.2.2
 have hxl := hm x hx; have hyl := hm y hy
 have h1 := V2 st x; have h2 := V2 st y; have h3 := UL st x; have h4 := UL st y
 refine ⟨(· = σ'), rfl, ⟨_, fun m hm => by rw [hm, hb'.cell]; rfl, ⟨_, fun m hm => by rw [hm, hb'.cell]; rfl, ?_⟩⟩⟩
 refine WcC h' hxl fun c1 => ⟨rfl, WcC h' hyl fun c2 => ⟨rfl, Wbv h' hxl (Wbv h' hyl (ar (by omega) (by omega) ?_))⟩⟩
 refine iff_ (fun hc => ?_) fun hc => ?_
 ·have hne : ((QC st x : Nat) : Int) - ((QC st y : Nat) : Int) ≠ 0 := by simpa using hc
  refine hR _ σ' (Ext.refl _ _) ?_
  unfold keyT
  omega
 ·have heq : ((QC st x : Nat) : Int) - ((QC st y : Nat) : Int) = 0 := by simpa using hc
  refine h'.cnt (v := 1) hxl (h'.cnt (v := 1) hyl ?_)
  have hu1 : cntR st (16 * x) (16 * x + 16) 1 = used st x := rfl
  have hu2 : cntR st (16 * y) (16 * y + 16) 1 = used st y := rfl
  rw [hu1, hu2]
  refine ar (by omega) (by omega) (iff_ (fun hc2 => ?_) fun hc2 => ?_)
  ·have hne : ((used st x : Nat) : Int) - ((used st y : Nat) : Int) ≠ 0 := by simpa using hc2
   refine hR _ σ' (Ext.refl _ _) ?_
   unfold keyT
   omega
  ·have heq2 : ((used st x : Nat) : Int) - ((used st y : Nat) : Int) = 0 := by simpa using hc2
   refine ar (by omega) (by omega) (hR _ σ' (Ext.refl _ _) ?_)
   unfold keyT
   omega
end Go.Ar
namespace Go.Ar
open Go Go.Vc Go.Proofs


variable {U : Hp} {F : Rg} {p q : Nat} {st : List Nat}
theorem Whz (l : List (Nat × Nat)) (r : Nat × Nat) : rV (l ++ [r]) = rV l ++ [.int .i64 (r.1 : Int), .int .i64 (r.2 : Int)] := by simp [rV]
theorem Q9 (n : Nat) (P : Nat -> Bool) : (List.range (n + 1)).filter P = (List.range n).filter P ++ (if P n then [n] else []) := by
 rw [List.range_succ, List.filter_append]
 congr 1
 cases h : P n <;> simp [h]
set_option maxRecDepth 4000 in
theorem Wh2 (h : TrH U p q st) (want : Int) (h12 : (KV st).length <= 12) {R : Sl -> Int -> Hp -> Prop} (h0 : want < 0 -> ∀ σ', Ext0 U σ' -> R ⟨none, 0, 0⟩ 1 σ')
 (h1 : ¬ want < 0 -> ∀ s σ', Ext0 U σ' -> RowR s 2 (rV (Uc st want)) σ' (fun b => U.size <= b) -> R s 0 σ') : Yf.call (some ⟨p, 0, none⟩) want U R := by
 refine Yf.of_vc ?_
 unfold Yf.vc
 have n2 := h.n2
 refine nw (cs := [.pointer (some ⟨p, 0, none⟩)]) fun u hz e hb => hb.rP0 rfl (K6 (h.keep0 e) (ifF rfl (ifD (fun hw => h0 hw u e) fun hw => ?_)))
 have hu := h.keep0 e
 refine hb.rP0 rfl (WdD hu ?_)
 refine KA (a := .s) (bb := .i .i64) (fun (order : Sl) (t : Int) v => ∃ k : Nat, t = (k : Int) /\ k <= st.length / 16 /\ Ext0 u v /\ RowR order 1 (ints ((List.range k).filter fun h => 0 < cntR st (16 * h) (16 * h + 16) 2)) v (fun b => u.size <= b)) (fun _ t _ => st.length / 16 - t.toNat)
  ⟨0, rfl, by omega, Ext.refl _ _, RowR.nil _ _ _ _⟩ ?_
 rintro order t v ⟨k, rfl, hk, ev, hrow⟩
 have hv := hu.keep0 ev
 have hbv := ev.blk hb id
 refine ifD (fun hlt => ?_) fun hge => ?_
 ·have hk' : 16 * k + 16 <= st.length := by omega
  have hlen := hrow.lenN
  have hfl : ((List.range k).filter fun h => 0 < cntR st (16 * h) (16 * h + 16) 2).length <= k := Nat.le_trans (List.length_filter_le _ _) (by rw [List.length_range]; omega)
  refine hbv.rP0 rfl (WcC hv hk' fun c => hv.cnt (v := 2) hk' (ifD (fun hc => ?_) fun hc => ?_))
  ·have hpos : 0 < cntR st (16 * k) (16 * k + 16) 2 := by omega
   refine hrow.push (vs := [.int .i64 (k : Int)]) (fun b hb => Nat.le_trans ev.1 hb) rfl rfl (by simp [one1]) (by omega) (by omega) fun s' v' hl' e' hr' => ?_
   refine arN (m := k + 1) (by omega) (by omega) ⟨⟨k + 1, rfl, by omega, Ext.fresh ev e' fun i hi => hi, ?_⟩, by omega⟩
   rw [Q9, if_pos (by simpa using hpos), QR]; exact hr'
  ·refine arN (m := k + 1) (by omega) (by omega) ⟨⟨k + 1, rfl, by omega, ev, ?_⟩, by omega⟩
   rw [Q9, if_neg (by simp; omega), List.append_nil]; exact hrow
 have hkk : k = st.length / 16 := by omega
 subst hkk
 have hplt := h.lt
 have hcmp := WgB hv hbv (Q := fun b => u.size <= b) ⟨by omega, by omega, by omega⟩ n2 (l := KV st) fun x hx => (Kh n2 x hx).1
 refine Wg6 hrow h12 (Wbx n2) hcmp fun w ew hrw => ?_
 have hrw : RowR order 1 (ints (Vk (keyT st) (KV st))) w (fun b => u.size <= b) := hrw
 rw [← KZ n2] at hrw
 have e0w : Ext0 u w := Ext.fresh ev ew fun i hi => hi
 have hT := hu.keep0 e0w
 have hbw := e0w.blk hb id
 have hol := hrw.lenN
 have hmem : ∀ x ∈ ordT st, 16 * x + 16 <= st.length := fun x hx => by
  rw [KZ n2] at hx
  exact (Kh n2 x ((Qp _).mem_iff.1 hx)).1
 have hlen12 : (ordT st).length <= 12 := by rw [KZ n2, (Qp _).length_eq]; exact h12
 have hslo := (SlR.loc _ _ _).cut hrw.slR
 refine WiW (a := .s) (bb := .i .i64) (c := .i .i64) (fun (out : Sl) (planned : Int) (t : Int) v => ∃ (k : Nat) (D : List (Nat × Nat)) (m : Nat), t = (k : Int) /\ k <= (ordT st).length /\ planned = (m : Int) /\ m <= 16 * k /\ D.length <= 16 * k /\ Ext0 w v /\ RowR out 2 (rV D) v (fun b => w.size <= b) /\ D ++ cutW want m (((ordT st).drop k).flatMap (KI st)) = Uc st want) (fun _ _ t _ => (ordT st).length - t.toNat)
  ⟨0, [], 0, rfl, by omega, rfl, by omega, by simp, Ext.refl _ _, RowR.nil _ _ _ _, by simp [Uc]⟩ ?_
 rintro out planned t v ⟨k, D, m, rfl, hk, rfl, hm, hD, ev2, hro, hpl⟩
 have hTv := hT.keep0 ev2
 have hbv2 := ev2.blk hbw id
 refine ifD (fun hlt => ?_) fun hge => ?_
 ·have hk' : k < (ordT st).length := by omega
  have hx : (ordT st)[k]? = some (ordT st)[k] := gGe hk'
  have hxm := hmem _ (List.getElem_mem hk')
  have hdr : (ordT st).drop k = (ordT st)[k] :: (ordT st).drop (k + 1) := List.drop_eq_getElem_cons hk'
  rw [hdr, List.flatMap_cons] at hpl
  generalize (ordT st)[k] = x at *
  have hsl2 := (SlR.loc _ _ _).keep0 hslo ev2
  refine hsl2.ixN hx ?_
  refine WiW (a := .s) (bb := .i .i64) (c := .i .i64) (fun (out : Sl) (planned : Int) (t : Int) z => ∃ (i : Nat) (D : List (Nat × Nat)) (m : Nat), t = (i : Int) /\ i <= 17 /\ planned = (m : Int) /\ m <= 16 * k + i /\ m <= 16 * k + 16 /\ D.length <= 16 * k + i /\ D.length <= 16 * k + 16 /\ Ext0 w z /\ RowR out 2 (rV D) z (fun b => w.size <= b) /\ D ++ cutW want m (Ql st (16 * x + 16) 17 (16 * x + i) ++ ((ordT st).drop (k + 1)).flatMap (KI st)) = Uc st want) (fun _ _ t _ => 20 - t.toNat)
   ⟨0, D, m, rfl, by omega, rfl, by omega, by omega, by omega, by omega, ev2, hro, by simpa [KI] using hpl⟩ ?_
  rintro out2 planned2 t2 z ⟨i, D2, m2, rfl, hi, rfl, hm1, hm2, hD1, hD2, ez, hrz, hpz⟩
  have hTz := hT.keep0 ez
  have hbz := ez.blk hbw id
  have hlz : out2.len = D2.length := by have := hrz.1; rw [WbX] at this; omega
  refine ifD (fun hlt3 => ?_) fun hge3 => ?_
  ·have hi' : i < 16 := by omega
   refine ifD (fun hdone => ?_) fun hgo => ?_
   ·rw [Wef (by omega), List.append_nil] at hpz
    rw [hpz] at hrz
    exact h1 hw out2 z ((Ext.trans e e0w).trans ez) ((RowR.loc _ _ _).mono hrz fun b _ hb => by have := (Ext.trans e e0w).1; omega)
   ·refine YX (a := .i .i64) (fun (t : Int) y => y = z /\ ∃ n : Nat, t = (n : Int) /\ i + n <= 16 /\ ∀ j, j < n -> st[16 * x + i + j]? = some 2) (fun t _ => 20 - t.toNat) ⟨rfl, 0, rfl, by omega, fun j hj => by omega⟩ ?_
    rintro t3 y ⟨rfl, n, rfl, hn, hall⟩
    have stop : (i + n = 16 ∨ st[16 * x + i + n]? ≠ some 2) -> If (decide ((n : Int) > 0)) (Ar .i64 ((x : Int) * 16) fun t73 => Ar .i64 (t73 + (i : Int)) fun t75 => Nw (.cells #[.int .i64 t75, .int .i64 (n : Int)] 123 (0, 0)) y fun n78 v13 =>
     App out2 2 16 123 [.int .i64 0, .int .i64 0] ⟨(some n78), 1, 1⟩ v13 fun out2' v14 => Ar .i64 ((m2 : Int) + (n : Int)) fun planned2 => Ar .i64 ((i : Int) + (n : Int)) fun i1 => Ar .i64 (i1 + 1) fun i2 =>
     (∃ (i : Nat) (D : List (Nat × Nat)) (m : Nat), i2 = (i : Int) /\ i <= 17 /\ planned2 = (m : Int) /\ m <= 16 * k + i /\ m <= 16 * k + 16 /\ D.length <= 16 * k + i /\ D.length <= 16 * k + 16 /\ Ext0 w v14 /\ RowR out2' 2 (rV D) v14 (fun b => w.size <= b) /\ D ++ cutW want m (Ql st (16 * x + 16) 17 (16 * x + i) ++ ((ordT st).drop (k + 1)).flatMap (KI st)) = Uc st want) /\ 20 - i2.toNat < 20 - (i : Int).toNat)
     (Ar .i64 ((i : Int) + 1) fun i3 => (∃ (i : Nat) (D : List (Nat × Nat)) (m : Nat), i3 = (i : Int) /\ i <= 17 /\ (m2 : Int) = (m : Int) /\ m <= 16 * k + i /\ m <= 16 * k + 16 /\ D.length <= 16 * k + i /\ D.length <= 16 * k + 16 /\ Ext0 w y /\ RowR out2 2 (rV D) y (fun b => w.size <= b) /\ D ++ cutW want m (Ql st (16 * x + 16) 17 (16 * x + i) ++ ((ordT st).drop (k + 1)).flatMap (KI st)) = Uc st want) /\ 20 - i3.toNat < 20 - (i : Int).toNat) := by
     intro hst
     have hrl : runL st (16 * x + i) (16 * x + 16 - (16 * x + i)) = n := WdK (by omega) hall (by
      rcases hst with h | h
      ·left; omega
      ·right; exact h)
     rw [WcZ (by omega) (by omega), hrl] at hpz
     refine ifD (fun hpos => ?_) fun hz0 => ?_
     ·rw [if_neg (by omega), List.cons_append, Wg8 (by omega)] at hpz
      refine arN (m := x * 16) (by omega) (by omega) (arN (m := 16 * x + i) (by omega) (by omega) ?_)
      refine hrz.push (vs := [.int .i64 ((16 * x + i : Nat) : Int), .int .i64 (n : Int)]) (fun b hb => Nat.le_trans ez.1 hb) rfl rfl (by simp [one1]) (by omega) (by omega) fun s' v' hl' e' hr' => ?_
      refine arN (m := m2 + n) (by omega) (by omega) (arN (m := i + n) (by omega) (by omega) (arN (m := i + n + 1) (by omega) (by omega) ⟨⟨i + n + 1, D2 ++ [(16 * x + i, n)], m2 + n, rfl, by omega, rfl, by omega, by omega, by simp; omega, ?_, Ext.fresh ez e' fun i hi => hi, ?_, ?_⟩, by omega⟩))
      ·simp
       have : D2.length < 16 * k + 16 := by omega
       omega
      ·rw [Whz]; exact hr'
      ·rw [← hpz, List.append_assoc, show 16 * x + (i + n + 1) = 16 * x + i + n + 1 by omega]
       rfl
     ·rw [if_pos (by omega)] at hpz
      exact arN (m := i + 1) (by omega) (by omega) ⟨⟨i + 1, D2, m2, rfl, by omega, rfl, by omega, by omega, by omega, by omega, ez, hrz, hpz⟩, by omega⟩
    refine arN (m := i + n) (by omega) (by omega) (JnB.intro (ifD (fun hc4 => ?_) fun hc4 => ifF rfl (stop (.inl (by omega)))))
    refine hbz.rP0 rfl (WcC hTz hxm fun c => arN (m := i + n) (by omega) (by omega) ?_)
    have hidx : 16 * x + i + n < st.length := by omega
    have hsx : st[16 * x + i + n]? = some st[16 * x + i + n] := gGe hidx
    have hpart := hTz.part (s := ⟨some ⟨q, 16 * x, none⟩, 16, c⟩) (n := 16) rfl rfl hxm
    refine hpart.ixN (i := i + n) (x := st[16 * x + i + n]) ?_ ?_
    ·rw [List.getElem?_take, if_pos (by omega), List.getElem?_drop, show 16 * x + (i + n) = 16 * x + i + n by omega]; exact hsx
    have e2 : (((st[16 * x + i + n] : Nat) : Int) == 2) = (st[16 * x + i + n] == 2) := beqN _ 2
    rw [e2]
    refine iff_ (fun hc5 => ?_) fun hc5 => ?_
    ·have h2 : st[16 * x + i + n] = 2 := by simpa using hc5
     refine arN (m := n + 1) (by omega) (by omega) ⟨⟨rfl, n + 1, rfl, by omega, fun j hj => ?_⟩, by omega⟩
     by_cases hjn : j = n
     ·subst hjn; rw [hsx, h2]
     ·exact hall j (by omega)
    ·have h2 : st[16 * x + i + n] ≠ 2 := by simpa using hc5
     refine stop (.inr ?_)
     rw [hsx]; intro e5; exact h2 (Option.some.inj e5)
  ·rw [WdZ (by omega), List.nil_append] at hpz
   exact arN (m := k + 1) (by omega) (by omega) ⟨⟨k + 1, D2, m2, rfl, by omega, rfl, by omega, by omega, ez, hrz, hpz⟩, by omega⟩
 ·have : k = (ordT st).length := by omega
  subst this
  rw [List.drop_length, List.flatMap_nil] at hpl
  have : cutW want m [] = [] := rfl
  rw [this, List.append_nil] at hpl
  rw [hpl] at hro
  exact h1 hw out v ((Ext.trans e e0w).trans ev2) ((RowR.loc _ _ _).mono hro fun b _ hb => by have := (Ext.trans e e0w).1; omega)
end Go.Ar
namespace Go.Ar
open Go Go.Vc Go.Proofs
open Go.Bu (XA Zg Xj cnt)


variable {U : Hp} {F H : Rg} {p hs : Nat} {A : AR} {sp : Sp} {Y : Lay} {T : Nat -> Hp -> Rg -> Prop}
theorem WbR {want : Int} : ∀ (x : Nat) (l : List (Nat × Nat)), (cutW want x l).length <= l.length /\ ∀ r ∈ cutW want x l, r ∈ l
 | _, [] => ⟨Nat.le_refl _, fun r h => h⟩
 | x, r :: l => by
  have ih := WbR (want := want) (x + r.2) l
  show (if want <= (x : Int) then [] else r :: cutW want (x + r.2) l).length <= _ /\ ∀ q ∈ (if want <= (x : Int) then [] else r :: cutW want (x + r.2) l), _
  split
  ·exact ⟨Nat.zero_le _, fun q h => by simp at h⟩
  ·refine ⟨by simp only [List.length_cons]; omega, fun q hq => ?_⟩
   rcases List.mem_cons.1 hq with h | h
   ·subst h; exact List.mem_cons_self
   ·exact List.mem_cons_of_mem _ (ih.2 q h)
theorem KF {st : List Nat} {e : Nat} : ∀ (f x : Nat), (Ql st e f x).length <= f /\ ∀ r ∈ Ql st e f x, r.1 + r.2 <= e
 | 0, x => ⟨Nat.le_refl _, fun r h => by simp [Ql] at h⟩
 | f + 1, x => by
  have h1 := KF (st := st) (e := e) f (x + 1)
  have h2 := KF (st := st) (e := e) f (x + runL st x (e - x) + 1)
  have hrl : runL st x (e - x) <= e - x := by
   unfold runL
   refine Nat.le_trans (List.takeWhile_sublist _).length_le ?_
   rw [List.length_take]; omega
  unfold Ql
  split
  ·exact ⟨Nat.zero_le _, fun r h => by simp at h⟩
  ·split
   ·exact ⟨by have := h1.1; omega, h1.2⟩
   ·refine ⟨by simp only [List.length_cons]; have := h2.1; omega, fun r hr => ?_⟩
    rcases List.mem_cons.1 hr with h | h
    ·subst h; simp only; omega
    ·exact h2.2 r h
theorem Wbe {st : List Nat} (hl : st.length <= 1024) (want : Int) : (Uc st want).length <= 2000 /\ ∀ r ∈ Uc st want, r.1 + r.2 <= st.length := by
 have hp : ∀ x ∈ ordT st, 16 * x + 16 <= st.length := fun x hx => by
  rw [KZ hl] at hx
  exact (Kh hl x ((Qp _).mem_iff.1 hx)).1
 have hlo : (ordT st).length <= 64 := by
  rw [KZ hl, (Qp _).length_eq]
  refine Nat.le_trans (List.length_filter_le _ _) ?_
  rw [List.length_range]; omega
 have hfl : ∀ l : List Nat, (l.flatMap (KI st)).length <= 17 * l.length := by
  intro l
  induction l with
  | nil => simp
  | cons x l ih =>
   rw [List.flatMap_cons, List.length_append, List.length_cons]
   have := (KF (st := st) (e := 16 * x + 16) 17 (16 * x)).1
   have e : KI st x = Ql st (16 * x + 16) 17 (16 * x) := rfl
   rw [e]; omega
 have hc := WbR (want := want) 0 ((ordT st).flatMap (KI st))
 refine ⟨?_, fun r hr => ?_⟩
 ·have := hfl (ordT st)
  have := hc.1
  unfold Uc; omega
 ·have := hc.2 r hr
  rw [List.mem_flatMap] at this
  obtain ⟨x, hx, hr2⟩ := this
  have h1 := (KF (st := st) (e := 16 * x + 16) 17 (16 * x)).2 r hr2
  have h2 := hp x hx
  omega
def relE (want : Int) : Int := if want < 0 then 1 else 0
theorem Wbd (h : W2 U F H Y A T sp) (want : Int) (h12 : (KV (Zi A).st).length <= 12) {R : Int -> Int -> Hp -> Prop} (hR : ∀ σ' F' H', Fits U F H F' H' -> Ext (Both F H) U σ' -> W2 σ' F' H' Y (relS A sp want).1 T (relS A sp want).2 -> R ((relV A want : Nat) : Int) (relE want) σ') :
 XC.call (some ⟨Y.p, 0, none⟩) want U R := by
 refine XC.of_vc ?_
 unfold XC.vc
 refine Qx h.a (ifF rfl (ifD (fun hw => ?_) fun hw => nilP (h.a.hd.rS rfl (Wel h.a rfl fun v e hA => ?_))))
 ·have e1 : relS A sp want = (A, sp) := by unfold relS; rw [if_pos hw]
  have e2 : relV A want = 0 := by unfold relV; rw [if_pos hw]
  have e3 : relE want = 1 := by unfold relE; rw [if_pos hw]
  have := hR U F H Fits.refl (Ext.refl _ _) (by rw [e1]; exact h)
  rw [e2, e3] at this; exact this
 have e1 : relS A sp want = (Uc (Zi A).st want).foldl rel1 (Zi A, sp) := by unfold relS; rw [if_neg hw]; rfl
 have e2 : relV A want = ((Uc (Zi A).st want).map (·.2)).sum := by unfold relV; rw [if_neg hw]; rfl
 have e3 : relE want = 0 := by unfold relE; rw [if_neg hw]
 rw [e1, e2, e3] at hR
 have hW := h.arenaG e hA
 have hstl : (Zi A).st.length <= 1024 := by have := hA.lay.st; have := hA.lay.n2; omega
 obtain ⟨_, _, q, hT, _⟩ := hW.a.trk
 refine nilP (hW.a.hd.rP rfl (Wh2 hT want h12 (fun hlt => absurd hlt hw) fun _ s v1 ev1 hrow => ?_))
 have hb := Wbe hstl want
 generalize Uc (Zi A).st want = P at *
 have hlen : s.len = P.length := by have := hrow.1; rw [WbX] at this; omega
 have hW1 := hW.cut.keep0 ev1
 refine ifF rfl (nilP (hW1.a.hd.rP rfl (nilP (hW1.rSp ?_))))
 refine nw (cs := [.func (.func 71) #[.pointer (some ⟨Y.tr, 0, none⟩)] #[], .func (.func 72) #[.pointer (some ⟨Y.hs, 0, none⟩)] #[]]) fun v2 hz2 ev2 hb2 => ?_
 have hW2 := hW1.keep0 ev2
 have esz1 := ev1.1
 have es : ∀ {a b : Hp}, Ext (Cut (Cut H U) v) a b -> Ext (Both F H) a b := fun e => e.sub fun b hb => .inr hb.1.1
 have ea : ∀ {a b : Hp}, Ext (Cut (Grow F U) v) a b -> Ext (Both (Grow F U) H) a b := fun e => e.sub fun b hb => .inl hb.1
 have es' : ∀ {a b : Hp}, Ext (Cut (Cut H U) v) a b -> Ext (Both (Grow F U) H) a b := fun e => e.sub fun b hb => .inr hb.1.1
 have nF : ∀ b, v.size <= b -> ¬ Cut (Grow F U) v b := fun b hb hc => by have := hc.2; omega
 have nH : ∀ b, v.size <= b -> ¬ Cut (Cut H U) v b := fun b hb hc => by have := hc.2; omega
 have hs2 : SlR s 2 (rV P) v2 (fun b => v.size <= b) := (SlR.loc _ _ _).keep0 hrow.slR ev2
 refine KA (a := .i .i64) (bb := .i .i64) (fun (rel : Int) (t : Int) w => ∃ i : Nat, t = (i : Int) /\ i <= P.length /\ rel = (((P.take i).map (·.2)).sum : Nat) /\ ((P.take i).map (·.2)).sum <= 1024 * i /\ Ext (Both (Grow F U) H) v w /\ W2 w (Cut (Grow F U) v) (Cut (Cut H U) v) Y ((P.take i).foldl rel1 (Zi A, sp)).1 T ((P.take i).foldl rel1 (Zi A, sp)).2 /\ SlR s 2 (rV P) w (fun b => v.size <= b) /\ Blk w v1.size [.func (.func 71) #[.pointer (some ⟨Y.tr, 0, none⟩)] #[], .func (.func 72) #[.pointer (some ⟨Y.hs, 0, none⟩)] #[]]) (fun _ t _ => P.length - t.toNat)
  ⟨0, rfl, by omega, rfl, by simp, (Ext0.to ev1).trans0 ev2, hW2, hs2, hb2⟩ ?_
 rintro rel t w ⟨i, rfl, hi, rfl, hsum, ew, hWw, hsw, hbw⟩
 refine ifD (fun hlt => ?_) fun hge => ?_
 ·have hi' : i < P.length := by omega
  have hx : P[i]? = some P[i] := gGe hi'
  have htk : P.take (i + 1) = P.take i ++ [P[i]] := by rw [List.take_add_one, hx]; rfl
  have hbr := hb.2 _ (List.getElem_mem hi')
  generalize P[i] = r at *
  refine Wiw hsw hx ?_
  refine nw (cs := [.int .i64 0, .int .i64 0]) fun v4 hz4 e4 hb4 => hb4.s1 (by simp) fun v5 o5 b5 => b5.s1 (by simp) fun v6 o6 b6 => ?_
  have e46 : Ext0 w v6 := Ext.fresh (Ext.fresh e4 o5.ext fun i hi => by omega) o6.ext fun i hi => by omega
  have b6' : Blk v6 w.size [.int .i64 (r.1 : Int), .int .i64 (r.2 : Int)] := b6
  have hW6 := hWw.keep0 e46
  have hbw6 := e46.blk hbw id
  have hsw6 := (SlR.loc _ _ _).keep0 hsw e46
  have hwz : v.size <= w.size := ew.1
  have hv1z : v.size <= v1.size := ev1.1
  refine YX (a := .i .i64) (fun (t : Int) z => ∃ j : Nat, t = (j : Int) /\ j <= 2 /\ Ext (Both (Grow F U) H) v z /\ W2 z (Cut (Grow F U) v) (Cut (Cut H U) v) Y (if j = 0 then ((P.take i).foldl rel1 (Zi A, sp)).1 else (rel1 ((P.take i).foldl rel1 (Zi A, sp)) r).1) T (if j <= 1 then ((P.take i).foldl rel1 (Zi A, sp)).2 else (rel1 ((P.take i).foldl rel1 (Zi A, sp)) r).2) /\ SlR s 2 (rV P) z (fun b => v.size <= b) /\ Blk z v1.size [.func (.func 71) #[.pointer (some ⟨Y.tr, 0, none⟩)] #[], .func (.func 72) #[.pointer (some ⟨Y.hs, 0, none⟩)] #[]] /\ Blk z w.size [.int .i64 (r.1 : Int), .int .i64 (r.2 : Int)]) (fun t _ => 2 - t.toNat)
   ⟨0, rfl, by omega, ew.trans0 e46, hW6, hsw6, hbw6, b6'⟩ ?_
  rintro t z ⟨j, rfl, hj, ez, hWz, hsz, hbz, bz⟩
  refine ifD (fun hlt2 => ?_) fun hge2 => ?_
  ·have hj2 : j = 0 ∨ j = 1 := by omega
   rcases hj2 with rfl | rfl
   ·refine ix (by omega) (by omega) ?_
    refine ⟨⟨71, #[.pointer (some ⟨Y.tr, 0, none⟩)], #[]⟩, by rw [add_lit, hbz.cell]; rfl, bz.rI rfl (bz.rI rfl ?_)⟩
    refine WaO (all := #[.pointer (some ⟨Y.tr, 0, none⟩), .int .i64 (r.1 : Int), .int .i64 (r.2 : Int)]) (by kernel_rfl) (by simp) ?_
    rw [if_pos rfl, if_pos (by omega)] at hWz
    show Xb.call (some ⟨Y.tr, 0, none⟩) (r.1 : Int) (r.2 : Int) z _
    refine hWz.a.Rel _ _ fun z2 t2 e5 hA5 => ?_
    refine arN (m := 1) (by omega) (by omega) ⟨⟨1, rfl, by omega, ez.trans (ea e5), ?_, (SlR.loc _ _ _).keep hsz e5 fun b _ hb => nF b hb, e5.blk hbz (nF _ hv1z), e5.blk bz (nF _ hwz)⟩, by omega⟩
    rw [if_neg (by omega), if_pos (by omega)]
    exact hWz.arena e5 hA5
   ·refine ix (by omega) (by omega) ?_
    refine ⟨⟨72, #[.pointer (some ⟨Y.hs, 0, none⟩)], #[]⟩, by rw [add_lit, hbz.cell]; rfl, bz.rI rfl (bz.rI rfl ?_)⟩
    refine WaO (all := #[.pointer (some ⟨Y.hs, 0, none⟩), .int .i64 (r.1 : Int), .int .i64 (r.2 : Int)]) (by kernel_rfl) (by simp) ?_
    rw [if_neg (by omega), if_pos (by omega)] at hWz
    show XE.call (some ⟨Y.hs, 0, none⟩) (r.1 : Int) (r.2 : Int) z _
    refine Wdb hWz.s hWz.g hWz.o2 _ _ fun z2 e5 hS5 => ?_
    refine arN (m := 2) (by omega) (by omega) ⟨⟨2, rfl, by omega, ez.trans (es' e5), ?_, (SlR.loc _ _ _).keep hsz e5 fun b _ hb => nH b hb, e5.blk hbz (nH _ hv1z), e5.blk bz (nH _ hwz)⟩, by omega⟩
    rw [if_neg (by omega), if_neg (by omega)]
    exact hWz.space e5 hS5
  ·have hjj : j = 2 := by omega
   subst hjj
   rw [if_neg (by omega), if_neg (by omega)] at hWz
   have hsum' : ((P.take (i + 1)).map (·.2)).sum = ((P.take i).map (·.2)).sum + r.2 := by rw [htk]; simp
   refine bz.rI rfl (arN (m := ((P.take i).map (·.2)).sum + r.2) (by omega) (by omega) (arN (m := i + 1) (by omega) (by omega) ⟨⟨i + 1, rfl, by omega, by rw [hsum'], by rw [hsum']; omega, ez, ?_, hsz, hbz⟩, by omega⟩))
   rw [htk, List.foldl_append]
   exact hWz
 ·have : i = P.length := by omega
  subst this
  rw [List.take_length] at hWw ⊢
  refine hR w (Cut (Grow F U) v) (Cut (Cut H U) v) ⟨fun b hb => hb.1, fun b hb => hb.1.1⟩ ((e.sub fun b hb => .inl hb).newT ew fun b hb => ?_) hWw
  rcases hb with (hb | hb) | hb
  ·exact .inl (.inl hb)
  ·exact .inr hb
  ·exact .inl (.inr hb)
end Go.Ar
namespace Go.Ar
open Go Go.Vc Go.Proofs
open Go.Bu (XA Zg Xj cnt)


variable {U : Hp} {F H : Rg} {p hs : Nat} {A : AR} {sp : Sp} {Y : Lay} {T : Nat -> Hp -> Rg -> Prop}
theorem Ht {s : Sl} {l : List Nat} (h : SlR s 1 (ptrV l) U F) {k q : Nat} (hq : l[k]? = some q) {K : Option Addr -> Prop} (hK : K (some ⟨q, 0, none⟩)) : Ix s.a s.len (k : Int) 1 fun a => LdH (fun m => Ext0 U m) .p a K := by
 have hk := (gSi.1 hq).1
 obtain ⟨b, o, ha, hcell⟩ := h.cell (j := k) (v := .pointer (some ⟨q, 0, none⟩)) (by simp [ptrV, hq])
 have hl := h.1
 simp [ptrV] at hl
 rw [ha]
 refine ix (by omega) (by omega) ⟨_, fun m hm => ?_, hK⟩
 rw [add_lit, show o + (k : Int).toNat * 1 = o + k by omega, ZV hm (ZM hcell) id]
 exact hcell
theorem AHY.crowH (h : AHY U F Y A T) {k q : Nat} (hq : Y.cps[k]? = some q) {K : Option Addr -> Prop} (hK : K (some ⟨q, 0, none⟩)) : Ix Y.crow.a Y.crow.len (k : Int) 1 fun a => LdH (fun m => Ext0 U m) .p a K := by
 obtain ⟨G, hG, hb⟩ := h.sep.get .crow
 exact Ht (RowR.slR hb) hq hK
theorem AHY.trowH (h : AHY U F Y A T) {k q : Nat} (hq : Y.tps[k]? = some q) {K : Option Addr -> Prop} (hK : K (some ⟨q, 0, none⟩)) : Ix Y.trow.a Y.trow.len (k : Int) 1 fun a => LdH (fun m => Ext0 U m) .p a K := by
 obtain ⟨G, hG, hb⟩ := h.sep.get .trow
 exact Ht (RowR.slR hb) hq hK
theorem AHY.hdH (h : AHY U F Y A T) {i : Nat} {c : CK} {x : c.T} (hx : (hdV Y)[i]? = some (c.v x)) {K : c.T -> Prop} (hK : K x) : LdH (fun m => Ext0 U m) c (Addr.add ⟨Y.p, 0, none⟩ i) K := by
 refine ⟨x, fun m hm => ?_, hK⟩
 rw [add_lit, (Ext.blk hm h.hd id).cell, Nat.zero_add]; exact hx
theorem AHY.tra (h : AHY U F Y A (traT A Y)) {k q : Nat} {c : Cls} {t : TrA} (h1 : Y.tps[k]? = some q) (h2 : A.tb[k]? = some c) (h3 : A.tra[k]? = some t) : ∃ G : Rg, (∀ b, G b -> F b) /\ TfH U G q c.batch A.room t := by
 obtain ⟨G, hG, hi, _⟩ := h.traS h1 h2 h3
 exact ⟨G, hG, hi⟩
theorem Whc {c : Cls} {s : Sl} {tb : List Cls} (h : SlR s 3 (tabV tb) U F) {k ty : Nat} (hc : tb[k]? = some c) {K : Addr -> Hp -> Prop} (hK : ∀ v, Ext0 U v -> Blk v U.size [.int .i64 (c.size : Int), .int .i64 (c.pages : Int), .int .i64 (c.batch : Int)] -> K ⟨U.size, 0, none⟩ v) :
 Ix s.a s.len (k : Int) 3 fun a31 => LdI .i64 (a31.add 0) U fun t32 => LdI .i64 (a31.add 1) U fun t321 => LdI .i64 (a31.add 2) U fun t322 =>
  Nw (.cells #[.int .i64 0, .int .i64 0, .int .i64 0] ty (0, 0)) U fun n14 v2 => St1 (n14.add 0) (.int .i64 t32) v2 fun v3 => St1 (n14.add 1) (.int .i64 t321) v3 fun v4 => St1 (n14.add 2) (.int .i64 t322) v4 fun v5 => K n14 v5 := by
 have hg := GX hc
 have hk := (gSi.1 hc).1
 obtain ⟨b, o, ha, c0⟩ := h.cell hg.1
 obtain ⟨b1, o1, ha1, c1⟩ := h.cell hg.2.1
 obtain ⟨b2, o2, ha2, c2⟩ := h.cell hg.2.2
 rw [ha] at ha1 ha2; cases ha1; cases ha2
 have hl := h.1
 rw [Va] at hl
 rw [ha]
 refine ix (by omega) (by omega) ?_
 rw [add_lit, show o + (k : Int).toNat * 3 = o + 3 * k by omega]
 refine ldI0 (by simpa using c0) (ldI0 (by rw [Nat.add_assoc]; exact c1) (ldI0 (by rw [Nat.add_assoc]; exact c2) ?_))
 refine nw (cs := [.int .i64 0, .int .i64 0, .int .i64 0]) fun v2 hz2 e2 b2 => b2.s1 (by simp) fun v3 o3 b3 => b3.s1 (by simp) fun v4 o4 b4 => b4.s1 (by simp) fun v5 o5 b5 => ?_
 exact hK v5 (Ext.fresh (Ext.fresh (Ext.fresh e2 o3.ext fun i hi => by omega) o4.ext fun i hi => by omega) o5.ext fun i hi => by omega) b5
def part {α : Type} (f : Cls -> α -> Nat) (tb : List Cls) (l : List α) (i : Nat) : Nat := (((tb.zip l).take i).map fun x => f x.1 x.2).sum
theorem VE {α : Type} {f : Cls -> α -> Nat} {tb : List Cls} {l : List α} {i : Nat} {c : Cls} {x : α} (hc : tb[i]? = some c) (hx : l[i]? = some x) : part f tb l (i + 1) = part f tb l i + f c x := by
 unfold part
 have : (tb.zip l)[i]? = some (c, x) := by rw [List.getElem?_zip_eq_some]; exact ⟨hc, hx⟩
 rw [List.take_add_one, this]
 simp
theorem UJ {α : Type} {f : Cls -> α -> Nat} {tb : List Cls} {l : List α} (h : l.length = tb.length) : part f tb l tb.length = ((tb.zip l).map fun x => f x.1 x.2).sum := by
 unfold part
 rw [List.take_of_length_le (by rw [List.length_zip]; omega)]
theorem Weg : ∀ {l : List (Int × Int)} {n x : Int}, (l.map (·.1)).Nodup -> (n, x) ∈ l -> (l.map (·.2)).sum = x + ((l.filter fun y => !(y.1 == n)).map (·.2)).sum
 | [], _, _, _, h => by simp at h
 | y :: l, n, x, hn, h => by
  simp only [List.map_cons, List.nodup_cons] at hn
  rcases List.mem_cons.1 h with h1 | h1
  ·subst h1
   have : l.filter (fun y => !(y.1 == n)) = l := by
    rw [List.filter_eq_self]
    intro z hz
    have : z.1 ≠ n := fun e => hn.1 (List.mem_map.2 ⟨z, hz, e⟩)
    simpa using this
   rw [List.filter_cons_of_neg (by simp), this]
   simp
  ·have hne : y.1 ≠ n := fun e => hn.1 (List.mem_map.2 ⟨_, h1, e.symm⟩)
   rw [List.filter_cons_of_pos (by simpa using hne)]
   simp only [List.map_cons, List.sum_cons]
   rw [Weg hn.2 h1]; omega
theorem Wgb (l : List (Nat × Nat)) : ((runI l).map (·.2)).sum = (((l.map (·.2)).sum : Nat) : Int) := by
 induction l with
 | nil => rfl
 | cons x l ih =>
  have : runI (x :: l) = ((x.1 : Int), (x.2 : Int)) :: runI l := rfl
  rw [this]
  simp only [List.map_cons, List.sum_cons]
  rw [ih]; omega
theorem V7 (h : AHY U F Y A (traT A Y)) (hr : Vr A <= 1000000) {R : Int -> Int -> Int -> Int -> Int -> Int -> Hp -> Prop}
 (hR : ∀ σ', Ext0 U σ' -> R (Wcv A : Nat) (Wgv A : Nat) (WbN A : Nat) (U6 A : Nat) (Vr A : Nat) (cnt A.n A.S : Nat) σ') : Xi.call (some ⟨Y.p, 0, none⟩) U R := by
 refine Xi.of_vc ?_
 unfold Xi.vc
 have htl := h.tabL
 have ht2 := h.lay.tb2
 refine Qx h (ifF rfl (nilP (h.hd.rS rfl ?_)))
 refine Win (a := .i .i64) (bb := .i .i64) (c := .i .i64) (d := .i .i64) (e := .i .i64) (fun (moved room tails spans t : Int) v => ∃ i : Nat, t = (i : Int) /\ i <= A.tb.length /\ Ext0 U v /\ moved = (part (fun c (t : TrA) => t.bs.flatten.length * c.size) A.tb A.tra i : Nat) /\ room = (part (fun c ss => Qs ss * c.size) A.tb A.cen i : Nat) /\ tails = (part (fun c (ss : List SpA) => ss.length * c.tail) A.tb A.cen i : Nat) /\ spans = (part (fun c (ss : List SpA) => ss.length * c.pages) A.tb A.cen i : Nat) ∧
  part (fun c (t : TrA) => t.bs.flatten.length * c.size) A.tb A.tra i <= i * 1000000000 /\ part (fun c ss => Qs ss * c.size) A.tb A.cen i <= i * 1000000000 /\ part (fun c (ss : List SpA) => ss.length * c.tail) A.tb A.cen i <= i * 1000000000 /\ part (fun c (ss : List SpA) => ss.length * c.pages) A.tb A.cen i <= i * 1000000000) (fun _ _ _ _ t _ => A.tb.length - t.toNat)
  ⟨0, rfl, by omega, Ext.refl _ _, by simp [part], by simp [part], by simp [part], by simp [part], by simp [part], by simp [part], by simp [part], by simp [part]⟩ ?_
 rintro moved room tails spans t v ⟨i, rfl, hi, e, rfl, rfl, rfl, rfl, b1, b2, b3, b4⟩
 have hv := h.keep0 e
 refine ifD (fun hlt => ?_) fun hge => ?_
 ·have hi' : i < A.tb.length := by simp only at hlt; omega
  obtain ⟨c, ss, q, t, r, hc, hss, hq, ht, hrr, hok⟩ := h.at_ hi'
  obtain ⟨G, hG, htab⟩ := hv.sep.get .tab
  refine Whc htab hc fun v5 e5 b5 => ?_
  have h5 := hv.keep0 e5
  refine b5.rI rfl (b5.rI rfl (b5.rI rfl (Why hok fun v6 e6 => ?_)))
  have h6 := h5.keep0 e6
  have b6 := e6.blk b5 id
  obtain ⟨G1, ps, _, hC⟩ := h6.cen hq hc hss
  refine nilP (h6.hd.rS rfl (h6.crowR hq (Wgj hC fun s v7 e7 hrow => ?_)))
  have h7 := h6.keep0 e7
  have b7 := e7.blk b6 id
  have hsl : s.len = ss.length := by have := hrow.1; rw [GY, List.length_map] at this; omega
  refine ⟨fun m => Ext0 v7 m, Ext.refl _ _, nilP (h7.hdH (c := .s) (x := Y.trow) rfl (h7.trowH hrr ⟨(c.size : Int), fun m hm => by rw [add_lit, (Ext.blk hm b7 id).cell]; rfl, ?_⟩))⟩
  obtain ⟨G2, _, hTf⟩ := h7.tra hrr hc ht
  refine Whn hTf fun s2 v8 e8 hl8 hrow8 => ⟨e8, ?_⟩
  have h8 := h7.keep0 e8
  have b8 := e8.blk b7 id
  have hflat := hTf.flat
  have hroom := hC.room
  have hfew := hC.few
  obtain ⟨hz1, hz2, _, hp1, hp2, _⟩ := hok
  have hm1 : t.bs.flatten.length * c.size <= 1000000000 := Nat.le_trans (Nat.mul_le_mul hflat hz2) (by omega)
  have hm2 : Qs ss * c.size <= 1000000000 := Nat.le_trans (Nat.mul_le_mul hroom hz2) (by omega)
  have htail : c.tail <= 1024 := by unfold Cls.tail; omega
  have hm3 : ss.length * c.tail <= 1000000000 := Nat.le_trans (Nat.mul_le_mul hfew htail) (by omega)
  have hm4 : ss.length * c.pages <= 1000000000 := Nat.le_trans (Nat.mul_le_mul hfew hp2) (by omega)
  have s1 := VE (f := fun c (t : TrA) => t.bs.flatten.length * c.size) hc ht
  have s2' := VE (f := fun c ss => Qs ss * c.size) hc hss
  have s3 := VE (f := fun c (ss : List SpA) => ss.length * c.tail) hc hss
  have s4 := VE (f := fun c (ss : List SpA) => ss.length * c.pages) hc hss
  refine arN (m := t.bs.flatten.length * c.size) (by rw [hl8]; simp) (by omega) (arN (m := part (fun c (t : TrA) => t.bs.flatten.length * c.size) A.tb A.tra (i + 1)) (by rw [s1]; simp) (by rw [s1]; omega) ?_)
  refine ⟨fun m => Ext0 v8 m, Ext.refl _ _, nilP (h8.hdH (c := .s) (x := Y.crow) rfl (h8.crowH hq ⟨(c.size : Int), fun m hm => by rw [add_lit, (Ext.blk hm b8 id).cell]; rfl, ?_⟩))⟩
  obtain ⟨G3, ps3, _, hC8⟩ := h8.cen hq hc hss
  refine Whe hC8 fun v9 e9 => ⟨e9, ?_⟩
  have b9 := e9.blk b8 id
  refine arN (m := Qs ss * c.size) (by simp) (by omega) (arN (m := part (fun c ss => Qs ss * c.size) A.tb A.cen (i + 1)) (by rw [s2']; simp) (by rw [s2']; omega) ?_)
  refine arN (m := ss.length * c.tail) (by rw [hsl]; simp) (by omega) (arN (m := part (fun c (ss : List SpA) => ss.length * c.tail) A.tb A.cen (i + 1)) (by rw [s3]; simp) (by rw [s3]; omega) ?_)
  refine b9.rI rfl (arN (m := ss.length * c.pages) (by rw [hsl]; simp) (by omega) (arN (m := part (fun c (ss : List SpA) => ss.length * c.pages) A.tb A.cen (i + 1)) (by rw [s4]; simp) (by rw [s4]; omega) ?_))
  refine arN (m := i + 1) (by omega) (by omega) ⟨⟨i + 1, rfl, by omega, ((((Ext.trans e e5).trans e6).trans e7).trans e8).trans e9, rfl, rfl, rfl, rfl, by rw [s1]; omega, by rw [s2']; omega, by rw [s3]; omega, by rw [s4]; omega⟩, by omega⟩
 ·have : i = A.tb.length := by simp only at hge; omega
  subst this
  obtain ⟨_, hm, _⟩ := hv.runsS
  have hsum := Wgb A.runs
  refine nilP (hv.hd.rM rfl (rng1 (c := .i .i64) (a := .i .i64) (x0 := (0 : Int)) hm (fun todo (z : Int) w => Ext0 v w /\ (todo.map (·.1)).Nodup /\ (∀ y ∈ todo, 0 <= (y.2 : Int)) /\ 0 <= z /\ z + (todo.map (·.2)).sum = ((Vr A : Nat) : Int)) (fun w hz ew => ⟨ew, hm.nodup, fun y hy => ?_, by omega, ?_⟩) (fun z w hI => ?_) ?_))
  ·obtain ⟨r, _, rfl⟩ := List.mem_map.1 hy
   show (0 : Int) <= (r.2 : Int); omega
  ·rw [Int.zero_add]; exact hsum
  ·obtain ⟨ew, _, _, _, hz⟩ := hI
   have hz' : z = ((Vr A : Nat) : Int) := by simpa using hz
   subst hz'
   have hw := hv.keep0 ew
   obtain ⟨sb, ms, hB, _⟩ := hw.free
   refine nilP (hw.hd.rP rfl (Go.Bu.Free_ok hB ?_))
   rw [UJ h.lay.tra, UJ h.lay.cen, UJ h.lay.cen, UJ h.lay.cen]
   exact hR w (Ext.trans e ew)
  ·rintro todo n (x : Int) (z : Int) w w' J ⟨ew, hn, hpos, hz0, hz⟩ hx ho hlt hJ
   have hd := Weg hn hx
   have hxp : 0 <= x := hpos _ hx
   have hrest : 0 <= ((todo.filter fun y => !(y.1 == n)).map (·.2)).sum := by
    have : ∀ l : List (Int × Int), (∀ y ∈ l, 0 <= y.2) -> 0 <= (l.map (·.2)).sum := by
     intro l
     induction l with
     | nil => intro _; simp
     | cons y l ih =>
      intro hl
      have := ih fun u hu => hl u (List.mem_cons_of_mem _ hu)
      have := hl y List.mem_cons_self
      simp only [List.map_cons, List.sum_cons]; omega
    exact this _ fun y hy => hpos y (List.mem_filter.1 hy).1
   have hz2 : z + x + ((todo.filter fun y => !(y.1 == n)).map (·.2)).sum = ((Vr A : Nat) : Int) := by
    exact (Int.add_assoc z x _).trans ((congrArg (fun (u : Int) => z + u) hd.symm).trans hz)
   have hxi : (0 : Int) <= x := hxp
   have hup : z + x <= ((Vr A : Nat) : Int) := Int.le_trans (Int.le_add_of_nonneg_right hrest) (Int.le_of_eq hz2)
   have hlo : (0 : Int) <= z + x := Int.add_nonneg hz0 hxi
   refine ar ?_ ?_ (hJ (z + x) w' rfl rfl ⟨Ext.fresh ew ho.ext fun i hi => by omega, ?_, fun y hy => hpos y (List.mem_filter.1 hy).1, ?_, hz2⟩)
   ·show -9223372036854775808 <= (z : Int) + (x : Int); omega
   ·show (z : Int) + (x : Int) <= 9223372036854775807; omega
   ·exact List.Nodup.sublist (List.filter_sublist.map _) hn
   ·exact Int.add_nonneg hz0 hxi
end Go.Ar
namespace Go.Ar
open Go Go.Vc Go.Proofs


variable {U : Hp}
theorem H9 : ∀ (xs : List (Int × Int × Int)), H0 xs = true ↔ ∀ (i : Nat) a b, xs[i]? = some a -> xs[i + 1]? = some b -> a.1 < b.1
 | [] => by simp [H0]
 | [x] => by simp [H0]
 | x :: y :: l => by
  have ih := H9 (y :: l)
  show (decide (x.1 < y.1) && H0 (y :: l)) = true ↔ _
  rw [Bool.and_eq_true, ih, decide_eq_true_eq]
  constructor
  ·rintro ⟨h1, h2⟩ i a b ha hb
   cases i with
   | zero => simp at ha hb; subst ha; subst hb; exact h1
   | succ i => exact h2 i a b (by simpa using ha) (by simpa using hb)
  ·intro h
   exact ⟨h 0 x y rfl rfl, fun i a b ha hb => h (i + 1) a b (by simpa using ha) (by simpa using hb)⟩
theorem Qm (xs : List (Int × Int × Int)) : ZC xs = true ↔ 1 <= xs.length /\ xs.length <= 40 /\ (∀ (i : Nat) t, xs[i]? = some t -> QE t.1 t.2.1 t.2.2 = true) /\ ∀ (i : Nat) a b, xs[i]? = some a -> xs[i + 1]? = some b -> a.1 < b.1 := by
 unfold ZC
 simp only [Bool.and_eq_true, decide_eq_true_eq, H9, List.all_eq_true]
 constructor
 ·rintro ⟨h1, h2, h3, h4⟩
  exact ⟨h1, h2, fun i t ht => h3 t (List.mem_of_getElem? ht), h4⟩
 ·rintro ⟨h1, h2, h3, h4⟩
  exact ⟨h1, h2, fun t ht => by obtain ⟨i, hi⟩ := List.getElem?_of_mem ht; exact h3 i t hi, h4⟩
theorem Wfq {s : Sl} {xs : List (Int × Int × Int)} (ha : Acts U s xs) {R : Bool -> Hp -> Prop} (hR : ∀ σ', Ext0 U σ' -> R (ZC xs) σ') : Zt.call s U R := by
 refine Zt.of_vc ?_
 unfold Zt.vc
 have no : ∀ σ', Ext0 U σ' -> ¬ (1 <= xs.length /\ xs.length <= 40 /\ (∀ (i : Nat) t, xs[i]? = some t -> QE t.1 t.2.1 t.2.2 = true) /\ ∀ (i : Nat) a b, xs[i]? = some a -> xs[i + 1]? = some b -> a.1 < b.1) -> R false σ' := fun σ' e hn => by
  have := hR σ' e
  have hf : ZC xs = false := by rw [← Bool.not_eq_true, Qm]; exact hn
  rw [hf] at this; exact this
 have hlen := ha.1
 refine JnB.intro (ifD (fun c1 => ifT rfl (no U (Ext.refl _ _) fun h => by omega)) fun c1 => ?_)
 refine ifD (fun c2 => no U (Ext.refl _ _) fun h => by omega) fun c2 => ?_
 refine YX (a := .i .i64) (fun (t : Int) v => ∃ i : Nat, t = (i : Int) /\ i <= xs.length /\ Ext0 U v /\ (∀ (j : Nat) t, j < i -> xs[j]? = some t -> QE t.1 t.2.1 t.2.2 = true) /\ ∀ (j : Nat) a b, j + 1 < i -> xs[j]? = some a -> xs[j + 1]? = some b -> a.1 < b.1) (fun t _ => xs.length - t.toNat)
  ⟨0, rfl, by omega, Ext.refl _ _, fun j t h => by omega, fun j a b h => by omega⟩ ?_
 rintro t v ⟨i, rfl, hi, e, h1, h2⟩
 have hav := Zc ha e
 refine ifD (fun hlt => ?_) fun hge => ?_
 ·have hi' : i < xs.length := by omega
  have hx : xs[i]? = some xs[i] := gGe hi'
  generalize xs[i] = r at hx
  obtain ⟨x, y, z⟩ := r
  refine WeR hav hx ?_
  refine nw (cs := [.int .i64 0, .int .i64 0, .int .i64 0]) fun v2 hz2 e2 b2 => b2.s1 (by simp) fun v3 o3 b3 => b3.s1 (by simp) fun v4 o4 b4 => b4.s1 (by simp) fun v5 o5 b5 => ?_
  have e5 : Ext0 v v5 := Ext.fresh (Ext.fresh (Ext.fresh e2 o3.ext fun i hi => by omega) o4.ext fun i hi => by omega) o5.ext fun i hi => by omega
  refine Jn.intro ⟨(· = v5), rfl, ⟨x, fun m hm => by rw [hm, add_lit, b5.cell]; rfl, ⟨y, fun m hm => by rw [hm, add_lit, b5.cell]; rfl, ⟨z, fun m hm => by rw [hm, add_lit, b5.cell]; rfl, ?_⟩⟩⟩⟩
  refine WeZ x y z fun v7 e7 => ?_
  have e07 := (Ext.trans e e5).trans e7
  have bad : (QE x y z = false ∨ ∃ a, 0 < i /\ xs[i - 1]? = some a /\ x <= a.1) -> R false v7 := fun hb => no v7 e07 fun hv => by
   rcases hb with hb | ⟨a, hp, hb1, hb2⟩
   ·have := hv.2.2.1 i _ hx; simp only at this; rw [hb] at this; cases this
   ·have := hv.2.2.2 (i - 1) a (x, y, z) hb1 (by rw [show i - 1 + 1 = i by omega]; exact hx)
    simp only at this; omega
  cases hc : QE x y z
  ·exact ifT rfl (ifT rfl (bad (.inl hc)))
  ·have next : (∀ a, 0 < i -> xs[i - 1]? = some a -> a.1 < x) -> Ar .i64 ((i : Int) + 1) fun t38 => (∃ i : Nat, t38 = (i : Int) /\ i <= xs.length /\ Ext0 U v7 /\ (∀ (j : Nat) t, j < i -> xs[j]? = some t -> QE t.1 t.2.1 t.2.2 = true) /\ ∀ (j : Nat) a b, j + 1 < i -> xs[j]? = some a -> xs[j + 1]? = some b -> a.1 < b.1) /\ xs.length - t38.toNat < xs.length - (i : Int).toNat := by
    intro hp
    refine arN (m := i + 1) (by omega) (by omega) ⟨⟨i + 1, rfl, by omega, e07, fun j t hj ht => ?_, fun j a b hj hja hjb => ?_⟩, by omega⟩
    ·by_cases hji : j = i
     ·subst hji; rw [hx] at ht; cases ht; exact hc
     ·exact h1 j t (by omega) ht
    ·by_cases hji : j + 1 = i
     ·subst hji
      rw [hx] at hjb; cases hjb
      exact hp a (by omega) hja
     ·exact h2 j a b (by omega) hja hjb
   refine ifF rfl (ifD (fun hp => ?_) fun hp => ifF rfl (next fun a hp2 => by omega))
   have hxp : xs[i - 1]? = some (xs[i - 1]'(by omega)) := gGe _
   generalize xs[i - 1]'(by omega) = r at hxp
   obtain ⟨x', y', z'⟩ := r
   have hav7 := Zc ha e07
   obtain ⟨b, o, g1, g2, g3, g4, g5⟩ := hav7.2 (i - 1) x' y' z' hxp
   have b7 := e7.blk b5 id
   refine arN (m := i - 1) (by omega) (by omega) ?_
   rw [g1]
   refine ix (by omega) (by omega) ?_
   have g3' : cell v7 ⟨b, o + (((i - 1 : Nat) : Int)).toNat * 3 + 0, none⟩ = some (.int .i64 x') := by simpa using g3
   have fin : If (decide (x <= x')) (R false v7) (Ar .i64 ((i : Int) + 1) fun t38 => (∃ i : Nat, t38 = (i : Int) /\ i <= xs.length /\ Ext0 U v7 /\ (∀ (j : Nat) t, j < i -> xs[j]? = some t -> QE t.1 t.2.1 t.2.2 = true) /\ ∀ (j : Nat) a b, j + 1 < i -> xs[j]? = some a -> xs[j + 1]? = some b -> a.1 < b.1) /\ xs.length - t38.toNat < xs.length - (i : Int).toNat) := by
    refine ifD (fun hle => bad (.inr ⟨_, by omega, hxp, hle⟩)) fun hgt => next fun a _ ha2 => ?_
    rw [hxp] at ha2; cases ha2
    simp only; omega
   rw [add_lit b o]
   exact ⟨b7.rI rfl (ldI0 g3' fin), ldI0 g3' (b7.rI rfl fin)⟩
 ·have : i = xs.length := by omega
  subst this
  have hv : ZC xs = true := (Qm xs).2 ⟨by omega, by omega, fun i t ht => h1 i t (gSi.1 ht).1 ht, fun i a b hja hjb => h2 i a b (gSi.1 hjb).1 hja hjb⟩
  have := hR v e
  rw [hv] at this; exact this
end Go.Ar
namespace Go.Ar
open Go Go.Vc Go.Proofs
open Go.Bu (XA Zg Xj cnt)


variable {U : Hp} {F H : Rg} {p hs : Nat} {A : AR} {sp : Sp} {Y : Lay} {T : Nat -> Hp -> Rg -> Prop}
open Classical in
theorem _root_.Go.Vc.Sep.put {L : Type} {C C' : L -> Hp -> Rg -> Prop} {U : Hp} {F G : Rg} (hC : ∀ i, Lcl (C i)) (h : Sep C U F) (i : L) (hd : ∀ b, G b -> ¬ F b) (hj : ∀ j, j ≠ i -> C' j = C j) (hi : C' i U G) (hL : Lcl (C' i)) : Sep C' U fun b => F b ∨ G b := by
 obtain ⟨ρ, h⟩ := h
 refine ⟨fun b => if G b then i else ρ b, fun j => ?_⟩
 by_cases hji : j = i
 ·subst hji
  exact hL.mono hi fun b _ hb => ⟨.inr hb, if_pos hb⟩
 ·rw [hj j hji]
  refine (hC j).mono (h j) fun b _ hf => ⟨.inl hf.1, ?_⟩
  show (if G b then i else ρ b) = j
  rw [if_neg fun hg => hd b hg hf.1]; exact hf.2
def ACh (A : AR) (Y : Lay) (T : Nat -> Hp -> Rg -> Prop) (cs : List Value) : Lb -> Hp -> Rg -> Prop
 | .hd => BlkR Y.p cs
 | i => AC A Y T i
theorem ACh.loc {cs : List Value} (hT : ∀ k, Lcl (T k)) : ∀ i, Lcl (ACh A Y T cs i)
 | .hd => BlkR.loc _ _
 | .tab => AC.loc (A := A) (Y := Y) hT .tab
 | .free => AC.loc (A := A) (Y := Y) hT .free
 | .trk => AC.loc (A := A) (Y := Y) hT .trk
 | .own => AC.loc (A := A) (Y := Y) hT .own
 | .crow => AC.loc (A := A) (Y := Y) hT .crow
 | .trow => AC.loc (A := A) (Y := Y) hT .trow
 | .runs => AC.loc (A := A) (Y := Y) hT .runs
 | .cen k => AC.loc (A := A) (Y := Y) hT (.cen k)
 | .tra k => AC.loc (A := A) (Y := Y) hT (.tra k)
theorem WgX : ACh A Y T (hdV Y) = AC A Y T := by
 funext i; cases i <;> rfl
theorem Gs {cs : List Value} (hT : ∀ k, Lcl (T k)) (h : Sep (ACh A Y T cs) U F) (hlen : A.cen.length <= Y.cps.length) (hl : Y.cps.length <= 40) {vb cp ty : Nat} (hb : Blk U vb [.pointer (some ⟨cp, 0, none⟩)]) (hvb : ¬ F vb) {K : Sl -> Hp -> Prop}
 (hK : ∀ s' σ', Ext F U σ' -> Sep (ACh A { Y with crow := s', cps := Y.cps ++ [cp] } T cs) σ' (Grow F U) -> K s' σ') : App Y.crow 1 8 ty [.pointer none] ⟨some ⟨vb, 0, none⟩, 1, 1⟩ U K := by
 obtain ⟨G, hG, hi, _, hput⟩ := h.stepD (ACh.loc hT) .crow
 have hi : RowR Y.crow 1 (ptrV Y.cps) U G := hi
 have hlc : Y.crow.len = Y.cps.length := by have := hi.1; simp [ptrV] at this; omega
 refine hi.app (ys := [.pointer (some ⟨cp, 0, none⟩)]) rfl rfl ?_ (by simp [one1]) (by simp only; omega) (by simp only; omega) Nat.zero_lt_one fun s' σ' hl' e hr => hK s' σ' (e.sub hG) ?_
 ·intro j u hu
  rw [add_lit, Nat.zero_add, hb.cell]; exact hu
 refine (Sep.loc (ACh.loc hT)).mono (hput σ' (ACh A { Y with crow := s', cps := Y.cps ++ [cp] } T cs) (Grow G U) (fun j hj => ?_) e (fun b hb => hb) ?_ (ACh.loc hT _)) fun b _ hb => Q8 hG (fun b hb => hb) b hb
 ·cases j <;> first | rfl | exact absurd rfl hj | skip
  rename_i k
  show CenR (Y.cps ++ [cp])[k]? A.tb[k]? A.cen[k]? = CenR Y.cps[k]? A.tb[k]? A.cen[k]?
  rcases Nat.lt_or_ge k Y.cps.length with h1 | h1
  ·rw [List.getElem?_append_left h1]
  ·have : A.cen[k]? = none := List.getElem?_eq_none (by omega)
   rw [this]
   funext U F
   unfold CenR
   cases (Y.cps ++ [cp])[k]? <;> cases Y.cps[k]? <;> cases A.tb[k]? <;> rfl
 ·show RowR s' 1 (ptrV (Y.cps ++ [cp])) σ' (Grow G U)
  have : ptrV (Y.cps ++ [cp]) = ptrV Y.cps ++ [.pointer (some ⟨cp, 0, none⟩)] := by simp [ptrV]
  rw [this]; exact hr
theorem Wdx (hlen : A.tra.length <= Y.tps.length) (tp : Nat) (s' : Sl) : traT A { Y with trow := s', tps := Y.tps ++ [tp] } = traT A Y := by
 funext k
 unfold traT
 simp only
 rcases Nat.lt_or_ge k Y.tps.length with h1 | h1
 ·rw [List.getElem?_append_left h1]
 ·have : A.tra[k]? = none := List.getElem?_eq_none (by omega)
  rw [this]
  funext U F
  unfold TraR
  cases (Y.tps ++ [tp])[k]? <;> cases Y.tps[k]? <;> cases A.tb[k]? <;> rfl
theorem GB {cs : List Value} (h : Sep (ACh A Y (traT A Y) cs) U F) (hlen : A.tra.length <= Y.tps.length) (hl : Y.tps.length <= 40) {vb tp ty : Nat} (hb : Blk U vb [.pointer (some ⟨tp, 0, none⟩)]) (hvb : ¬ F vb) {K : Sl -> Hp -> Prop}
 (hK : ∀ s' σ', Ext F U σ' -> Sep (ACh A { Y with trow := s', tps := Y.tps ++ [tp] } (traT A { Y with trow := s', tps := Y.tps ++ [tp] }) cs) σ' (Grow F U) -> K s' σ') : App Y.trow 1 8 ty [.pointer none] ⟨some ⟨vb, 0, none⟩, 1, 1⟩ U K := by
 have hT : ∀ k, Lcl (traT A Y k) := fun k => traT.loc k
 obtain ⟨G, hG, hi, _, hput⟩ := h.stepD (ACh.loc hT) .trow
 have hi : RowR Y.trow 1 (ptrV Y.tps) U G := hi
 have hlc : Y.trow.len = Y.tps.length := by have := hi.1; simp [ptrV] at this; omega
 refine hi.app (ys := [.pointer (some ⟨tp, 0, none⟩)]) rfl rfl ?_ (by simp [one1]) (by simp only; omega) (by simp only; omega) Nat.zero_lt_one fun s' σ' hl' e hr => hK s' σ' (e.sub hG) ?_
 ·intro j u hu
  rw [add_lit, Nat.zero_add, hb.cell]; exact hu
 rw [Wdx hlen]
 refine (Sep.loc (ACh.loc hT)).mono (hput σ' (ACh A { Y with trow := s', tps := Y.tps ++ [tp] } (traT A Y) cs) (Grow G U) (fun j hj => ?_) e (fun b hb => hb) ?_ (ACh.loc hT _)) fun b _ hb => Q8 hG (fun b hb => hb) b hb
 ·cases j <;> first | rfl | exact absurd rfl hj
 ·show RowR s' 1 (ptrV (Y.tps ++ [tp])) σ' (Grow G U)
  have : ptrV (Y.tps ++ [tp]) = ptrV Y.tps ++ [.pointer (some ⟨tp, 0, none⟩)] := by simp [ptrV]
  rw [this]; exact hr
theorem Wiv {cs : List Value} (hT : ∀ k, Lcl (T k)) (h : Sep (ACh A Y T cs) U F) {i : Nat} {v : Value} (hi : i < cs.length) {K : Hp -> Prop} (hK : ∀ σ', Ext F U σ' -> Sep (ACh A Y T (cs.set i v)) σ' F -> K σ') : St1 (Addr.add ⟨Y.p, 0, none⟩ i) v U K := by
 obtain ⟨G, hG, hp, _, hput⟩ := h.stepD (ACh.loc hT) .hd
 have hp : BlkR Y.p cs U G := hp
 refine hp.2.s1 (by omega) fun σ' o b => hK σ' (o.ext.sub fun b hb => by subst hb; exact hG _ hp.1) ?_
 rw [Nat.zero_add] at b
 refine (Sep.loc (ACh.loc hT)).mono (hput σ' (ACh A Y T (cs.set i v)) G (fun j hj => ?_) (o.ext.sub fun b hb => by subst hb; exact hp.1) (fun b hb => .inl hb) ⟨hp.1, b⟩ (ACh.loc hT _)) fun b _ hb => Q6 hG (fun b hb => hb) b hb
 cases j <;> first | rfl | exact absurd rfl hj
theorem hdCh {cs : List Value} (h : Sep (ACh A Y T cs) U F) : Blk U Y.p cs /\ F Y.p := by
 obtain ⟨G, hG, hp, hb⟩ := h.get .hd
 exact ⟨hb, hG _ hp⟩
theorem WhY {cs : List Value} {i cp tp : Nat} {c : Cls} {ss : List SpA} {t : TrA} {ps : List (Nat × Nat)} {Gc Gt : Rg} (h : Sep (ACh A Y (traT A Y) cs) U F) (hlc : A.cen.length = i) (hlt : A.tra.length = i) (hcp : Y.cps[i]? = some cp) (htp : Y.tps[i]? = some tp) (hc : A.tb[i]? = some c)
 (hC : CeH U Gc cp c ps ss) (hTf : TfH U Gt tp c.batch A.room t) (d1 : ∀ b, Gc b -> ¬ F b) (d2 : ∀ b, Gt b -> ¬ F b) (d3 : ∀ b, Gc b -> ¬ Gt b) :
 Sep (ACh { A with cen := A.cen ++ [ss], tra := A.tra ++ [t] } Y (traT { A with cen := A.cen ++ [ss], tra := A.tra ++ [t] } Y) cs) U fun b => (F b ∨ Gc b) ∨ Gt b := by
 have hT : ∀ k, Lcl (traT A Y k) := fun k => traT.loc k
 have h1 : Sep (ACh { A with cen := A.cen ++ [ss] } Y (traT A Y) cs) U fun b => F b ∨ Gc b := by
  refine h.put (ACh.loc hT) (.cen i) d1 (fun j hj => ?_) ?_ (ACh.loc hT _)
  ·cases j <;> first | rfl | skip
   rename_i k
   have hne : k ≠ i := fun e => hj (by rw [e])
   show CenR Y.cps[k]? A.tb[k]? (A.cen ++ [ss])[k]? = CenR Y.cps[k]? A.tb[k]? A.cen[k]?
   rcases Nat.lt_or_ge k i with h2 | h2
   ·rw [List.getElem?_append_left (by omega)]
   ·have h3 : (A.cen ++ [ss])[k]? = none := List.getElem?_eq_none (by rw [List.length_append, List.length_singleton]; omega)
    have h4 : A.cen[k]? = none := List.getElem?_eq_none (by omega)
    rw [h3, h4]
  ·show CenR Y.cps[i]? A.tb[i]? (A.cen ++ [ss])[i]? U Gc
   rw [hcp, hc, List.getElem?_append_right (by omega), hlc, Nat.sub_self]
   exact ⟨ps, hC⟩
 refine h1.put (ACh.loc hT) (.tra i) (fun b hb hf => ?_) (fun j hj => ?_) ?_ (ACh.loc (fun k => traT.loc k) _)
 ·rcases hf with hf | hf
  ·exact d2 b hb hf
  ·exact d3 b hf hb
 ·cases j <;> first | rfl | skip
  rename_i k
  have hne : k ≠ i := fun e => hj (by rw [e])
  show TraR Y.tps[k]? A.tb[k]? A.room (A.tra ++ [t])[k]? = TraR Y.tps[k]? A.tb[k]? A.room A.tra[k]?
  rcases Nat.lt_or_ge k i with h2 | h2
  ·rw [List.getElem?_append_left (by omega)]
  ·have h3 : (A.tra ++ [t])[k]? = none := List.getElem?_eq_none (by rw [List.length_append, List.length_singleton]; omega)
   have h4 : A.tra[k]? = none := List.getElem?_eq_none (by omega)
   rw [h3, h4]
 ·show TraR Y.tps[i]? A.tb[i]? A.room (A.tra ++ [t])[i]? U Gt
  rw [htp, hc, List.getElem?_append_right (by omega), hlt, Nat.sub_self]
  exact hTf
end Go.Ar