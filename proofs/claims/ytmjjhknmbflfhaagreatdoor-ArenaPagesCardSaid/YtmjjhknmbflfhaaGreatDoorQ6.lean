/- Texts joined. -/
import Derived.Test.YtmjjhknmbflfhaaGreatDoorRows
import Derived.ChangeVars
import Derived.JoinedOf
import Derived.RowKit
import Derived.WalkKit
import Derived.ProofKit
import Derived.OpenShut
import Derived.ChangeOld
import Derived.Carry
import Derived.Test.YtmjjhknmbflfhaaGreatDoorQ5
set_option linter.unusedVariables false
set_option linter.unusedSimpArgs false
namespace Go.Ar
open Go.Bu (cnt)


variable {W : Wd} {k : Nat} {A : AR}
def sumF (f : Pc -> Bool) (l : List Pc) : Nat := ((l.filter f).map (·.size)).sum
theorem sumF_snoc (f : Pc -> Bool) (l : List Pc) (p : Pc) : sumF f (l ++ [p]) = sumF f l + if f p then p.size else 0 := by
 unfold sumF
 rw [List.filter_append, List.map_append, List.sum_append]
 cases h : f p <;> simp [h]
def isRun (k : Nat) (p : Pc) : Bool := p.k == k && decide (p.cls < 0)
def isAway (k : Nat) (p : Pc) : Bool := p.k == k && (!decide (p.cls < 0) && p.moved)
def isOut (k : Nat) (p : Pc) : Bool := p.k == k && (!decide (p.cls < 0) && !p.moved)
theorem sum_one (m j : Nat) (x : Nat) (hj : j < m) : ((List.range m).map fun i => if i = j then x else 0).sum = x := by
 induction m with
 | zero => omega
 | succ m ih =>
  rw [List.range_succ, List.map_append, List.sum_append, List.map_singleton, List.sum_singleton]
  by_cases h : j = m
  ·subst h
   have : ((List.range j).map fun i => if i = j then x else 0).sum = 0 := by
    rw [List.sum_eq_zero_iff_forall_eq_nat]
    intro y hy
    obtain ⟨i, hi, rfl⟩ := List.mem_map.1 hy
    rw [if_neg (by have := List.mem_range.1 hi; omega)]
   rw [this, if_pos rfl]; omega
  ·rw [ih (by omega), if_neg (by omega), Nat.add_zero]
theorem sum_add {α : Type} (l : List α) (f g : α -> Nat) : (l.map fun i => f i + g i).sum = (l.map f).sum + (l.map g).sum := by
 induction l with
 | nil => rfl
 | cons x l ih => simp only [List.map_cons, List.sum_cons, ih]; omega
theorem sumF_parts (m : Nat) (f : Pc -> Bool) : ∀ (l : List Pc), (∀ p ∈ l, f p = true -> ∃ j : Nat, j < m /\ p.cls = j) -> sumF f l = ((List.range m).map fun (j : Nat) => sumF (fun p => f p && p.cls == (j : Int)) l).sum
 | [], _ => by
  symm
  show _ = (0 : Nat)
  rw [List.sum_eq_zero_iff_forall_eq_nat]
  intro y hy
  obtain ⟨i, _, rfl⟩ := List.mem_map.1 hy
  rfl
 | p :: l, h => by
  have ih := sumF_parts m f l fun q hq => h q (by simp [hq])
  have hc : ∀ g : Pc -> Bool, sumF g (p :: l) = (if g p then p.size else 0) + sumF g l := fun g => by
   unfold sumF
   rw [List.filter_cons]
   split <;> simp
  rw [hc, ih]
  have e : ((List.range m).map fun (j : Nat) => sumF (fun q => f q && q.cls == (j : Int)) (p :: l)) = (List.range m).map fun (j : Nat) => (if f p && p.cls == (j : Int) then p.size else 0) + sumF (fun q => f q && q.cls == (j : Int)) l := by
   apply List.map_congr_left
   intro j _
   rw [hc]
  rw [e, sum_add]
  congr 1
  by_cases hf : f p = true
  ·obtain ⟨j, hj, hjc⟩ := h p (by simp) hf
   rw [if_pos hf]
   have e2 : ((List.range m).map fun (i : Nat) => if f p && p.cls == (i : Int) then p.size else 0) = (List.range m).map fun i => if i = j then p.size else 0 := by
    apply List.map_congr_left
    intro i _
    rw [hf, hjc, Bool.true_and]
    by_cases hij : i = j
    ·rw [if_pos hij, if_pos (by simp [hij])]
    ·rw [if_neg hij, if_neg (by simp; omega)]
   rw [e2, sum_one m j _ hj]
  ·rw [if_neg hf]
   symm
   rw [List.sum_eq_zero_iff_forall_eq_nat]
   intro y hy
   obtain ⟨i, _, rfl⟩ := List.mem_map.1 hy
   rw [if_neg (by simp [hf])]
theorem sum_const {l : List Pc} {f : Pc -> Bool} {c : Nat} (h : ∀ p ∈ l, f p = true -> p.size = c) : sumF f l = (l.filter f).length * c := by
 unfold sumF
 have : ∀ q ∈ l.filter f, q.size = c := fun q hq => h q (List.mem_filter.1 hq).1 (List.mem_filter.1 hq).2
 generalize l.filter f = m at this
 induction m with
 | nil => simp
 | cons x m ih =>
  simp only [List.map_cons, List.sum_cons, List.length_cons]
  rw [this x (by simp), ih fun q hq => this q (by simp [hq]), Nat.add_mul]; omega
theorem sum_mul {α : Type} (l : List α) (f : α -> Nat) (c : Nat) : (l.map f).sum * c = (l.map fun j => f j * c).sum := by
 induction l with
 | nil => simp
 | cons x l ih => simp only [List.map_cons, List.sum_cons, Nat.add_mul, ih]
theorem sumF_cons (f : Pc -> Bool) (p : Pc) (l : List Pc) : sumF f (p :: l) = (if f p then p.size else 0) + sumF f l := by
 unfold sumF
 rw [List.filter_cons]
 split <;> simp
theorem sumF_add {f g h : Pc -> Bool} : ∀ (l : List Pc), (∀ p ∈ l, (if f p then p.size else 0) + (if g p then p.size else 0) = if h p then p.size else 0) -> sumF f l + sumF g l = sumF h l
 | [], _ => rfl
 | p :: l, e => by
  have h1 := e p (by simp)
  have h2 := sumF_add l fun q hq => e q (by simp [hq])
  rw [sumF_cons, sumF_cons, sumF_cons]; omega
def at2 {α : Type} (f : Cls -> α -> Nat) (tb : List Cls) (l : List α) (j : Nat) : Nat := match tb[j]?, l[j]? with
 | some c, some a => f c a
 | _, _ => 0
theorem at2_eq {α : Type} {f : Cls -> α -> Nat} {tb : List Cls} {l : List α} {j : Nat} {c : Cls} {a : α} (h1 : tb[j]? = some c) (h2 : l[j]? = some a) : at2 f tb l j = f c a := by unfold at2; rw [h1, h2]
theorem zip_sum {α : Type} (f : Cls -> α -> Nat) : ∀ (tb : List Cls) (l : List α), l.length = tb.length -> ((tb.zip l).map fun x => f x.1 x.2).sum = ((List.range tb.length).map (at2 f tb l)).sum
 | [], l, h => by simp
 | c :: tb, [], h => by simp at h
 | c :: tb, a :: l, h => by
  have ih := zip_sum f tb l (by simpa using h)
  rw [List.zip_cons_cons, List.map_cons, List.sum_cons, ih, List.length_cons, List.range_succ_eq_map, List.map_cons, List.sum_cons, List.map_map]
  rfl
theorem addrs_nodup (h : WI W) {f : Pc -> Bool} {cl : Int} (hf : ∀ p, f p = true -> p.k = k /\ p.cls = cl) : ((W.held.filter f).map (·.addr)).Nodup := by
 have hk := List.pairwise_map.1 h.hk
 refine List.pairwise_map.2 ((hk.filter f).imp_of_mem fun {a b} ha hb hab e => hab ?_)
 have h1 := hf a (List.mem_filter.1 ha).2
 have h2 := hf b (List.mem_filter.1 hb).2
 unfold Pc.key; rw [h1.1, h1.2, h2.1, h2.2, e]
theorem held_cls (h : WI W) (hk : W.ars[k]? = some A) {j : Nat} {c : Cls} {ss : List SpA} (hc : Cl A j c ss) : ((W.held.filter fun p => p.k == k && p.cls == (j : Int)).map (·.addr)).Perm (tkL c ss) := by
 have hC := (h.ga k A hk).cen j c ss hc
 rw [List.perm_ext_iff_of_nodup (addrs_nodup h (k := k) (cl := (j : Int)) fun p hp => by simpa using hp) (tkL_nodup hC)]
 intro x
 rw [mem_tkL hC, ← TkA_cl hc]
 constructor
 ·intro hx
  obtain ⟨p, hp, rfl⟩ := List.mem_map.1 hx
  have hp' := List.mem_filter.1 hp
  have e : p.k = k /\ p.cls = (j : Int) := by simpa using hp'.2
  obtain ⟨_, _, _, ht, _⟩ := h.cls hp'.1 e.2 (by rw [e.1]; exact hk)
  exact ht
 ·intro hx
  obtain ⟨p, hp, e1, e2, e3⟩ := h.ht k A hk j (x : Int) hx
  exact List.mem_map.2 ⟨p, List.mem_filter.2 ⟨hp, by simp [e1, e2]⟩, Int.ofNat.inj e3⟩
theorem held_away (h : WI W) (hk : W.ars[k]? = some A) {j : Nat} {t : TrA} (ht : A.tra[j]? = some t) : (W.held.filter fun p => isAway k p && p.cls == (j : Int)).length = t.bs.flatten.length := by
 have ga := h.ga k A hk
 have hjl : j < A.tb.length := by rw [← ga.lt]; exact (List.getElem?_eq_some_iff.1 ht).1
 obtain ⟨c, ss, _, hc, _⟩ := ga.cl hjl
 have hC := ga.cen j c ss hc
 have hn := ga.trn j t ht
 have hnat : ∀ x ∈ t.bs.flatten, ∃ y : Nat, x = y := fun x hx => Tk.nat hC (ga.trt j c ss t hc ht x hx)
 have hf : ∀ p : Pc, (isAway k p && p.cls == (j : Int)) = true -> p.k = k /\ p.cls = (j : Int) := fun p hp => by
  simp [isAway] at hp; exact ⟨hp.1.1, hp.2⟩
 have hp : ((W.held.filter fun p => isAway k p && p.cls == (j : Int)).map fun p => (p.addr : Int)).Perm t.bs.flatten := by
  have h1 : ((W.held.filter fun p => isAway k p && p.cls == (j : Int)).map fun p => (p.addr : Int)).Nodup := by
   have := addrs_nodup h (k := k) (cl := (j : Int)) hf
   exact List.pairwise_map.2 ((List.pairwise_map.1 this).imp fun {a b} hab e => hab (Int.ofNat.inj e))
  rw [List.perm_ext_iff_of_nodup h1 hn]
  intro x
  constructor
  ·intro hx
   obtain ⟨p, hp, rfl⟩ := List.mem_map.1 hx
   have hp' := List.mem_filter.1 hp
   have e := hf p hp'.2
   have hm : p.moved = true := by have := hp'.2; simp [isAway] at this; exact this.1.2.2
   obtain ⟨_, _, _, _, h5⟩ := h.cls hp'.1 e.2 (by rw [e.1]; exact hk)
   exact (InT_get ht).1 (h5.1 hm)
  ·intro hx
   obtain ⟨p, hp, e1, e2, e3⟩ := h.ht k A hk j x ((TkA_cl hc).2 (ga.trt j c ss t hc ht x hx))
   obtain ⟨_, _, _, _, h5⟩ := h.cls hp e2 (by rw [e1]; exact hk)
   have hm : p.moved = true := h5.2 (by rw [e3]; exact (InT_get ht).2 hx)
   refine List.mem_map.2 ⟨p, List.mem_filter.2 ⟨hp, ?_⟩, e3⟩
   simp [isAway, e1, e2, hm]
 have := hp.length_eq
 simpa using this
theorem size_of (h : WI W) (hk : W.ars[k]? = some A) {j : Nat} {c : Cls} (hc : A.tb[j]? = some c) {p : Pc} (hp : p ∈ W.held) (e : p.k = k /\ p.cls = (j : Int)) : p.size = c.size := by
 obtain ⟨c', h1, h2, _⟩ := h.cls hp e.2 (by rw [e.1]; exact hk)
 rw [h1] at hc; cases hc; exact h2
theorem cls_bound (h : WI W) (hk : W.ars[k]? = some A) {p : Pc} (hp : p ∈ W.held) (e : p.k = k) (hn : ¬ p.cls < 0) : ∃ j : Nat, j < A.tb.length /\ p.cls = j := by
 rcases h.hd hk hp e with ⟨h1, _⟩ | ⟨j, c, h1, h2, _⟩
 ·omega
 ·exact ⟨j, (List.getElem?_eq_some_iff.1 h2).1, h1⟩
theorem law_moved (h : WI W) (hk : W.ars[k]? = some A) : cMoved A = sumF (isAway k) W.held := by
 have ga := h.ga k A hk
 rw [sumF_parts A.tb.length (isAway k) W.held fun p hp hf => cls_bound h hk hp (by simp [isAway] at hf; exact hf.1) (by simp [isAway] at hf; omega)]
 unfold cMoved
 rw [zip_sum (fun c t => t.bs.flatten.length * c.size) A.tb A.tra ga.lt]
 congr 1
 apply List.map_congr_left
 intro j hj
 obtain ⟨c, ss, t, hc, ht⟩ := ga.cl (List.mem_range.1 hj)
 rw [at2_eq hc.1 ht, sum_const (c := c.size) fun p hp hf => size_of h hk hc.1 hp (by simp [isAway] at hf; exact ⟨hf.1.1, hf.2⟩), held_away h hk ht]
theorem law_run (h : WI W) (hk : W.ars[k]? = some A) : cRuns A * 256 = sumF (isRun k) W.held := by
 have ga := h.ga k A hk
 have hf : ∀ p ∈ W.held, isRun k p = true -> p.k = k /\ p.cls = -1 := fun p hp hx => by
  simp [isRun] at hx
  refine ⟨hx.1, ?_⟩
  rcases h.hd hk hp hx.1 with ⟨h1, _⟩ | ⟨j, c, h1, _⟩
  ·exact h1
  ·omega
 have hp : ((W.held.filter (isRun k)).map fun p => (p.addr, p.size)).Perm (A.runs.map fun r => (r.1 * 256, r.2 * 256)) := by
  have h1 : ((W.held.filter (isRun k)).map fun p => (p.addr, p.size)).Nodup := by
   have hk' := List.pairwise_map.1 h.hk
   refine List.pairwise_map.2 ((hk'.filter _).imp_of_mem fun {a b} ha hb hab e => hab ?_)
   have ha' := List.mem_filter.1 ha; have hb' := List.mem_filter.1 hb
   have q1 := hf a ha'.1 ha'.2; have q2 := hf b hb'.1 hb'.2
   have e1 : a.addr = b.addr := congrArg Prod.fst e
   unfold Pc.key; rw [q1.1, q1.2, q2.1, q2.2, e1]
  have h2 : (A.runs.map fun r => (r.1 * 256, r.2 * 256)).Nodup := by
   refine List.pairwise_map.2 (ga.rdis.imp_of_mem fun {a b} ha hb hab e => ?_)
   have := ga.rpos a ha; have := ga.rpos b hb
   have e1 : a.1 * 256 = b.1 * 256 := congrArg Prod.fst e
   omega
  rw [List.perm_ext_iff_of_nodup h1 h2]
  rintro ⟨x, y⟩
  constructor
  ·intro hx
   obtain ⟨p, hp, he⟩ := List.mem_map.1 hx
   have hp' := List.mem_filter.1 hp
   have q := hf p hp'.1 hp'.2
   obtain ⟨_, r, hr, e1, e2⟩ := h.run hp'.1 q.2 (A := A) (by rw [q.1]; exact hk)
   exact List.mem_map.2 ⟨r, hr, by rw [← e1, ← e2]; exact he⟩
  ·intro hx
   obtain ⟨r, hr, he⟩ := List.mem_map.1 hx
   obtain ⟨p, hp, e1, e2, e3⟩ := h.hr k A hk r hr
   refine List.mem_map.2 ⟨p, List.mem_filter.2 ⟨hp, by simp [isRun, e1, e2]⟩, ?_⟩
   obtain ⟨_, r', hr', q1, q2⟩ := h.run hp e2 (A := A) (by rw [e1]; exact hk)
   have := ga.rpos r hr; have := ga.rpos r' hr'
   have : r' = r := ga.runs_uniq hr' hr (x := r.1) (by omega) (by omega) (by omega) (by omega)
   rw [← he, q1, q2, this]
 have hs := (hp.map Prod.snd).sum_nat
 unfold sumF
 rw [List.map_map] at hs
 have e1 : ((W.held.filter (isRun k)).map (Prod.snd ∘ fun p => (p.addr, p.size))) = (W.held.filter (isRun k)).map (·.size) := rfl
 rw [e1] at hs
 rw [hs, List.map_map]
 unfold cRuns
 rw [sum_mul]; rfl
theorem law_bytes (h : WI W) (hk : W.ars[k]? = some A) : cSpans A * 256 = sumF (isOut k) W.held + sumF (isAway k) W.held + cRoom A + cTails A := by
 have ga := h.ga k A hk
 have e1 : sumF (isOut k) W.held + sumF (isAway k) W.held = sumF (fun p => p.k == k && !decide (p.cls < 0)) W.held := by
  refine sumF_add W.held fun p _ => ?_
  unfold isOut isAway
  cases (p.k == k) <;> cases decide (p.cls < 0) <;> cases p.moved <;> simp
 rw [e1, sumF_parts A.tb.length (fun p => p.k == k && !decide (p.cls < 0)) W.held fun p hp hf => cls_bound h hk hp (by simp at hf; exact hf.1) (by simp at hf; omega)]
 unfold cSpans cRoom cTails
 rw [zip_sum (fun c ss => roomC ss * c.size) A.tb A.cen ga.lc, zip_sum (fun c ss => ss.length * c.tail) A.tb A.cen ga.lc, zip_sum (fun c ss => ss.length * c.pages) A.tb A.cen ga.lc]
 rw [← sum_add, ← sum_add]
 have key : ∀ j ∈ List.range A.tb.length, at2 (fun c ss => ss.length * c.pages) A.tb A.cen j * 256 = sumF (fun p => (p.k == k && !decide (p.cls < 0)) && p.cls == (j : Int)) W.held + at2 (fun c ss => roomC ss * c.size) A.tb A.cen j + at2 (fun c ss => ss.length * c.tail) A.tb A.cen j := by
  intro j hj
  obtain ⟨c, ss, t, hc, ht⟩ := ga.cl (List.mem_range.1 hj)
  have hC := ga.cen j c ss hc
  rw [at2_eq hc.1 hc.2, at2_eq hc.1 hc.2, at2_eq hc.1 hc.2]
  have e2 : sumF (fun p => (p.k == k && !decide (p.cls < 0)) && p.cls == (j : Int)) W.held = (tkL c ss).length * c.size := by
   have e3 : W.held.filter (fun p => (p.k == k && !decide (p.cls < 0)) && p.cls == (j : Int)) = W.held.filter fun p => p.k == k && p.cls == (j : Int) := by
    apply List.filter_congr
    intro p _
    by_cases hpc : p.cls = (j : Int)
    ·rw [hpc]
     have : decide ((j : Int) < 0) = false := decide_eq_false (by omega)
     rw [this]; simp
    ·have : (p.cls == (j : Int)) = false := by simpa using hpc
     rw [this]; simp
   rw [sum_const (c := c.size) fun p hp hf => size_of h hk hc.1 hp (by simp at hf; exact ⟨hf.1.1, hf.2⟩), e3]
   have := (held_cls h hk hc).length_eq
   rw [List.length_map] at this
   rw [this]
  rw [e2, Nat.mul_assoc]
  have h1 := room_taken hC
  have h2 := Cls.n_mul c
  have h3 : c.pages * 256 = c.n * c.size + c.tail := by unfold Cls.tail; omega
  rw [h3, Nat.mul_add, ← Nat.mul_assoc, ← h1, Nat.add_mul]; omega
 rw [sum_mul]
 congr 1
 exact List.map_congr_left key
def pgL (c : Cls) (ss : List SpA) : List Nat := ss.flatMap fun s => (List.range c.pages).map (s.st + ·)
theorem pgL_len (c : Cls) (ss : List SpA) : (pgL c ss).length = ss.length * c.pages := by
 induction ss with
 | nil => simp [pgL]
 | cons s ss ih =>
  have e : pgL c (s :: ss) = (List.range c.pages).map (s.st + ·) ++ pgL c ss := rfl
  rw [e, List.length_append, ih]; simp [Nat.add_mul]; omega
theorem mem_pgL {c : Cls} {ss : List SpA} {p : Nat} : p ∈ pgL c ss ↔ Cov c ss p := by
 simp only [pgL, List.mem_flatMap, List.mem_map, List.mem_range, Cov]
 constructor
 ·rintro ⟨s, hs, i, hi, rfl⟩; exact ⟨s, hs, by omega, by omega⟩
 ·rintro ⟨s, hs, h1, h2⟩; exact ⟨s, hs, p - s.st, by omega, by omega⟩
theorem pgL_nodup {c : Cls} {ss : List SpA} (h : ss.Pairwise fun a b => a.st + c.pages <= b.st) : (pgL c ss).Nodup := by
 induction ss with
 | nil => exact List.nodup_nil
 | cons s ss ih =>
  have hp := List.pairwise_cons.1 h
  have e : pgL c (s :: ss) = (List.range c.pages).map (s.st + ·) ++ pgL c ss := rfl
  rw [e, List.nodup_append]
  refine ⟨?_, ih hp.2, fun a ha b hb e => ?_⟩
  ·exact List.Pairwise.map (R := (· ≠ ·)) _ (fun a b hab e => hab (by omega)) List.nodup_range
  ·subst e
   obtain ⟨i, hi, rfl⟩ := List.mem_map.1 ha
   obtain ⟨t, ht, h1, h2⟩ := mem_pgL.1 hb
   have := hp.1 t ht
   have := List.mem_range.1 hi
   omega
def rnL (l : List (Nat × Nat)) : List Nat := l.flatMap fun r => (List.range r.2).map (r.1 + ·)
theorem rnL_len (l : List (Nat × Nat)) : (rnL l).length = (l.map (·.2)).sum := by
 induction l with
 | nil => rfl
 | cons r l ih =>
  have e : rnL (r :: l) = (List.range r.2).map (r.1 + ·) ++ rnL l := rfl
  rw [e, List.length_append, ih]; simp
theorem mem_rnL {l : List (Nat × Nat)} {p : Nat} : p ∈ rnL l ↔ inR l p := by
 simp only [rnL, List.mem_flatMap, List.mem_map, List.mem_range, inR]
 constructor
 ·rintro ⟨s, hs, i, hi, rfl⟩; exact ⟨s, hs, by omega, by omega⟩
 ·rintro ⟨s, hs, h1, h2⟩; exact ⟨s, hs, p - s.1, by omega, by omega⟩
theorem rnL_nodup {l : List (Nat × Nat)} (h : l.Pairwise fun a b => a.1 + a.2 <= b.1 ∨ b.1 + b.2 <= a.1) : (rnL l).Nodup := by
 induction l with
 | nil => exact List.nodup_nil
 | cons s ss ih =>
  have hp := List.pairwise_cons.1 h
  have e : rnL (s :: ss) = (List.range s.2).map (s.1 + ·) ++ rnL ss := rfl
  rw [e, List.nodup_append]
  refine ⟨?_, ih hp.2, fun a ha b hb e => ?_⟩
  ·exact List.Pairwise.map (R := (· ≠ ·)) _ (fun a b hab e => hab (by omega)) List.nodup_range
  ·subst e
   obtain ⟨i, hi, rfl⟩ := List.mem_map.1 ha
   obtain ⟨t, ht, h1, h2⟩ := mem_rnL.1 hb
   have := hp.1 t ht
   have := List.mem_range.1 hi
   omega
theorem count_list {n : Nat} {l : List Nat} (hn : l.Nodup) (hl : ∀ x ∈ l, x < n) {f : Nat -> Bool} (hf : ∀ p, p < n -> (f p = true ↔ p ∈ l)) : (List.range n).countP f = l.length := by
 rw [List.countP_eq_length_filter]
 refine List.Perm.length_eq ?_
 rw [List.perm_ext_iff_of_nodup (List.nodup_range.filter _) hn]
 intro x
 rw [List.mem_filter, List.mem_range]
 exact ⟨fun ⟨a, b⟩ => (hf x a).1 b, fun hx => ⟨hl x hx, (hf x (hl x hx)).2 hx⟩⟩
theorem law_pages (ga : GA A) : cSpans A + cRuns A + cnt A.n A.S = (List.range A.n).countP fun (p : Nat) => ownsA A (p : Int) := by
 have key : ∀ m, m <= A.tb.length -> (List.range A.n).countP (fun p => A.ow p != 0 && decide (A.ow p <= m)) = ((List.range m).map (at2 (fun c ss => ss.length * c.pages) A.tb A.cen)).sum := by
  intro m
  induction m with
  | zero =>
   intro _
   simp
  | succ m ih =>
   intro hm
   rw [List.range_succ, List.map_append, List.sum_append, ← ih (by omega), List.map_singleton, List.sum_singleton]
   obtain ⟨c, ss, t, hc, _⟩ := ga.cl (k := m) (by omega)
   have hC := ga.cen m c ss hc
   rw [at2_eq hc.1 hc.2, ← pgL_len c ss, ← count_list (n := A.n) (pgL_nodup hC.far) (fun x hx => by
    obtain ⟨s, hs, h1, h2⟩ := mem_pgL.1 hx
    exact ga.pg.lt (by rw [(ga.used hc hs h1 h2).1]; omega)) (f := fun p => A.ow p == m + 1) (fun p _ => by rw [mem_pgL, ← ga.ow m c ss hc p]; simp)]
   symm
   apply Go.Bu.countP_add
   intro p _
   by_cases h1 : A.ow p = m + 1
   ·simp [h1]
   ·by_cases h2 : A.ow p <= m
    ·have : (A.ow p == m + 1) = false := by simpa using h1
     have h3 : decide (A.ow p <= m + 1) = true := by simp; omega
     simp [this, h2, h3]
    ·have : (A.ow p == m + 1) = false := by simpa using h1
     have h3 : ¬ A.ow p <= m + 1 := by omega
     simp [this, h2, h3]
 have k1 := key A.tb.length (Nat.le_refl _)
 have e1 : cSpans A = (List.range A.n).countP (fun p => A.ow p != 0 && decide (A.ow p <= A.tb.length)) := by
  rw [k1]; unfold cSpans
  rw [zip_sum (fun c ss => ss.length * c.pages) A.tb A.cen ga.lc]
 have e2 : cRuns A = (List.range A.n).countP (fun p => A.ow p == 41) := by
  unfold cRuns
  rw [← rnL_len, count_list (rnL_nodup ga.rdis) (fun x hx => by
   obtain ⟨r, hr, h1, h2⟩ := mem_rnL.1 hx
   exact ga.pg.lt (by rw [(ga.usedR hr h1 h2).1]; omega)) (f := fun p => A.ow p == 41) (fun p _ => by rw [mem_rnL, ← ga.ow41]; simp)]
 have htb := ga.tb
 have e3 : (List.range A.n).countP (fun p => A.ow p != 0 && decide (A.ow p <= A.tb.length)) + (List.range A.n).countP (fun p => A.ow p == 41) = (List.range A.n).countP (fun p => A.ow p != 0) := by
  apply Go.Bu.countP_add
  intro p _
  rcases ga.owb p with h1 | h1
  ·have : ¬ A.ow p <= A.tb.length := by omega
   simp [h1]; omega
  ·have : (A.ow p == 41) = false := by simp; omega
   simp [this, h1]
 have e4 : (List.range A.n).countP (fun p => A.ow p != 0) + (List.range A.n).countP A.S = (List.range A.n).countP fun (p : Nat) => ownsA A (p : Int) := by
  apply Go.Bu.countP_add
  intro p _
  have hu := ga.pg.us p
  have hs := ga.pg.fr p
  have ho : ownsA A (p : Int) = decide (A.f p ≠ 0) := by
   unfold ownsA AR.f gf
   rw [decide_eq_true (show (0 : Int) <= p by omega), Bool.true_and, Int.toNat_natCast]
  rw [ho]
  have hle := ga.pg.le p
  by_cases h0 : A.f p = 0
  ·have : A.ow p = 0 := Classical.byContradiction fun hn => by have := hu.2 hn; omega
   have hS : A.S p = false := by apply Bool.eq_false_iff.2; intro hx; have := hs.1 hx; omega
   simp [h0, this, hS]
  ·by_cases h1 : A.f p = 1
   ·have hw := hu.1 h1
    have hS : A.S p = false := by apply Bool.eq_false_iff.2; intro hx; have := hs.1 hx; omega
    simp [h1, hw, hS]
   ·have : A.ow p = 0 := Classical.byContradiction fun hn => h1 (hu.2 hn)
    have hS : A.S p = true := hs.2 (by omega)
    simp [h0, this, hS]
 unfold cnt
 rw [e1, e2, e3, e4]
theorem cRuns_le (ga : GA A) : cRuns A <= 1024 := by
 have h1 := law_pages ga
 have h2 : (List.range A.n).countP (fun (p : Nat) => ownsA A (p : Int)) <= A.n := by
  refine Nat.le_trans List.countP_le_length ?_
  rw [List.length_range]; exact Nat.le_refl _
 have := ga.pg.n2
 omega
end Go.Ar
namespace Go.Ar
open Go Go.Vc Go.Proofs
open Go.Bu (runOk giveS takeAt cnt)


variable {σ : Hp} {F : Rg} {L : LayW} {W : Wd} {k : Nat} {A : AR} {xs : List (Int × Int × Int)}
def theW (xs : List (Int × Int × Int)) (pages many room : Int) (us : List Act) : Wd := playW (newW (xs.map toCls) (nW pages) (roomW room) (someN many)) us
theorem acts_below {table : Sl} (ht : Acts σ table xs) : xs ≠ [] -> ∀ b o, table.a = some ⟨b, o, none⟩ -> b < σ.size := by
 intro hne b o ho
 cases xs with
 | nil => exact (hne rfl).elim
 | cons x l =>
  obtain ⟨b', o', h1, h2, _⟩ := ht.2 0 x.1 x.2.1 x.2.2 rfl
  rw [ho] at h1; cases h1; exact h2
theorem start_ok (g : Gl σ) (gd : Gd σ) {N : Nat} (hN : N <= σ.size) (hgl : Off fun b => N <= b) (hgd : ¬ N <= 2) {table : Sl} (ht : Acts σ table xs) (htN : xs ≠ [] -> ∀ b o, table.a = some ⟨b, o, none⟩ -> b < N) {pages many room : Int} (hp : 0 <= pages /\ pages <= 255) (hm : 0 <= many /\ many <= 255) (hr : 0 <= room /\ room <= 255)
 {l : Sl} {us : List Act} (hl : Acts6 σ N l us) (hgr : greatW us = false) {R : Bool -> Hp -> Prop} (hR : ∀ σ', Ext0 σ σ' -> R true σ') {K : Option Addr -> Hp -> Prop}
 (hK : validT xs = true -> ∀ σ' L, Ext (fun b => N <= b) σ σ' -> WOk σ' N L (theW xs pages many room us) table xs -> K (some ⟨L.w, 0, none⟩) σ') :
 freeholdlaw10_world.call table pages many room l σ fun t34 t341 v2 =>
  If (!t341) (freeholdref01_Valid.call table v2 fun t40 v3 =>
   JnB (fun r v4 =>
    R r v4) fun J =>
   If (!t40) (freeholdlaw10_alive.call v3 fun t43 v5 =>
    J t43 v5)
    (J false v3))
   (K t34 v2) := by
 obtain ⟨h40, hl40⟩ := greatW_no hgr
 refine world_ok g gd hN hgl hgd ht htN hp hm hr hl h40 hl40 (fun hv v2 e2 => ?_) fun hv v2 L e2 hw => ?_
 ·refine ifT rfl (RValid_ok (acts_keep0 ht e2) fun v3 e3 => JnB.intro ?_)
  have E := Ext.trans e2 e3
  rw [hv]
  exact ifT rfl (alive_ok (g.keep0 E) fun v5 e5 => hR v5 (Ext.trans E e5))
 ·exact ifF rfl (hK hv v2 L e2 hw)
theorem begin_ok (g : Gl σ) (gd : Gd σ) {table : Sl} (ht : Acts σ table xs) {pages many room : Int} (hp : 0 <= pages /\ pages <= 255) (hm : 0 <= many /\ many <= 255) (hr : 0 <= room /\ room <= 255)
 {l : Sl} {us : List Act} (hl : Acts6 σ σ.size l us) (hll : us.length <= 9223372036854775807) {R : Bool -> Hp -> Prop} (hR : ∀ σ', Ext0 σ σ' -> R true σ') {K : Option Addr -> Hp -> Prop}
 (hK : validT xs = true -> ∀ σ' L, Ext0 σ σ' -> WOk σ' σ.size L (theW xs pages many room us) table xs -> K (some ⟨L.w, 0, none⟩) σ') :
 freeholdlaw10_great.call l σ fun t26 v =>
  If t26 (freeholdlaw10_alive.call v fun t27 v1 =>
   R t27 v1)
   (freeholdlaw10_world.call table pages many room l v fun t34 t341 v2 =>
   If (!t341) (freeholdref01_Valid.call table v2 fun t40 v3 =>
    JnB (fun r v4 =>
     R r v4) fun J =>
    If (!t40) (freeholdlaw10_alive.call v3 fun t43 v5 =>
     J t43 v5)
     (J false v3))
    (K t34 v2)) := by
 refine great_ok hl hll (iff_ (fun hgr => alive_ok g hR) fun hgr => ?_)
 exact start_ok g gd (Nat.le_refl _) (gl_lt g) (by have := gd_lt gd; omega) ht (acts_below ht) hp hm hr hl hgr hR fun hv v2 L e2 hw => hK hv v2 L (e2.mono fun b hb hc => by omega) hw
theorem WOk.keep0 {N : Nat} {table : Sl} (h : WOk σ N L W table xs) {σ' : Hp} (e : Ext0 σ σ') : WOk σ' N L W table xs := ⟨h.d.keep0 e, h.t⟩
theorem pc_box {s : Sl} {l : List Pc} (h : SlR s 5 (pcV l) σ F) {i ty : Nat} {p : Pc} (hp : l[i]? = some p) {K : Addr -> Hp -> Prop} (hK : ∀ w, Ext0 σ w -> Blk w σ.size (pc1 p) -> K ⟨σ.size, 0, none⟩ w) :
 Ix s.a s.len (i : Int) 5 fun a => LdI .i64 (a.add 0) σ fun x0 => LdI .i64 (a.add 1) σ fun x1 => LdI .i64 (a.add 2) σ fun x2 => LdI .i64 (a.add 3) σ fun x3 => LdB (a.add 4) σ fun x4 =>
  Nw (.cells #[.int .i64 0, .int .i64 0, .int .i64 0, .int .i64 0, .bool false] ty (0, 0)) σ fun n4 v1 =>
  St1 (n4.add 0) (.int .i64 x0) v1 fun v2 =>
  St1 (n4.add 1) (.int .i64 x1) v2 fun v3 =>
  St1 (n4.add 2) (.int .i64 x2) v3 fun v4 =>
  St1 (n4.add 3) (.int .i64 x3) v4 fun v5 =>
  St1 (n4.add 4) (.bool x4) v5 fun v6 => K n4 v6 := by
 refine pc_rd5 h hp ?_
 refine nw (cs := [.int .i64 0, .int .i64 0, .int .i64 0, .int .i64 0, .bool false]) fun v1 z1 e1 b1 => ?_
 refine b1.s1 (o := 0) (i := 0) (by simp) fun v2 o2 b2 => b2.s1 (o := 0) (i := 1) (by simp) fun v3 o3 b3 => b3.s1 (o := 0) (i := 2) (by simp) fun v4 o4 b4 => b4.s1 (o := 0) (i := 3) (by simp) fun v5 o5 b5 => b5.s1 (o := 0) (i := 4) (by simp) fun v6 o6 b6 => ?_
 have e16 : Ext (· = σ.size) v1 v6 := (((o2.ext.trans o3.ext).trans o4.ext).trans o5.ext).trans o6.ext
 exact hK v6 (Ext.fresh e1 e16 fun b hb => by omega) b6
theorem pages_ok' (h : WH σ F L W) {R : Int -> Hp -> Prop} (hR : R (W.sp.st.length : Int) σ) : space_Space_Pages.call (some ⟨L.hs, 0, none⟩) σ R := Pages_ok h.sp hR
def ownedN (A : AR) (n : Nat) : Nat := (List.range n).countP fun (p : Nat) => ownsA A (p : Int)
theorem ownedN_le (A : AR) (n : Nat) : ownedN A n <= n := by
 unfold ownedN
 refine Nat.le_trans List.countP_le_length ?_
 rw [List.length_range]; exact Nat.le_refl _
theorem ownedN_succ (A : AR) (n : Nat) : ownedN A (n + 1) = ownedN A n + if ownsA A (n : Int) then 1 else 0 := by
 unfold ownedN
 rw [List.range_succ, List.countP_append]
 cases h : ownsA A (n : Int) <;> simp [h]
theorem owned_ok (h : WH σ F L W) (hn : W.sp.st.length <= 1000) (hk : W.ars[k]? = some A) {R : Int -> Hp -> Prop} (hR : R ((ownedN A W.sp.st.length : Nat) : Int) σ) : freeholdlaw10_World_owned.call (some ⟨L.w, 0, none⟩) (k : Int) σ R := by
 refine freeholdlaw10_World_owned.of_vc ?_
 unfold freeholdlaw10_World_owned.vc
 obtain ⟨Y, hy, hYh, hA⟩ := h.ar hk
 refine loop2 (a := .i .i64) (bb := .i .i64) (fun (n : Int) (t : Int) v => ∃ i : Nat, t = (i : Int) /\ i <= W.sp.st.length /\ v = σ /\ n = ((ownedN A i : Nat) : Int)) (fun _ t _ => W.sp.st.length - t.toNat) ⟨0, rfl, by omega, rfl, rfl⟩ ?_
 rintro n t v ⟨i, rfl, hi, rfl, rfl⟩
 refine nilP (h.hd.rP rfl (pages_ok' h (ifD (fun hlt => ?_) fun hge => ?_)))
 ·refine nilP (h.hd.rS rfl (h.rA hy (Owns_ok hA _ ?_)))
  have hle := ownedN_le A i
  have hs := ownedN_succ A i
  refine iff_ (fun ho => ?_) fun ho => ?_
  ·rw [if_pos ho] at hs
   exact arN (m := ownedN A i + 1) (by omega) (by omega) (arN (m := i + 1) (by omega) (by omega) ⟨⟨i + 1, rfl, by omega, rfl, by rw [hs]⟩, by omega⟩)
  ·rw [if_neg (by simp [ho])] at hs
   exact arN (m := i + 1) (by omega) (by omega) ⟨⟨i + 1, rfl, by omega, rfl, by rw [hs]; rfl⟩, by omega⟩
 ·have hii : i = W.sp.st.length := by omega
  subst hii
  exact hR
end Go.Ar
namespace Go.Proofs
open Go.Vc

set_option maxRecDepth 100000
def freeholdlaw10_ArenaPages.hint : Hn := .seq (.o 1) (.seq (.seq (.o 2) (.cond (.seq (.o 2) (.leaf)) (.leaf))) (.seq (.o 11) (.seq (.seq (.o 2) (.cond (.seq (.reg (.seq [.op, .op, .op, .op, .grd true 1 [.op], .op])) (.leaf)) (.leaf))) (.seq (.seq (.o 1) (.block (.loop [(13, .one (.i .i64))] (.seq (.seq (.o 7) (.cond (.leaf) (.leaf))) (.seq (.block (.seq (.o 21) (.seq (.o 3) (.seq (.seq (.o 1) (.block (.loop [(20, .one (.i .i64)), (21, .one (.i .i64)), (22, .one (.i .i64)), (23, .one (.i .i64))] (.seq (.seq (.o 7) (.cond (.leaf) (.leaf))) (.seq (.block (.seq (.o 9) (.seq (.seq (.o 4) (.cond (.leaf) (.leaf))) (.seq (.o 3) (.cond (.o 5) (.seq (.o 2) (.cond (.o 5) (.o 5)))))))) (.o 3)))))) (.seq (.reg (.seq [.op, .op, .op, .op, .op, .op, .op, .op, .op, .op, .grd false 3 [.op, .op, .op], .op, .grd false 4 [.op, .op, .op, .op], .op, .grd false 10 [.op, .op, .op, .op, .op, .op, .op, .op, .op, .op]])) (.cond (.seq (.o 1) (.leaf)) (.leaf))))))) (.o 3)))))) (.seq (.o 2) (.leaf))))))
def freeholdlaw10_ArenaPages.vc (table : Sl) (pages : Int) (many : Int) (room : Int) (l : Sl) (σ : Hp) (R : Bool -> Hp -> Prop) : Prop :=
 freeholdlaw10_great.call l σ fun t26 v =>
 If t26 (freeholdlaw10_alive.call v fun t27 v1 =>
 R t27 v1)
 (freeholdlaw10_world.call table pages many room l v fun t34 t341 v2 =>
 If (!t341) (freeholdref01_Valid.call table v2 fun t40 v3 =>
 JnB (fun r v4 =>
 R r v4) fun J =>
 If (!t40) (freeholdlaw10_alive.call v3 fun t43 v5 =>
 J t43 v5)
 (J false v3))
 (LoopK [(.i .i64)] (fun I => I 0 v2) fun J1 (k : Int) v6 =>
 NilP t34 fun a47 =>
 LdS (a47.add 1) v6 fun t49 =>
 If (decide (k < ((t49.len : Nat) : Int))) (NilP t34 fun a56 =>
 LdS (a56.add 1) v6 fun t58 =>
 Ix t58.a t58.len k 1 fun a60 =>
 LdP a60 v6 fun t61 =>
 arena_Arena_Counts.call t61 v6 fun t62 t621 t622 t623 t624 t625 v7 =>
 LoopK [(.i .i64), (.i .i64), (.i .i64), (.i .i64)] (fun I1 => I1 0 0 0 0 v7) fun J2 (out : Int) (away : Int) (runs : Int) (i : Int) v8 =>
 NilP t34 fun a71 =>
 LdS (a71.add 3) v8 fun t73 =>
 If (decide (i < ((t73.len : Nat) : Int))) (NilP t34 fun a79 =>
 LdS (a79.add 3) v8 fun t81 =>
 Ix t81.a t81.len i 5 fun a83 =>
 LdI .i64 (a83.add 0) v8 fun t84 =>
 LdI .i64 (a83.add 1) v8 fun t841 =>
 LdI .i64 (a83.add 2) v8 fun t842 =>
 LdI .i64 (a83.add 3) v8 fun t843 =>
 LdB (a83.add 4) v8 fun t844 =>
 Nw (.cells #[.int .i64 0, .int .i64 0, .int .i64 0, .int .i64 0, .bool false] 39 (0, 0)) v8 fun n24 v9 =>
 St1 (n24.add 0) (.int .i64 t84) v9 fun v10 =>
 St1 (n24.add 1) (.int .i64 t841) v10 fun v11 =>
 St1 (n24.add 2) (.int .i64 t842) v11 fun v12 =>
 St1 (n24.add 3) (.int .i64 t843) v12 fun v13 =>
 St1 (n24.add 4) (.bool t844) v13 fun v14 =>
 LdI .i64 (n24.add 0) v14 fun t86 =>
 If (t86 != k) (Ar .i64 (i + 1) fun i1 =>
 J2 out away runs i1 v14)
 (LdI .i64 (n24.add 1) v14 fun t90 =>
 If (decide (t90 < 0)) (LdI .i64 (n24.add 3) v14 fun t94 =>
 Ar .i64 (runs + t94) fun runs1 =>
 Ar .i64 (i + 1) fun i2 =>
 J2 out away runs1 i2 v14)
 (LdB (n24.add 4) v14 fun t97 =>
 If t97 (LdI .i64 (n24.add 3) v14 fun t100 =>
 Ar .i64 (away + t100) fun away1 =>
 Ar .i64 (i + 1) fun i3 =>
 J2 out away1 runs i3 v14)
 (LdI .i64 (n24.add 3) v14 fun t104 =>
 Ar .i64 (out + t104) fun out1 =>
 Ar .i64 (i + 1) fun i4 =>
 J2 out1 away runs i4 v14))))
 (Ar .i64 (t623 + t624) fun t108 =>
 Ar .i64 (t108 + t625) fun t110 =>
 freeholdlaw10_World_owned.call t34 k v8 fun t113 v15 =>
 JnB (fun r1 v16 =>
 JnB (fun r2 v17 =>
 JnB (fun r3 v18 =>
 If r3 (R false v18)
 (Ar .i64 (k + 1) fun k1 =>
 J1 k1 v18)) fun J5 =>
 If r2 (J5 true v17)
 (Ar .i64 (t623 * 256) fun t128 =>
 Ar .i64 (out + away) fun t131 =>
 Ar .i64 (t131 + t621) fun t133 =>
 Ar .i64 (t133 + t622) fun t135 =>
 J5 (t128 != t135) v17)) fun J4 =>
 If r1 (J4 true v16)
 (Ar .i64 (t624 * 256) fun t122 =>
 J4 (t122 != runs) v16)) fun J3 =>
 If (t110 != t113) (J3 true v15)
 (J3 (t62 != away) v15)))
 (freeholdlaw10_alive.call v6 fun t138 v19 =>
 R t138 v19)))
theorem freeholdlaw10_ArenaPages.of_vc {table : Sl} {pages : Int} {many : Int} {room : Int} {l : Sl} {σ : Hp} {R : Bool -> Hp -> Prop} (hv : freeholdlaw10_ArenaPages.vc table pages many room l σ R) : freeholdlaw10_ArenaPages.call table pages many room l σ R :=
 fnK_sound Tryz.func3 (x := freeholdlaw10_ArenaPages.hint) (args := [.slice table.a table.len table.cap, .int .u8 pages, .int .u8 many, .int .u8 room, .slice l.a l.len l.cap]) (rs := [.one .b]) (R := R) (Eq.mpr (by kernel_rfl) hv)
end Go.Proofs
namespace Go.Ar
open Go Go.Vc Go.Proofs
open Go.Bu (runOk giveS takeAt cnt)


variable {σ : Hp} {xs : List (Int × Int × Int)}
theorem sumF_le {f : Pc -> Bool} {l : List Pc} {c : Nat} (h : ∀ p ∈ l, p.size <= c) : sumF f l <= l.length * c := by
 induction l with
 | nil => simp [sumF]
 | cons p l ih =>
  rw [sumF_cons, List.length_cons, Nat.add_mul]
  have h1 := h p (by simp)
  have h2 := ih fun q hq => h q (by simp [hq])
  split <;> omega
theorem LPages_ok (g : Gl σ) (gd : Gd σ) {table : Sl} (ht : Acts σ table xs) {pages many room : Int} (hp : 0 <= pages /\ pages <= 255) (hm : 0 <= many /\ many <= 255) (hr : 0 <= room /\ room <= 255)
 {l : Sl} {us : List Act} (hl : Acts6 σ σ.size l us) (hll : us.length <= 9223372036854775807) {R : Bool -> Hp -> Prop} (hR : ∀ σ', Ext0 σ σ' -> R true σ') : freeholdlaw10_ArenaPages.call table pages many room l σ R := by
 refine freeholdlaw10_ArenaPages.of_vc ?_
 unfold freeholdlaw10_ArenaPages.vc
 refine begin_ok g gd ht hp hm hr hl hll hR fun hv v2 L e2 hw => ?_
 have hlen := hw.d.wi.len
 generalize theW xs pages many room us = W at hw hlen
 have hn := hw.d.n
 have hk2 := hw.d.k2
 refine loop1 (a := .i .i64) (fun (t : Int) w => ∃ k : Nat, t = (k : Int) /\ k <= W.ars.length /\ Ext0 v2 w) (fun t _ => W.ars.length - t.toNat) ⟨0, rfl, by omega, Ext.refl _ _⟩ ?_
 rintro t v6 ⟨k, rfl, hk, e6⟩
 have hw6 := hw.keep0 e6
 have h6 := hw6.d.h
 have hal := h6.arowL
 refine nilP (h6.hd.rS rfl (ifD (fun hlt => ?_) fun hge => ?_))
 ·simp only at hlt
  have hk' : k < W.ars.length := by omega
  have hA : W.ars[k]? = some W.ars[k] := List.getElem?_eq_getElem hk'
  generalize W.ars[k] = A at hA
  have wi := hw.d.wi
  have ga := wi.ga k A hA
  obtain ⟨Y, hy, hYh, hAH⟩ := h6.ar hA
  have hcr := cRuns_le ga
  refine nilP (h6.hd.rS rfl (h6.rA hy (ACounts_ok hAH (by omega) fun v7 e7 => ?_)))
  have hw7 := hw6.keep0 e7
  have hsz : ∀ p ∈ W.held, p.size <= 270000 := fun p hp => by have := (wi.addr_lt hp).2; omega
  have hb : ∀ (f : Pc -> Bool) i, sumF f (W.held.take i) <= 262144 * 270000 := fun f i => by
   have h1 := sumF_le (f := f) (l := W.held.take i) (c := 270000) fun p hp => hsz p (List.mem_of_mem_take hp)
   have h2 : (W.held.take i).length <= 262144 := by rw [List.length_take]; omega
   exact Nat.le_trans h1 (Nat.mul_le_mul_right _ h2)
  refine loop4 (a := .i .i64) (bb := .i .i64) (c := .i .i64) (d := .i .i64) (fun (o a r t : Int) w => ∃ i : Nat, t = (i : Int) /\ i <= W.held.length /\ Ext0 v7 w /\ o = ((sumF (isOut k) (W.held.take i) : Nat) : Int) /\ a = ((sumF (isAway k) (W.held.take i) : Nat) : Int) /\ r = ((sumF (isRun k) (W.held.take i) : Nat) : Int)) (fun _ _ _ t _ => W.held.length - t.toNat)
   ⟨0, rfl, by omega, Ext.refl _ _, rfl, rfl, rfl⟩ ?_
  rintro o a r t v8 ⟨i, rfl, hi, e8, rfl, rfl, rfl⟩
  have hw8 := hw7.keep0 e8
  have h8 := hw8.d.h
  have hhl := h8.heldL
  refine nilP (h8.hd.rS rfl (ifD (fun hlt2 => ?_) fun hge2 => ?_))
  ·simp only at hlt2
   have hi' : i < W.held.length := by omega
   have hpi : W.held[i]? = some W.held[i] := List.getElem?_eq_getElem hi'
   generalize W.held[i] = p at hpi
   have htake : W.held.take (i + 1) = W.held.take i ++ [p] := by rw [List.take_add_one, hpi]; rfl
   have s1 := sumF_snoc (isOut k) (W.held.take i) p
   have s2 := sumF_snoc (isAway k) (W.held.take i) p
   have s3 := sumF_snoc (isRun k) (W.held.take i) p
   rw [← htake] at s1 s2 s3
   have b1 := hb (isOut k) i
   have b2 := hb (isAway k) i
   have b3 := hb (isRun k) i
   have hps := hsz p (List.mem_of_getElem? hpi)
   refine nilP (h8.hd.rS rfl (pc_box h8.held.slR hpi fun w ew bw => ?_))
   have E := Ext.trans e8 ew
   have ek : ((p.k : Int) != (k : Int)) = (p.k != k) := bneN _ _
   refine bw.rI rfl ?_
   rw [ek]
   refine iff_ (fun hne => ?_) fun heq => ?_
   ·have hne : (p.k == k) = false := by simpa using hne
    have f1 : isOut k p = false := by unfold isOut; rw [hne]; rfl
    have f2 : isAway k p = false := by unfold isAway; rw [hne]; rfl
    have f3 : isRun k p = false := by unfold isRun; rw [hne]; rfl
    rw [f1] at s1; rw [f2] at s2; rw [f3] at s3
    exact arN (m := i + 1) (by omega) (by omega) ⟨⟨i + 1, rfl, by omega, E, by rw [s1]; rfl, by rw [s2]; rfl, by rw [s3]; rfl⟩, by omega⟩
   have heq : (p.k == k) = true := by simpa using heq
   refine bw.rI rfl (ifD (fun hneg => ?_) fun hpos => ?_)
   ·have hd : decide (p.cls < 0) = true := decide_eq_true hneg
    have f1 : isOut k p = false := by unfold isOut; rw [heq, hd]; rfl
    have f2 : isAway k p = false := by unfold isAway; rw [heq, hd]; rfl
    have f3 : isRun k p = true := by unfold isRun; rw [heq, hd]; rfl
    rw [f1] at s1; rw [f2] at s2; rw [f3] at s3
    simp only [if_true] at s3
    exact bw.rI rfl (arN (m := sumF (isRun k) (W.held.take i) + p.size) (by omega) (by omega) (arN (m := i + 1) (by omega) (by omega) ⟨⟨i + 1, rfl, by omega, E, by rw [s1]; rfl, by rw [s2]; rfl, by rw [s3]⟩, by omega⟩))
   have hd : decide (p.cls < 0) = false := decide_eq_false hpos
   have f3 : isRun k p = false := by unfold isRun; rw [heq, hd]; rfl
   rw [f3] at s3
   refine bw.rB rfl (iff_ (fun hmv => ?_) fun hmv => ?_)
   ·have f1 : isOut k p = false := by unfold isOut; rw [heq, hd, hmv]; rfl
    have f2 : isAway k p = true := by unfold isAway; rw [heq, hd, hmv]; rfl
    rw [f1] at s1; rw [f2] at s2
    simp only [if_true] at s2
    exact bw.rI rfl (arN (m := sumF (isAway k) (W.held.take i) + p.size) (by omega) (by omega) (arN (m := i + 1) (by omega) (by omega) ⟨⟨i + 1, rfl, by omega, E, by rw [s1]; rfl, by rw [s2], by rw [s3]; rfl⟩, by omega⟩))
   ·have f1 : isOut k p = true := by unfold isOut; rw [heq, hd, hmv]; rfl
    have f2 : isAway k p = false := by unfold isAway; rw [heq, hd, hmv]; rfl
    rw [f1] at s1; rw [f2] at s2
    simp only [if_true] at s1
    exact bw.rI rfl (arN (m := sumF (isOut k) (W.held.take i) + p.size) (by omega) (by omega) (arN (m := i + 1) (by omega) (by omega) ⟨⟨i + 1, rfl, by omega, E, by rw [s1], by rw [s2]; rfl, by rw [s3]; rfl⟩, by omega⟩))
  ·have hii : i = W.held.length := by simp only at hge2; omega
   subst hii
   rw [List.take_length]
   have q1 := law_pages ga
   have q2 := law_moved wi hA
   have q3 := law_run wi hA
   have q4 := law_bytes wi hA
   have hAn : A.n = W.sp.st.length := (wi.ow k A hA).l.symm
   have q5 := ownedN_le A W.sp.st.length
   have q1' : cSpans A + cRuns A + cnt A.n A.S = ownedN A W.sp.st.length := by rw [← hAn]; exact q1
   have b1 := hb (isOut k) W.held.length
   have b2 := hb (isAway k) W.held.length
   rw [List.take_length] at b1 b2
   refine arN (m := cSpans A + cRuns A) (by omega) (by omega) (arN (m := cSpans A + cRuns A + cnt A.n A.S) (by omega) (by omega) ?_)
   refine owned_ok h8 (by omega) hA (JnB.intro ?_)
   rw [q1']
   refine ifF (by simp) (JnB.intro ?_)
   rw [q2]
   refine ifF (by simp) (arN (m := cRuns A * 256) (by omega) (by omega) (JnB.intro ?_))
   rw [q3]
   refine ifF (by simp) (arN (m := cSpans A * 256) (by omega) (by omega) (arN (m := sumF (isOut k) W.held + sumF (isAway k) W.held) (by omega) (by omega) ?_))
   refine arN (m := sumF (isOut k) W.held + sumF (isAway k) W.held + cRoom A) (by omega) (by omega) (arN (m := sumF (isOut k) W.held + sumF (isAway k) W.held + cRoom A + cTails A) (by omega) (by omega) ?_)
   rw [q4]
   refine ifF (by simp) (arN (m := k + 1) (by omega) (by omega) ⟨⟨k + 1, rfl, by omega, Ext.trans (Ext.trans e6 e7) e8⟩, by omega⟩)
 ·exact alive_ok (g.keep0 (Ext.trans e2 e6)) fun v9 e9 => hR v9 (Ext.trans (Ext.trans e2 e6) e9)
end Go.Ar
namespace Go.Ar
open Go Go.Vc Go.Proofs Go.ChangeShapes Go.WideShapes Go.RowKit Go.Deep


theorem bool_of_trod {H : Type} {enc : TypeId × Value -> H} {P : Program} {w : World} {base : Nat} {sp : Nat -> Bool} {held : Bool} {fuel : Nat} {t : TypeId} {c : Value} {y : DataW H × List MemPlace}
 (ht : P.underlying t = some .bool) (h : DataW.trod enc P w base sp held fuel t [c] = some y) : ∃ n, c = .bool n /\ y = (.lit (.bool n), []) := by
 cases fuel with
 | zero => simp [DataW.trod] at h
 | succ fuel =>
  cases c <;> simp [DataW.trod, ht] at h
  rename_i n
  exact ⟨n, rfl, by simpa using h.symm⟩
theorem two_cells {P : Program} {w : World} {t : TypeId} {f0 f1 : Field} {cs : Array Value} {fuel : Nat} {p : List MemPlace} {x y : Bool} (ht : P.underlying t = some (.struct #[f0, f1])) (hone : oneCellFields P #[f0, f1] = true) (hC : P.cellsOf t = 2)
 (h0 : P.underlying f0.type = some .bool) (h1 : P.underlying f1.type = some .bool) (h : DataW.trod (fun _ => ()) P w 0 (fun _ => true) false fuel t cs.toList = some (.agg [.lit (.bool x), .lit (.bool y)], p)) : cs = #[.bool x, .bool y] := by
 obtain ⟨ys, n, hn, hy, hlen, hyl, hff⟩ := DataW.trod_struct ht h
 obtain ⟨l⟩ := cs
 have hl2 : l.length = 2 := by rw [← hC]; simpa using hlen
 match l, hl2 with
 | [c0, c1], _ =>
  have k0 := hff 0 f0 rfl
  have k1 := hff 1 f1 rfl
  obtain ⟨o0, q0⟩ := hone_of hone 0 f0 rfl
  obtain ⟨o1, q1⟩ := hone_of hone 1 f1 rfl
  rw [o0, q0] at k0
  rw [o1, q1] at k1
  match ys, hyl with
  | [y0, y1], _ =>
   obtain ⟨n0, rfl, e0⟩ := bool_of_trod h0 (c := c0) (y := y0) (by simpa using k0)
   obtain ⟨n1, rfl, e1⟩ := bool_of_trod h1 (c := c1) (y := y1) (by simpa using k1)
   subst e0; subst e1
   simp at hy
   obtain ⟨⟨rfl, rfl⟩, _⟩ := hy
   rfl
theorem cell_of {w : World} {a : Addr} {v : Value} (h : w.cell? a = some v) : cell w.heap a = some v := h
end Go.Ar
namespace Go.Ar
open Go Go.Vc Go.Proofs Go.ChangeShapes Go.WideShapes Go.RowKit Go.Deep


section
variable {H : Type} {enc : TypeId × Value -> H} {P : Program} {w : World}
theorem i63_of {x : Int} (h : (Lit.int .i64 x).wf = true) : I63 x := by
 unfold I63
 simp [Lit.wf, IntKind.min, IntKind.max, IntKind.bits, IntKind.signed] at h
 omega
theorem u8_of {x : Int} (h : (Lit.int .u8 x).wf = true) : 0 <= x /\ x <= 255 := by
 simp [Lit.wf, IntKind.min, IntKind.max, IntKind.bits, IntKind.signed] at h
 omega
theorem ints_open {t e : TypeId} {fuel : Nat} {c : Value} {y : DataW H × List MemPlace} (ht : P.underlying t = some (.slice e)) (hC : P.cellsOf e = 1) (he : P.underlying e = some (.int .i64)) (h : DataW.trod enc P w 0 (fun _ => true) true fuel t [c] = some y) :
 ∃ (s : Sl) (l : List Int), c = .slice s.a s.len s.cap /\ SlR s 1 (intsI l) w.heap (fun b => b < w.heap.size) /\ s.len <= s.cap /\ (∀ x ∈ l, I63 x) /\ l.length <= 9223372036854775807 := by
 rcases open_slice1 ht hC h with ⟨hcs, _⟩ | ⟨a, len, cap, m, n, V, D, Pl, hcs, _, hl, hm, hmm, _, hV⟩
 ·simp only [List.cons.injEq, and_true] at hcs
  exact ⟨⟨none, 0, 0⟩, [], hcs, SlR.nil _ _ _ _, Nat.le_refl _, by simp, by simp⟩
 ·simp only [List.cons.injEq, and_true] at hcs
  have hmc : m = cap := by simpa using hmm
  have hx : ∀ i, i < len -> ∃ x : Int, cell w.heap (a.add i) = some (.int .i64 x) /\ I63 x := fun i hi => by
   obtain ⟨h1, h2⟩ := hV i (by omega)
   obtain ⟨x, hx1, _, hw⟩ := DataW.trod_int he h2
   simp only [List.cons.injEq, and_true] at hx1
   rw [hx1] at h1
   exact ⟨x, h1, i63_of hw⟩
  let g : Nat -> Int := fun i => if hi : i < len then (hx i hi).choose else 0
  have hg : ∀ i, (hi : i < len) -> cell w.heap (a.add i) = some (.int .i64 (g i)) /\ I63 (g i) := fun i hi => by
   have := (hx i hi).choose_spec
   simp only [g, hi, dif_pos]; exact this
  refine ⟨⟨some a, len, cap⟩, (List.range len).map g, hcs, ⟨by simp [intsI], ?_⟩, hl, fun x hx => ?_, ?_⟩
  ·rcases Nat.eq_zero_or_pos len with h0 | h0
   ·left; subst h0; rfl
   ·right
    have hc0 := (hg 0 h0).1
    have hsp := cell_lt hc0
    rw [Addr.add_zero'] at hsp
    obtain ⟨b, o, s⟩ := a
    have hs : s = none := hsp.2
    subst hs
    have hob : ∃ arr ty z, w.heap[b]? = some (.cells arr ty z) := by
     rw [add_lit] at hc0
     unfold cell at hc0
     split at hc0
     ·rename_i arr ty z heq; exact ⟨arr, ty, z, heq⟩
     ·cases hc0
    obtain ⟨arr, ty, z, hobj⟩ := hob
    refine ⟨b, o, arr.toList, hsp.1, rfl, ⟨ty, z, by simpa using hobj⟩, fun j hj => ?_⟩
    have hj' : j < len := by simpa [intsI] using hj
    have hc := (hg j hj').1
    rw [add_lit] at hc
    unfold cell at hc
    simp only [hobj] at hc
    rw [Array.getElem?_toList]
    simp [intsI, List.getElem?_range hj']
    simpa using hc
  ·obtain ⟨i, hi, rfl⟩ := List.mem_map.1 hx
   exact (hg i (List.mem_range.1 hi)).2
  ·have : maxLen = 9223372036854775807 := rfl
   simp; omega
theorem act_cells {t ei : TypeId} {f0 f1 f2 f3 f4 f5 : Field} {fuel : Nat} {cs : List Value} {y : DataW H × List MemPlace}
 (ht : P.underlying t = some (.struct #[f0, f1, f2, f3, f4, f5])) (hone : oneCellFields P #[f0, f1, f2, f3, f4, f5] = true) (hC : P.cellsOf t = 6)
 (h0 : P.underlying f0.type = some (.int .i64)) (h1 : P.underlying f1.type = some (.int .i64)) (h2 : P.underlying f2.type = some (.int .i64)) (h3 : P.underlying f3.type = some (.int .i64)) (h4 : P.underlying f4.type = some (.int .i64)) (h5 : P.underlying f5.type = some (.slice ei)) (hCi : P.cellsOf ei = 1) (hei : P.underlying ei = some (.int .i64))
 (h : DataW.trod enc P w 0 (fun _ => true) true fuel t cs = some y) :
 ∃ (x : Act) (s : Sl), cs = [.int .i64 x.kd, .int .i64 x.ar, .int .i64 x.cl, .int .i64 x.a, .int .i64 x.b, .slice s.a s.len s.cap] /\ SlR s 1 (intsI x.l) w.heap (fun b => b < w.heap.size) /\ s.len <= s.cap /\ I63 x.a /\ (∀ z ∈ x.l, I63 z) /\ x.l.length <= 9223372036854775807 := by
 obtain ⟨ys, n, hn, hy, hlen, hyl, hff⟩ := DataW.trod_struct ht h
 have hl6 : cs.length = 6 := by rw [← hC]; exact hlen
 match cs, hl6 with
 | [c0, c1, c2, c3, c4, c5], _ =>
  have one : ∀ (j : Nat) (f : Field) (c : Value), (#[f0, f1, f2, f3, f4, f5] : Array Field)[j]? = some f -> [c0, c1, c2, c3, c4, c5][j]? = some c -> ∃ z, DataW.trod enc P w 0 (fun _ => true) true n f.type [c] = some z := by
   intro j f c hj hc
   obtain ⟨ho, hk⟩ := hone_of hone j f hj
   have h3 := hff j f hj
   rw [ho, hk] at h3
   have hjl := (List.getElem?_eq_some_iff.1 hc).1
   have e1 : ([c0, c1, c2, c3, c4, c5].drop j).take 1 = [c] := by
    rw [List.drop_eq_getElem_cons hjl, List.take_succ_cons, List.take_zero, (List.getElem?_eq_some_iff.1 hc).2]
   rw [e1] at h3
   have hys : ys[j]? = some (ys[j]'(by rw [hyl]; simp at hjl ⊢; omega)) := List.getElem?_eq_getElem _
   rw [hys] at h3
   exact ⟨_, h3⟩
  have int : ∀ (j : Nat) (f : Field) (c : Value), (#[f0, f1, f2, f3, f4, f5] : Array Field)[j]? = some f -> [c0, c1, c2, c3, c4, c5][j]? = some c -> P.underlying f.type = some (.int .i64) -> ∃ x : Int, c = .int .i64 x /\ I63 x := by
   intro j f c hj hc hu
   obtain ⟨z, hz⟩ := one j f c hj hc
   obtain ⟨x, hx1, _, hw⟩ := DataW.trod_int hu hz
   simp only [List.cons.injEq, and_true] at hx1
   exact ⟨x, hx1, i63_of hw⟩
  obtain ⟨x0, rfl, _⟩ := int 0 f0 c0 rfl rfl h0
  obtain ⟨x1, rfl, _⟩ := int 1 f1 c1 rfl rfl h1
  obtain ⟨x2, rfl, _⟩ := int 2 f2 c2 rfl rfl h2
  obtain ⟨x3, rfl, hx3⟩ := int 3 f3 c3 rfl rfl h3
  obtain ⟨x4, rfl, _⟩ := int 4 f4 c4 rfl rfl h4
  obtain ⟨z, hz⟩ := one 5 f5 c5 rfl rfl
  obtain ⟨s, l, rfl, q1, q2, q3, q4⟩ := ints_open h5 hCi hei hz
  exact ⟨⟨x0, x1, x2, x3, x4, l⟩, s, rfl, q1, q2, hx3, q3, q4⟩
theorem acts6_open {t e ei : TypeId} {f0 f1 f2 f3 f4 f5 : Field} {a : Option Addr} {len cap : Nat} {d : DataW H} {ps : List MemPlace}
 (htl : P.underlying t = some (.slice e)) (ht : P.underlying e = some (.struct #[f0, f1, f2, f3, f4, f5])) (hone : oneCellFields P #[f0, f1, f2, f3, f4, f5] = true) (hC : P.cellsOf e = 6)
 (h0 : P.underlying f0.type = some (.int .i64)) (h1 : P.underlying f1.type = some (.int .i64)) (h2 : P.underlying f2.type = some (.int .i64)) (h3 : P.underlying f3.type = some (.int .i64)) (h4 : P.underlying f4.type = some (.int .i64)) (h5 : P.underlying f5.type = some (.slice ei)) (hCi : P.cellsOf ei = 1) (hei : P.underlying ei = some (.int .i64))
 (h : DataW.Trod enc P w 0 (fun _ => true) true t (.slice a len cap) d ps) : ∃ us, Acts6 w.heap w.heap.size ⟨a, len, cap⟩ us /\ us.length <= 9223372036854775807 := by
 obtain ⟨fuel, hf⟩ := h
 rcases open_slice htl hf with ⟨hcs, _⟩ | ⟨ad, len', cap', m, n, D, Pl, hcs, _, hl, hm, hmm, hx, hi⟩
 ·simp [Value.cells] at hcs
  obtain ⟨rfl, rfl, rfl⟩ := hcs
  exact ⟨[], ⟨rfl, fun i x hx => by simp at hx, by simp, Nat.le_refl _⟩, by simp⟩
 ·simp [Value.cells] at hcs
  obtain ⟨rfl, rfl, rfl⟩ := hcs
  have hmc : m = cap := by simpa using hmm
  have key : ∀ i, i < len -> ∃ u : Act × Sl, (∀ j v, [Value.int .i64 u.1.kd, .int .i64 u.1.ar, .int .i64 u.1.cl, .int .i64 u.1.a, .int .i64 u.1.b, .slice u.2.a u.2.len u.2.cap][j]? = some v -> cell w.heap ((ad.add (i * 6)).add j) = some v) ∧
   SlR u.2 1 (intsI u.1.l) w.heap (fun b => b < w.heap.size) /\ u.2.len <= u.2.cap /\ I63 u.1.a /\ (∀ z ∈ u.1.l, I63 z) := by
   intro i hil
   obtain ⟨cs', hc, ht'⟩ := hi i (by omega)
   rw [hC] at hc
   obtain ⟨x, s, hcs, q1, q2, q3, q4, _⟩ := act_cells ht hone hC h0 h1 h2 h3 h4 h5 hCi hei ht'
   obtain ⟨_, hcl, hat⟩ := World.cells?_some hc
   refine ⟨(x, s), fun j v hv => ?_, q1, q2, q3, q4⟩
   have hj := (List.getElem?_eq_some_iff.1 hv).1
   have := hat j (by simpa using hj)
   rw [hcs] at this
   rw [hv] at this
   exact this
  let g : Nat -> Act := fun i => if hi : i < len then (key i hi).choose.1 else ⟨0, 0, 0, 0, 0, []⟩
  have hg : ∀ i, (hi : i < len) -> g i = (key i hi).choose.1 := fun i hi => by simp only [g, hi, dif_pos]
  refine ⟨(List.range len).map g, ⟨by simp, fun i x hx => ?_, fun x hx => ?_, Nat.le_refl _⟩, ?_⟩
  ·have hil : i < len := by
    have := (List.getElem?_eq_some_iff.1 hx).1
    simpa using this
   have hgx : g i = x := by simpa [hil] using hx
   rw [hg i hil] at hgx
   obtain ⟨⟨x', s2⟩, hu, hc, q1, q2, _⟩ : ∃ u : Act × Sl, u.1 = x /\ (∀ j v, [Value.int .i64 u.1.kd, .int .i64 u.1.ar, .int .i64 u.1.cl, .int .i64 u.1.a, .int .i64 u.1.b, .slice u.2.a u.2.len u.2.cap][j]? = some v -> cell w.heap ((ad.add (i * 6)).add j) = some v) ∧
    SlR u.2 1 (intsI u.1.l) w.heap (fun b => b < w.heap.size) /\ u.2.len <= u.2.cap /\ I63 u.1.a /\ (∀ z ∈ u.1.l, I63 z) := ⟨_, hgx, (key i hil).choose_spec⟩
   have hu : x' = x := hu
   subst hu
   simp only at hc q1 q2
   have hz0 := (key 0 (by omega)).choose_spec.1
   have hz1 := hz0 0 _ rfl
   have hsp := cell_lt hz1
   simp only [Nat.zero_mul, Addr.add_zero'] at hsp
   obtain ⟨b, o, s⟩ := ad
   have hs : s = none := hsp.2
   subst hs
   rw [add_lit] at hc
   refine ⟨b, o, _, rfl, hsp.1, ?_, ?_, ?_, ?_, ?_, ?_, q1, q2⟩
   ·have := hc 0 _ rfl; rw [add_lit] at this; exact this
   ·have := hc 1 _ rfl; rw [add_lit] at this; exact this
   ·have := hc 2 _ rfl; rw [add_lit] at this; exact this
   ·have := hc 3 _ rfl; rw [add_lit] at this; exact this
   ·have := hc 4 _ rfl; rw [add_lit] at this; exact this
   ·have := hc 5 _ rfl; rw [add_lit] at this; exact this
  ·obtain ⟨i, hi, rfl⟩ := List.mem_map.1 hx
   have hil := List.mem_range.1 hi
   rw [hg i hil]
   obtain ⟨_, _, _, q3, q4⟩ := (key i hil).choose_spec
   exact ⟨q3, q4⟩
  ·have : maxLen = 9223372036854775807 := rfl
   simp; omega
end
end Go.Ar