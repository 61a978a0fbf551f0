/- Texts joined. -/
import Derived.Test.YtmjjhknmbflfhaaGreatDoorW4
set_option linter.unusedVariables false
set_option linter.unusedSimpArgs false
namespace Go.Ar
open Go.Bu (XV YZ runS Xu Hb allF Qy Q7 give take ZZ ZU Bounded full can Yi Q5 YR ZF YV ZY ZH Zb)


def Cl (A : AR) (k : Nat) (c : Cls) (ss : List SpA) : Prop := A.tb[k]? = some c /\ A.cen[k]? = some ss
def TkA (A : AR) (k : Nat) (x : Int) : Prop := ∃ c ss, Cl A k c ss /\ Tk c ss x
def InT (A : AR) (k : Nat) (x : Int) : Prop := ∃ t, A.tra[k]? = some t /\ x ∈ t.bs.flatten
structure GA (A : AR) : Prop where
 pg : PG A
 tb : A.tb.length <= 40
 lc : A.cen.length = A.tb.length
 lt : A.tra.length = A.tb.length
 cen : ∀ k c ss, Cl A k c ss -> CenOk c ss
 one : ∀ k c ss, Cl A k c ss -> ∀ s ∈ ss, s.st / 16 = (s.st + c.pages - 1) / 16
 ow : ∀ k c ss, Cl A k c ss -> ∀ p, A.ow p = k + 1 ↔ Cov c ss p
 ow41 : ∀ p, A.ow p = 41 ↔ inR A.runs p
 owb : ∀ p, A.ow p = 41 ∨ A.ow p <= A.tb.length
 rpos : ∀ r ∈ A.runs, 1 <= r.2
 rdis : A.runs.Pairwise fun a b => a.1 + a.2 <= b.1 ∨ b.1 + b.2 <= a.1
 trn : ∀ (k : Nat) (t : TrA), A.tra[k]? = some t -> t.bs.flatten.Nodup
 trt : ∀ (k : Nat) c ss (t : TrA), Cl A k c ss -> A.tra[k]? = some t -> ∀ x ∈ t.bs.flatten, Tk c ss x
 trb : ∀ (k : Nat) (c : Cls) (t : TrA), A.tb[k]? = some c -> A.tra[k]? = some t -> ∀ xs ∈ t.bs, xs.length = c.batch
structure Kp (A B : AR) : Prop where
 n : B.n = A.n
 tb : B.tb = A.tb
 room : B.room = A.room
 z : ∀ p, B.f p = 0 ↔ A.f p = 0
 t : ∀ p, B.f p = 3 -> A.f p = 3
theorem Kp.refl (A : AR) : Kp A A := ⟨rfl, rfl, rfl, fun _ => Iff.rfl, fun _ => id⟩
theorem Kp.trans {A B C : AR} (h : Kp A B) (k : Kp B C) : Kp A C := ⟨k.n.trans h.n, k.tb.trans h.tb, k.room.trans h.room, fun p => (k.z p).trans (h.z p), fun p hp => h.t p (k.t p hp)⟩
theorem Kp.pages {A B : AR} (e1 : B.n = A.n) (e2 : B.tb = A.tb) (e3 : B.room = A.room) (e4 : B.st = A.st) : Kp A B := ⟨e1, e2, e3, fun p => by unfold AR.f; rw [e4], fun p => by unfold AR.f; rw [e4]; exact id⟩
variable {A : AR} {k : Nat} {c : Cls} {ss : List SpA}
theorem Cl.lt (h : Cl A k c ss) : k < A.tb.length := (List.getElem?_eq_some_iff.1 h.1).1
theorem Cl.eq {c' : Cls} {ss' : List SpA} (h : Cl A k c ss) (h' : Cl A k c' ss') : c = c' /\ ss = ss' := ⟨Option.some.inj (h.1.symm.trans h'.1), Option.some.inj (h.2.symm.trans h'.2)⟩
theorem GA.cl (h : GA A) {k : Nat} (hk : k < A.tb.length) : ∃ c ss t, Cl A k c ss /\ A.tra[k]? = some t := by
 have h1 := h.lc; have h2 := h.lt
 exact ⟨A.tb[k], A.cen[k], A.tra[k], ⟨by simp, by simp⟩, by simp⟩
theorem GA.used (h : GA A) (hk : Cl A k c ss) {s : SpA} (hs : s ∈ ss) {p : Nat} (h1 : s.st <= p) (h2 : p < s.st + c.pages) : A.f p = 1 /\ A.ow p = k + 1 := by
 have := (h.ow k c ss hk p).2 ⟨s, hs, h1, h2⟩
 exact ⟨(h.pg.us p).2 (by omega), this⟩
theorem GA.usedR (h : GA A) {r : Nat × Nat} (hr : r ∈ A.runs) {p : Nat} (h1 : r.1 <= p) (h2 : p < r.1 + r.2) : A.f p = 1 /\ A.ow p = 41 := by
 have := (h.ow41 p).2 ⟨r, hr, h1, h2⟩
 exact ⟨(h.pg.us p).2 (by omega), this⟩
theorem GA.runs_uniq (h : GA A) {r s : Nat × Nat} (hr : r ∈ A.runs) (hs : s ∈ A.runs) {x : Nat} (h1 : r.1 <= x) (h2 : x < r.1 + r.2) (h3 : s.1 <= x) (h4 : x < s.1 + s.2) : r = s := by
 obtain ⟨i, hi⟩ := List.getElem?_of_mem hr
 obtain ⟨j, hj⟩ := List.getElem?_of_mem hs
 obtain ⟨hi1, rfl⟩ := List.getElem?_eq_some_iff.1 hi
 obtain ⟨hj1, rfl⟩ := List.getElem?_eq_some_iff.1 hj
 rcases Nat.lt_trichotomy i j with hl | hl | hl
 ·have := List.pairwise_iff_getElem.1 h.rdis i j hi1 hj1 hl; omega
 ·subst hl; rfl
 ·have := List.pairwise_iff_getElem.1 h.rdis j i hj1 hi1 hl; omega
theorem GA.fit (h : GA A) {r : Nat × Nat} (hr : r ∈ A.runs) : r.1 + r.2 <= A.n := by
 have := h.rpos r hr
 have := h.pg.lt (p := r.1 + r.2 - 1) (by rw [(h.usedR hr (p := r.1 + r.2 - 1) (by omega) (by omega)).1]; omega)
 omega
theorem GA.runsOk (h : GA A) : RunsOk A := by
 have hn := h.pg.n2
 refine ⟨fun r hr s hs x h1 h2 h3 h4 => h.runs_uniq hr hs h1 h2 h3 h4, fun x hx h41 => ?_, fun x hx h0 h41 => ?_, fun r hr => ?_⟩
 ·obtain ⟨r, hr, h1, h2⟩ := (h.ow41 x).1 h41
  unfold H6
  rw [List.find?_isSome]
  exact ⟨r, hr, by simp [h1, h2]⟩
 ·rcases h.owb x with e | e
  ·exact (h41 e).elim
  ·exact e
 ·have := h.fit hr; omega
theorem KA (hk : Cl A k c ss) {ss' : List SpA} {j : Nat} {d : Cls} {tt : List SpA} (h : Cl { A with cen := A.cen.set k ss' } j d tt) : (j = k /\ d = c /\ tt = ss') ∨ (j ≠ k /\ Cl A j d tt) := by
 obtain ⟨h1, h2⟩ := h
 by_cases hjk : j = k
 ·subst hjk
  have hl := (List.getElem?_eq_some_iff.1 hk.2).1
  simp only [List.getElem?_set_self hl] at h2
  exact .inl ⟨rfl, Option.some.inj (h1.symm.trans hk.1), (Option.some.inj h2).symm⟩
 ·simp only [List.getElem?_set_ne (Ne.symm hjk)] at h2
  exact .inr ⟨hjk, h1, h2⟩
theorem Ux (hk : Cl A k c ss) (ss' : List SpA) : Cl { A with cen := A.cen.set k ss' } k c ss' := ⟨hk.1, List.getElem?_set_self (List.getElem?_eq_some_iff.1 hk.2).1⟩
theorem WdO {ss' : List SpA} {j : Nat} {d : Cls} {tt : List SpA} (hjk : j ≠ k) (h : Cl A j d tt) : Cl { A with cen := A.cen.set k ss' } j d tt := ⟨h.1, (List.getElem?_set_ne (Ne.symm hjk)).trans h.2⟩
theorem GA.setCen (h : GA A) (hk : Cl A k c ss) {ss' : List SpA} (hC : CenOk c ss') (hst : ss'.map (·.st) = ss.map (·.st)) (ht : ∀ t, A.tra[k]? = some t -> ∀ x ∈ t.bs.flatten, Tk c ss' x) : GA { A with cen := A.cen.set k ss' } := by
 refine ⟨h.pg.same rfl rfl rfl rfl, h.tb, by simp [h.lc], h.lt, fun j d tt hj => ?_, fun j d tt hj s hs => ?_, fun j d tt hj p => ?_, h.ow41, h.owb, h.rpos, h.rdis, h.trn, fun j d tt t hj htr => ?_, h.trb⟩
 ·rcases KA hk hj with ⟨rfl, rfl, rfl⟩ | ⟨hne, hj⟩
  ·exact hC
  ·exact h.cen j d tt hj
 ·rcases KA hk hj with ⟨rfl, rfl, rfl⟩ | ⟨hne, hj⟩
  ·have : s.st ∈ ss.map (·.st) := by rw [← hst]; exact List.mem_map.2 ⟨s, hs, rfl⟩
   obtain ⟨t, ht, e⟩ := List.mem_map.1 this
   rw [← e]; exact h.one _ _ _ hk t ht
  ·exact h.one j d tt hj s hs
 ·rcases KA hk hj with ⟨rfl, rfl, rfl⟩ | ⟨hne, hj⟩
  ·rw [Wh4 hst]; exact h.ow _ _ _ hk p
  ·exact h.ow j d tt hj p
 ·rcases KA hk hj with ⟨rfl, rfl, rfl⟩ | ⟨hne, hj⟩
  ·exact ht t htr
  ·exact h.trt j d tt t hj htr
theorem HS (hk : Cl A k c ss) {ss' : List SpA} {j : Nat} {x : Int} : TkA { A with cen := A.cen.set k ss' } j x ↔ (j = k /\ Tk c ss' x) ∨ (j ≠ k /\ TkA A j x) := by
 constructor
 ·rintro ⟨d, tt, hj, hx⟩
  rcases KA hk hj with ⟨rfl, rfl, rfl⟩ | ⟨hne, hj⟩
  ·exact .inl ⟨rfl, hx⟩
  ·exact .inr ⟨hne, d, tt, hj, hx⟩
 ·rintro (⟨rfl, hx⟩ | ⟨hne, d, tt, hj, hx⟩)
  ·exact ⟨c, ss', Ux hk ss', hx⟩
  ·exact ⟨d, tt, WdO hne hj, hx⟩
theorem Qv (hk : Cl A k c ss) {x : Int} : TkA A k x ↔ Tk c ss x := by
 constructor
 ·rintro ⟨d, tt, hj, hx⟩
  obtain ⟨rfl, rfl⟩ := hk.eq hj; exact hx
 ·intro hx; exact ⟨c, ss, hk, hx⟩
def swp (A : AR) (k : Nat) (c : Cls) (ss : List SpA) : AR := QT { A with cen := A.cen.set k (sweep ss) } ((Y9 ss).map fun s => (s, c.pages))
theorem US {p : Nat} : inR ((Y9 ss).map fun s => (s, c.pages)) p ↔ ∃ x ∈ Y9 ss, x <= p /\ p < x + c.pages := by
 unfold inR
 simp only [List.mem_map]
 constructor
 ·rintro ⟨_, ⟨x, hx, rfl⟩, h⟩; exact ⟨x, hx, h⟩
 ·rintro ⟨x, hx, h⟩; exact ⟨_, ⟨x, hx, rfl⟩, h⟩
theorem GA.swept_used (h : GA A) (hk : Cl A k c ss) {x : Nat} (hx : x ∈ Y9 ss) {p : Nat} (h1 : x <= p) (h2 : p < x + c.pages) : A.f p = 1 /\ A.ow p = k + 1 := by
 obtain ⟨s, hs, _, rfl⟩ := U2.1 hx
 exact h.used hk hs h1 h2
theorem GA.swpB (h : GA A) (hk : Cl A k c ss) : Backd { A with cen := A.cen.set k (sweep ss) } (swp A k c ss) ((Y9 ss).map fun s => (s, c.pages)) := by
 have hC := h.cen k c ss hk
 refine Wbx _ (h.pg.same rfl rfl rfl rfl) (fun r hr => ?_) (fun r hr p p1 p2 => ?_) ?_
 ·obtain ⟨x, _, rfl⟩ := List.mem_map.1 hr; exact hC.pg
 ·obtain ⟨x, hx, rfl⟩ := List.mem_map.1 hr; exact (h.swept_used hk hx p1 p2).1
 ·rw [List.pairwise_map]; exact (WcH hC).imp fun {a b} hab => .inl hab
theorem GA.swp (h : GA A) (hk : Cl A k c ss) : GA (Go.Ar.swp A k c ss) := by
 have b := h.swpB hk
 have hC := h.cen k c ss hk
 have hkl := hk.lt
 have htb := h.tb
 have cl : ∀ {j d tt}, Cl (Go.Ar.swp A k c ss) j d tt -> (j = k /\ d = c /\ tt = sweep ss) ∨ (j ≠ k /\ Cl A j d tt) := fun {j d tt} hj => KA hk ⟨by rw [← b.tb]; exact hj.1, by rw [← b.cen]; exact hj.2⟩
 have own : ∀ p, inR ((Y9 ss).map fun s => (s, c.pages)) p -> A.ow p = k + 1 := fun p hp => by
  obtain ⟨x, hx, h1, h2⟩ := US.1 hp
  exact (h.swept_used hk hx h1 h2).2
 have tra : (Go.Ar.swp A k c ss).tra = A.tra := b.tra
 have tb : (Go.Ar.swp A k c ss).tb = A.tb := b.tb
 have runs : (Go.Ar.swp A k c ss).runs = A.runs := b.runs
 refine ⟨b.pg, by rw [tb]; exact h.tb, by rw [b.cen, tb]; simp [h.lc], by rw [tra, tb]; exact h.lt, fun j d tt hj => ?_, fun j d tt hj s hs => ?_, fun j d tt hj p => ?_, fun p => ?_, fun p => ?_, by rw [runs]; exact h.rpos, by rw [runs]; exact h.rdis, by rw [tra]; exact h.trn, fun j d tt t hj htr => ?_, by rw [tra, tb]; exact h.trb⟩
 ·rcases cl hj with ⟨rfl, rfl, rfl⟩ | ⟨hne, hj⟩
  ·exact hC.sweep
  ·exact h.cen j d tt hj
 ·rcases cl hj with ⟨rfl, rfl, rfl⟩ | ⟨hne, hj⟩
  ·exact h.one _ _ _ hk s (List.mem_filter.1 hs).1
  ·exact h.one j d tt hj s hs
 ·by_cases hp : inR ((Y9 ss).map fun s => (s, c.pages)) p
  ·rw [(b.i p hp).2]
   have ho := own p hp
   rcases cl hj with ⟨rfl, rfl, rfl⟩ | ⟨hne, hj⟩
   ·rw [GI hC]
    constructor
    ·intro e; omega
    ·rintro ⟨_, hn⟩; exact (hn (US.1 hp)).elim
   ·rw [← h.ow j d tt hj p, ho]; omega
  ·rw [(b.o p hp).2]
   rcases cl hj with ⟨rfl, rfl, rfl⟩ | ⟨hne, hj⟩
   ·rw [GI hC]
    show A.ow p = _ ↔ _
    rw [h.ow _ _ _ hk p]
    exact ⟨fun hx => ⟨hx, fun hy => hp (US.2 hy)⟩, fun hx => hx.1⟩
   ·exact h.ow j d tt hj p
 ·rw [runs]
  by_cases hp : inR ((Y9 ss).map fun s => (s, c.pages)) p
  ·rw [(b.i p hp).2, ← h.ow41, own p hp]; omega
  ·rw [(b.o p hp).2]; exact h.ow41 p
 ·rw [tb]
  by_cases hp : inR ((Y9 ss).map fun s => (s, c.pages)) p
  ·rw [(b.i p hp).2]; omega
  ·rw [(b.o p hp).2]; exact h.owb p
 ·rw [tra] at htr
  rcases cl hj with ⟨rfl, rfl, rfl⟩ | ⟨hne, hj⟩
  ·intro x hx; exact (WbL hC).2 (h.trt _ _ _ t hk htr x hx)
  ·exact h.trt j d tt t hj htr
theorem GA.swpK (h : GA A) (hk : Cl A k c ss) : Kp A (Go.Ar.swp A k c ss) := by
 have b := h.swpB hk
 refine ⟨b.n, b.tb, b.room, b.z, fun p hp => ?_⟩
 by_cases hi : inR ((Y9 ss).map fun s => (s, c.pages)) p
 ·rw [(b.i p hi).1] at hp; omega
 ·rw [(b.o p hi).1] at hp; exact hp
theorem GA.swpT (h : GA A) (hk : Cl A k c ss) {j : Nat} {x : Int} : TkA (Go.Ar.swp A k c ss) j x ↔ TkA A j x := by
 have b := h.swpB hk
 have hC := h.cen k c ss hk
 have e : TkA (Go.Ar.swp A k c ss) j x ↔ TkA { A with cen := A.cen.set k (sweep ss) } j x := by unfold TkA Cl; rw [b.tb, b.cen]
 rw [e, HS hk, WbL hC]
 constructor
 ·rintro (⟨rfl, hx⟩ | ⟨_, hx⟩)
  ·exact (Qv hk).2 hx
  ·exact hx
 ·intro hx
  by_cases hjk : j = k
  ·subst hjk; exact .inl ⟨rfl, (Qv hk).1 hx⟩
  ·exact .inr ⟨hjk, hx⟩
theorem U4 {k : Int} : A.ck k = true ↔ ∃ j : Nat, k = j /\ j < A.tb.length := by
 unfold AR.ck
 simp only [Bool.and_eq_true, decide_eq_true_eq]
 constructor
 ·intro h; exact ⟨k.toNat, by omega, by omega⟩
 ·rintro ⟨j, rfl, h⟩; omega
structure Ob (A B : AR) : Prop where
 ga : GA B
 kp : Kp A B
 runs : B.runs = A.runs
theorem Hq (h : GA A) (k m : Int) : Ob A (YE A k m) /\ (YE A k m).tra = A.tra /\ (YM A k m).Nodup /\ (YM A k m ≠ [] -> ∃ j : Nat, k = j /\ j < A.tb.length) /\ (∀ x ∈ YM A k m, ¬ TkA A k.toNat (x : Int)) ∧
 ∀ j y, TkA (YE A k m) j y ↔ TkA A j y ∨ (j = k.toNat /\ ∃ x ∈ YM A k m, y = ((x : Nat) : Int)) := by
 by_cases h0 : Zi A k m = 0
 ·have hck : A.ck k = true := by
   unfold Zi at h0
   split at h0
   ·assumption
   ·cases h0
  obtain ⟨j, rfl, hj⟩ := U4.1 hck
  obtain ⟨c, ss, t, hk, ht⟩ := h.cl hj
  have eR : KK A (j : Int) m = ZN c m.toNat ss := by unfold KK; rw [Int.toNat_natCast, hk.1, hk.2]
  have eS : YE A (j : Int) m = { A with cen := A.cen.set j (ZN c m.toNat ss).2 } := by unfold YE; rw [if_pos h0, eR, Int.toNat_natCast]
  have eV : YM A (j : Int) m = (ZN c m.toNat ss).1 := by unfold YM; rw [if_pos h0, eR]
  rw [eS, eV]
  obtain ⟨s1, s2, s3, s4, s5, s6⟩ := HG m.toNat (h.cen j c ss hk)
  refine ⟨⟨h.setCen hk s1 s2 fun t' ht' x hx => (s6 x).2 (.inr (h.trt j c ss t' hk ht' x hx)), Kp.pages rfl rfl rfl rfl, rfl⟩, rfl, s4, fun _ => ⟨j, rfl, hj⟩, fun x hx => ?_, fun i y => ?_⟩
  ·rw [Int.toNat_natCast, Qv hk]; exact s5 x hx
  ·rw [HS hk, s6, Int.toNat_natCast]
   by_cases hij : i = j
   ·subst hij; rw [Qv hk]
    constructor
    ·rintro (⟨_, hx | hx⟩ | ⟨hx, _⟩)
     ·exact .inr ⟨rfl, hx⟩
     ·exact .inl hx
     ·exact (hx rfl).elim
    ·rintro (hx | ⟨_, hx⟩)
     ·exact .inl ⟨rfl, .inr hx⟩
     ·exact .inl ⟨rfl, .inl hx⟩
   ·constructor
    ·rintro (⟨hx, _⟩ | ⟨_, hx⟩)
     ·exact (hij hx).elim
     ·exact .inl hx
    ·rintro (hx | ⟨hx, _⟩)
     ·exact .inr ⟨hij, hx⟩
     ·exact (hij hx).elim
 ·have eS : YE A k m = A := by unfold YE; rw [if_neg h0]
  have eV : YM A k m = [] := by unfold YM; rw [if_neg h0]
  rw [eS, eV]
  exact ⟨⟨h, Kp.refl A, rfl⟩, rfl, List.nodup_nil, by simp, by simp, by simp⟩
theorem Whk {xs : List Int} (h : AllT c ss xs) : putE c ss xs = 0 := by
 unfold putE
 have h1 : xs.any (fun x => (isTk c ss x).isNone) = false := by
  rw [List.any_eq_false]; intro x hx; rw [h.1 x hx]; simp
 have h2 : xs.any (fun x => isTk c ss x == some false) = false := by
  rw [List.any_eq_false]; intro x hx; rw [h.1 x hx]; simp
 rw [h1, h2, decide_eq_true h.2]; rfl
theorem Hl (h : GA A) (hk : Cl A k c ss) (xs : List Int) : Zn A (k : Int) xs = putE c ss xs := by
 unfold Zn
 rw [U4.2 ⟨k, rfl, hk.lt⟩, if_pos rfl, Int.toNat_natCast, hk.1, hk.2]
theorem Vf (h : GA A) {k : Int} {xs : List Int} (h0 : Zn A k xs = 0) : ∃ (j : Nat) (c : Cls) (ss : List SpA), k = j /\ Cl A j c ss /\ AllT c ss xs := by
 have hck : A.ck k = true := by
  unfold Zn at h0
  split at h0
  ·assumption
  ·cases h0
 obtain ⟨j, rfl, hj⟩ := U4.1 hck
 obtain ⟨c, ss, t, hk, ht⟩ := h.cl hj
 rw [Hl h hk] at h0
 exact ⟨j, c, ss, rfl, hk, Wc8 h0⟩
theorem Ui (h : GA A) {k : Int} {xs : List Int} (hd : Zn A k xs = 0 -> ∀ x ∈ xs, ¬ InT A k.toNat x) : Ob A (YF A k xs) /\ (YF A k xs).tra = A.tra ∧
 (Zn A k xs = 0 -> ∀ j y, TkA (YF A k xs) j y ↔ TkA A j y /\ ¬ (j = k.toNat /\ y ∈ xs)) /\ (Zn A k xs ≠ 0 -> YF A k xs = A) := by
 by_cases h0 : Zn A k xs = 0
 ·obtain ⟨j, c, ss, rfl, hk, hA⟩ := Vf h h0
  obtain ⟨p1, p2, p3⟩ := GH xs (h.cen j c ss hk) hA
  have g1 := h.setCen hk p1 p2 fun t ht x hx => (p3 x).2 ⟨h.trt j c ss t hk ht x hx, fun hm => hd h0 x hm ⟨t, by rw [Int.toNat_natCast]; exact ht, hx⟩⟩
  have hk1 := Ux hk (xs.foldl (put1 c) ss)
  have eS : YF A (j : Int) xs = swp { A with cen := A.cen.set j (xs.foldl (put1 c) ss) } j c (xs.foldl (put1 c) ss) := by
   unfold YF swp
   rw [if_pos h0, Int.toNat_natCast, hk.1, hk.2]
   simp only [List.set_set]
  have b := g1.swpB hk1
  rw [eS]
  refine ⟨⟨g1.swp hk1, (Kp.pages rfl rfl rfl rfl : Kp A { A with cen := A.cen.set j (xs.foldl (put1 c) ss) }).trans (g1.swpK hk1), b.runs⟩, b.tra, fun _ i y => ?_, fun hn => (hn h0).elim⟩
  rw [g1.swpT hk1, HS hk, p3, Int.toNat_natCast]
  by_cases hij : i = j
  ·subst hij; rw [Qv hk]
   constructor
   ·rintro (⟨_, hx, hy⟩ | ⟨hx, _⟩)
    ·exact ⟨hx, fun hz => hy hz.2⟩
    ·exact (hx rfl).elim
   ·rintro ⟨hx, hy⟩; exact .inl ⟨rfl, hx, fun hz => hy ⟨rfl, hz⟩⟩
  ·constructor
   ·rintro (⟨hx, _⟩ | ⟨_, hx⟩)
    ·exact (hij hx).elim
    ·exact ⟨hx, fun hz => hij hz.1⟩
   ·rintro ⟨hx, _⟩; exact .inr ⟨hij, hx⟩
 ·have eS : YF A k xs = A := by unfold YF; rw [if_neg h0]
  rw [eS]
  exact ⟨⟨h, Kp.refl A, rfl⟩, rfl, fun hx => (h0 hx).elim, fun _ => rfl⟩
theorem GA.setTra (h : GA A) {k : Nat} {t' : TrA} (h1 : t'.bs.flatten.Nodup) (h2 : ∀ x ∈ t'.bs.flatten, TkA A k x) (h3 : ∀ c, A.tb[k]? = some c -> ∀ xs ∈ t'.bs, xs.length = c.batch) : GA { A with tra := A.tra.set k t' } := by
 have get : ∀ {j t}, (A.tra.set k t')[j]? = some t -> (j = k /\ t = t') ∨ (j ≠ k /\ A.tra[j]? = some t) := by
  intro j t hj
  by_cases hjk : j = k
  ·subst hjk
   have hl : j < A.tra.length := by have := (List.getElem?_eq_some_iff.1 hj).1; simpa using this
   rw [List.getElem?_set_self hl] at hj
   exact .inl ⟨rfl, (Option.some.inj hj).symm⟩
  ·rw [List.getElem?_set_ne (Ne.symm hjk)] at hj; exact .inr ⟨hjk, hj⟩
 refine ⟨h.pg.same rfl rfl rfl rfl, h.tb, h.lc, by simp [h.lt], h.cen, h.one, h.ow, h.ow41, h.owb, h.rpos, h.rdis, fun j t hj => ?_, fun j c ss t hc hj x hx => ?_, fun j c t hc hj => ?_⟩
 ·rcases get hj with ⟨rfl, rfl⟩ | ⟨_, hj⟩
  ·exact h1
  ·exact h.trn j t hj
 ·rcases get hj with ⟨rfl, rfl⟩ | ⟨_, hj⟩
  ·exact (Qv hc).1 (h2 x hx)
  ·exact h.trt j c ss t hc hj x hx
 ·rcases get hj with ⟨rfl, rfl⟩ | ⟨_, hj⟩
  ·exact h3 c hc
  ·exact h.trb j c t hc hj
theorem Gn {t' : TrA} {j : Nat} {x : Int} (hk : k < A.tra.length) : InT { A with tra := A.tra.set k t' } j x ↔ (j = k /\ x ∈ t'.bs.flatten) ∨ (j ≠ k /\ InT A j x) := by
 by_cases hjk : j = k
 ·subst hjk
  have e0 : (A.tra.set j t')[j]? = some t' := List.getElem?_set_self hk
  constructor
  ·rintro ⟨t, e, hx⟩
   have e : (A.tra.set j t')[j]? = some t := e
   rw [e0] at e; cases e; exact .inl ⟨rfl, hx⟩
  ·rintro (⟨_, hx⟩ | ⟨hx, _⟩)
   ·exact ⟨_, e0, hx⟩
   ·exact (hx rfl).elim
 ·have e0 : (A.tra.set k t')[j]? = A.tra[j]? := List.getElem?_set_ne (Ne.symm hjk)
  constructor
  ·rintro ⟨t, e, hx⟩
   have e : (A.tra.set k t')[j]? = some t := e
   rw [e0] at e; exact .inr ⟨hjk, t, e, hx⟩
  ·rintro (⟨hx, _⟩ | ⟨_, t, e, hx⟩)
   ·exact (hjk hx).elim
   ·exact ⟨t, e0.trans e, hx⟩
theorem Vz {t : TrA} (ht : A.tra[k]? = some t) {x : Int} : InT A k x ↔ x ∈ t.bs.flatten := by
 constructor
 ·rintro ⟨t', e, hx⟩; rw [ht] at e; cases e; exact hx
 ·intro hx; exact ⟨t, ht, hx⟩
theorem Wao (h : GA A) (k : Int) : Ob A (Y4 A k) /\ (∀ j y, TkA (Y4 A k) j y ↔ TkA A j y) /\ (∀ x ∈ YP A k, InT A k.toNat x) /\ (YP A k).Nodup /\ (YP A k ≠ [] -> ∃ j : Nat, k = j /\ j < A.tb.length) ∧
 ∀ j y, InT (Y4 A k) j y ↔ InT A j y /\ ¬ (j = k.toNat /\ y ∈ YP A k) := by
 by_cases h0 : Z4 A k = 0
 ·have hck : A.ck k = true := by
   unfold Z4 at h0
   split at h0
   ·assumption
   ·cases h0
  obtain ⟨j, rfl, hj⟩ := U4.1 hck
  obtain ⟨c, ss, t, hk, ht⟩ := h.cl hj
  have hne : t.bs ≠ [] := by
   intro e
   unfold Z4 at h0
   rw [hck, if_pos rfl, Int.toNat_natCast, ht] at h0
   simp [e] at h0
  have eS : Y4 A (j : Int) = { A with tra := A.tra.set j t.rem } := by unfold Y4; rw [if_pos h0, Int.toNat_natCast, HF ht]
  have eV : YP A (j : Int) = t.bs.getLast?.getD [] := by unfold YP; rw [if_pos h0, Int.toNat_natCast, ht]
  have hsp : t.bs = t.bs.dropLast ++ [t.bs.getLast hne] := (List.dropLast_concat_getLast hne).symm
  have hv : YP A (j : Int) = t.bs.getLast hne := by rw [eV, List.getLast?_eq_some_getLast hne]; rfl
  have hfl : t.bs.flatten = t.bs.dropLast.flatten ++ t.bs.getLast hne := by
   conv => lhs; rw [hsp]
   simp
  have hnd := h.trn j t ht
  rw [hfl] at hnd
  have hnd' := List.nodup_append.1 hnd
  have hrem : t.rem.bs = t.bs.dropLast := rfl
  rw [eS, hv]
  refine ⟨⟨h.setTra (by rw [hrem]; exact hnd'.1) (fun x hx => (Qv hk).2 (h.trt j c ss t hk ht x (by rw [hfl]; exact List.mem_append_left _ hx))) fun c' hc' xs hxs => h.trb j c' t hc' ht xs ((List.dropLast_sublist _).subset hxs), Kp.pages rfl rfl rfl rfl, rfl⟩, fun _ _ => Iff.rfl, fun x hx => ?_, hnd'.2.1, fun _ => ⟨j, rfl, hj⟩, fun i y => ?_⟩
  ·rw [Int.toNat_natCast, Vz ht, hfl]; exact List.mem_append_right _ hx
  ·rw [Gn (by rw [h.lt]; exact hj), hrem, Int.toNat_natCast]
   by_cases hij : i = j
   ·subst hij; rw [Vz ht, hfl, List.mem_append]
    constructor
    ·rintro (⟨_, hx⟩ | ⟨hx, _⟩)
     ·exact ⟨.inl hx, fun hy => hnd'.2.2 y hx y hy.2 rfl⟩
     ·exact (hx rfl).elim
    ·rintro ⟨hx | hx, hy⟩
     ·exact .inl ⟨rfl, hx⟩
     ·exact (hy ⟨rfl, hx⟩).elim
   ·constructor
    ·rintro (⟨hx, _⟩ | ⟨_, hx⟩)
     ·exact (hij hx).elim
     ·exact ⟨hx, fun hy => hij hy.1⟩
    ·rintro ⟨hx, _⟩; exact .inr ⟨hij, hx⟩
 ·have eS : Y4 A k = A := by unfold Y4; rw [if_neg h0]
  have eV : YP A k = [] := by unfold YP; rw [if_neg h0]
  rw [eS, eV]
  exact ⟨⟨h, Kp.refl A, rfl⟩, fun _ _ => Iff.rfl, by simp, List.nodup_nil, by simp, by simp⟩
theorem WgK (h : GA A) (k : Int) {xs : List Int} (hn : xs.Nodup) (hd : ∀ x ∈ xs, ¬ InT A k.toNat x) : Ob A (QA A k xs) /\ (∀ j y, TkA (QA A k xs) j y ↔ TkA A j y) ∧
 (KQ A k xs = true -> (∃ j : Nat, k = j /\ j < A.tb.length) /\ (∀ x ∈ xs, TkA A k.toNat x) /\ ∀ j y, InT (QA A k xs) j y ↔ InT A j y ∨ (j = k.toNat /\ y ∈ xs)) /\ (KQ A k xs = false -> QA A k xs = A) := by
 by_cases h0 : KQ A k xs = true
 ·have hE : Vu A k xs = 0 := by
   unfold KQ at h0
   simp only [Bool.and_eq_true, decide_eq_true_eq] at h0
   exact h0.1
  have hck : A.ck k = true := by
   unfold Vu at hE
   split at hE
   ·assumption
   ·cases hE
  obtain ⟨j, rfl, hj⟩ := U4.1 hck
  obtain ⟨c, ss, t, hk, ht⟩ := h.cl hj
  have hE' := hE
  unfold Vu at hE'
  rw [hck, if_pos rfl, Int.toNat_natCast, hk.1, hk.2] at hE'
  simp only at hE'
  have hlen : xs.length = c.batch := by
   apply Classical.byContradiction; intro hx; rw [if_neg hx] at hE'; cases hE'
  rw [if_pos hlen] at hE'
  have htk : ∀ x ∈ xs, TkA A j x := by
   intro x hx
   split at hE'
   ·rename_i ha
    rw [List.all_eq_true] at ha
    rw [Qv hk]
    simpa [Tk] using ha x hx
   ·cases hE'
  have eS : QA A (j : Int) xs = { A with tra := A.tra.set j { t with bs := t.bs ++ [xs] } } := by unfold QA; rw [if_pos h0, Int.toNat_natCast, HF ht]
  have hfl : (t.bs ++ [xs]).flatten = t.bs.flatten ++ xs := by simp
  rw [eS]
  refine ⟨⟨h.setTra ?_ ?_ ?_, Kp.pages rfl rfl rfl rfl, rfl⟩, fun _ _ => Iff.rfl, fun _ => ⟨⟨j, rfl, hj⟩, by rw [Int.toNat_natCast]; exact htk, fun i y => ?_⟩, fun hf => by rw [hf] at h0; cases h0⟩
  ·show (t.bs ++ [xs]).flatten.Nodup
   rw [hfl, List.nodup_append]
   exact ⟨h.trn j t ht, hn, fun a ha b hb e => hd b hb (by subst e; rw [Int.toNat_natCast, Vz ht]; exact ha)⟩
  ·intro x hx
   have hx : x ∈ (t.bs ++ [xs]).flatten := hx
   rw [hfl, List.mem_append] at hx
   rcases hx with hx | hx
   ·exact (Qv hk).2 (h.trt j c ss t hk ht x hx)
   ·exact htk x hx
  ·intro c' hc' ys hys
   have hys : ys ∈ t.bs ++ [xs] := hys
   rcases List.mem_append.1 hys with hys | hys
   ·exact h.trb j c' t hc' ht ys hys
   ·simp only [List.mem_singleton] at hys
    rw [hk.1] at hc'; cases hc'
    rw [hys]; exact hlen
  ·rw [Gn (by rw [h.lt]; exact hj), Int.toNat_natCast]
   show (i = j /\ y ∈ (t.bs ++ [xs]).flatten) ∨ _ ↔ _
   rw [hfl, List.mem_append]
   by_cases hij : i = j
   ·subst hij; rw [Vz ht]
    constructor
    ·rintro (⟨_, hx | hx⟩ | ⟨hx, _⟩)
     ·exact .inl hx
     ·exact .inr ⟨rfl, hx⟩
     ·exact (hx rfl).elim
    ·rintro (hx | ⟨_, hx⟩)
     ·exact .inl ⟨rfl, .inl hx⟩
     ·exact .inl ⟨rfl, .inr hx⟩
   ·constructor
    ·rintro (⟨hx, _⟩ | ⟨_, hx⟩)
     ·exact (hij hx).elim
     ·exact .inl hx
    ·rintro (hx | ⟨hx, _⟩)
     ·exact .inr ⟨hij, hx⟩
     ·exact (hij hx).elim
 ·have eS : QA A k xs = A := by unfold QA; rw [if_neg h0]
  rw [eS]
  exact ⟨⟨h, Kp.refl A, rfl⟩, fun _ _ => Iff.rfl, fun hx => (h0 hx).elim, fun _ => rfl⟩
end Go.Ar
namespace Go.Ar
open Go.Bu (XV YZ runS Xu Hb allF Qy Q7 give take ZZ ZU Bounded full can Yi Q5 YR ZF YV ZY ZH Zb Kj K4 take_in)


variable {A : AR} {sp : Sp} {k : Nat} {c : Cls} {ss : List SpA}
structure Ow (A : AR) (sp : Sp) : Prop where
 l : sp.st.length = A.n
 own : ∀ p, A.f p ≠ 0 -> gf sp.st p ≠ 0
 cl : ∀ p, A.f p = 3 -> gf sp.st p = 1
 le : ∀ p, gf sp.st p <= 2
structure St (A B : AR) (sp sp' : Sp) : Prop where
 ga : GA B
 ow : Ow B sp'
 n : B.n = A.n
 tb : B.tb = A.tb
 room : B.room = A.room
 same : ∀ p, A.f p = 0 -> B.f p = 0 -> gf sp'.st p = gf sp.st p
 gone : ∀ p, A.f p ≠ 0 -> B.f p = 0 -> gf sp'.st p = 0
 new : ∀ p, A.f p = 0 -> B.f p ≠ 0 -> gf sp.st p = 0 /\ 16 <= p
theorem St.refl (h : GA A) (hw : Ow A sp) : St A A sp sp := ⟨h, hw, rfl, rfl, rfl, fun _ _ _ => rfl, fun p h1 h2 => (h1 h2).elim, fun p h1 h2 => (h2 h1).elim⟩
theorem Ow.len {B C : AR} {sp sp' : Sp} (h : Ow B sp) (k : Ow C sp') (e : C.n = B.n) : sp'.st.length = sp.st.length := by rw [h.l, k.l, e]
theorem St.trans {B C : AR} {sp' sp'' : Sp} (h : St A B sp sp') (k : St B C sp' sp'') : St A C sp sp'' := by
 refine ⟨k.ga, k.ow, k.n.trans h.n, k.tb.trans h.tb, k.room.trans h.room, fun p hA hC => ?_, fun p hA hC => ?_, fun p hA hC => ?_⟩
 ·by_cases hB : B.f p = 0
  ·rw [k.same p hB hC, h.same p hA hB]
  ·rw [k.gone p hB hC, (h.new p hA hB).1]
 ·by_cases hB : B.f p = 0
  ·rw [k.same p hB hC, h.gone p hA hB]
  ·exact k.gone p hB hC
 ·by_cases hB : B.f p = 0
  ·have := k.new p hB hC
   rw [h.same p hA hB] at this; exact this
  ·exact h.new p hA hB
theorem Ow.kp {B : AR} (hw : Ow A sp) (h : Kp A B) : Ow B sp := ⟨hw.l.trans h.n.symm, fun p hp => hw.own p fun e => hp ((h.z p).2 e), fun p hp => hw.cl p (h.t p hp), hw.le⟩
theorem St.kp {B : AR} (hg : GA B) (hw : Ow A sp) (h : Kp A B) : St A B sp sp :=
 ⟨hg, hw.kp h, h.n, h.tb, h.room, fun _ _ _ => rfl, fun p h1 h2 => (h1 ((h.z p).1 h2)).elim, fun p h1 h2 => (h2 ((h.z p).2 h1)).elim⟩
theorem Ob.st {B : AR} (o : Ob A B) (hw : Ow A sp) : St A B sp sp := St.kp o.ga hw o.kp
theorem GA.grown (h : GA A) {B : AR} {sp' : Sp} {s size : Nat} (g : Grown A B sp sp' s size) : GA B := by
 have e : ∀ {j d tt}, Cl B j d tt ↔ Cl A j d tt := fun {j d tt} => by unfold Cl; rw [g.tb, g.cen]
 exact ⟨g.pg, by rw [g.tb]; exact h.tb, by rw [g.cen, g.tb]; exact h.lc, by rw [g.tra, g.tb]; exact h.lt, fun j d tt hj => h.cen j d tt (e.1 hj), fun j d tt hj => h.one j d tt (e.1 hj), fun j d tt hj p => by rw [g.ow]; exact h.ow j d tt (e.1 hj) p,
  fun p => by rw [g.ow, g.runs]; exact h.ow41 p, fun p => by rw [g.ow, g.tb]; exact h.owb p, by rw [g.runs]; exact h.rpos, by rw [g.runs]; exact h.rdis, by rw [g.tra]; exact h.trn, fun j d tt t hj ht => h.trt j d tt t (e.1 hj) (by rw [← g.tra]; exact ht), by rw [g.tb, g.tra]; exact h.trb⟩
theorem Grown.st (h : GA A) (hw : Ow A sp) {B : AR} {sp' : Sp} {s size : Nat} (g : Grown A B sp sp' s size) : St A B sp sp' := by
 have hin : ∀ p, B.f p ≠ A.f p -> s <= p /\ p < s + size := fun p hp => by
  apply Classical.byContradiction; intro hn; exact hp (g.o p hn).1
 refine ⟨h.grown g, ⟨g.l.trans (hw.l.trans g.n.symm), fun p hp => ?_, fun p hp => ?_, fun p => ?_⟩, g.n, g.tb, g.room, fun p h1 h2 => ?_, fun p h1 h2 => ?_, fun p h1 h2 => ?_⟩
 ·by_cases hi : s <= p /\ p < s + size
  ·rw [(g.i p hi.1 hi.2).2]; omega
  ·rw [(g.o p hi).2]; rw [(g.o p hi).1] at hp; exact hw.own p hp
 ·by_cases hi : s <= p /\ p < s + size
  ·rw [(g.i p hi.1 hi.2).2]
  ·rw [(g.o p hi).2]; rw [(g.o p hi).1] at hp; exact hw.cl p hp
 ·by_cases hi : s <= p /\ p < s + size
  ·rw [(g.i p hi.1 hi.2).2]; omega
  ·rw [(g.o p hi).2]; exact hw.le p
 ·refine (g.o p fun hi => ?_).2
  rw [(g.i p hi.1 hi.2).1] at h2; omega
 ·have := hin p (by omega)
  rw [(g.i p this.1 this.2).1] at h2; omega
 ·have := hin p (by omega)
  exact ⟨g.un p this.1 this.2, by have := g.s1; omega⟩
theorem WaN {n : Nat} {S : Nat -> Bool} (hb : Bounded S n) (hn : n <= 1024) {j q m a : Nat} (hf : full S j q = true) (hm : m <= 2 ^ j) (ha : a <= 2 ^ j) : Xu n S m a ≠ none := by
 intro h0
 have hp : S (q * 2 ^ j) = true := Yi.1 hf _ (Nat.mul_div_cancel _ (Nat.two_pow_pos j))
 obtain ⟨i, hi⟩ := Q5 hb hp
 have hij : j <= i := by
  apply Classical.byContradiction
  intro hlt
  exact ZF hi hf rfl (Nat.mul_div_cancel _ (Nat.two_pow_pos j)) (by omega)
 have hfb := YV hb (YR.1 hi).1
 have hi10 : i < 11 := by
  apply Classical.byContradiction
  intro hge
  have : 2 ^ 11 <= 2 ^ i := Nat.pow_le_pow_right (by omega) (by omega)
  omega
 have hpow : 2 ^ j <= 2 ^ i := Nat.pow_le_pow_right (by omega) hij
 have := K4 h0 i hi10 (by omega) (by omega)
 have hmem := (ZH hb (k := i)).2 ⟨_, rfl, hi⟩
 rw [this] at hmem
 simp at hmem
theorem U7 (m : Nat) : ZQ m = 16 ∨ ZQ m = 32 ∨ ZQ m = 64 := by
 unfold ZQ; split
 ·exact .inl rfl
 ·split
  ·exact .inr (.inl rfl)
  ·exact .inr (.inr rfl)
theorem Wd3 {m : Nat} (h : m <= 64) : m <= ZQ m := by
 unfold ZQ; split
 ·omega
 ·split <;> omega
theorem HP (h : GA A) (hw : Ow A sp) {m a no : Nat} (h1 : 1 <= m) (h2 : m <= 64) (ha : 1 <= a /\ a <= 16) :
 (getA A sp m a no = (none, A, sp) /\ Xu A.n A.S m a = none /\ Zw sp (ZQ (max m a)) = none) ∨
 ∃ x A1 sp1, getA A sp m a no = (some x, useA A1 x m no, sp1) /\ Xu A1.n A1.S m a = some x /\ (A1 = A /\ sp1 = sp ∨ Xu A.n A.S m a = none /\ ∃ s, Zw sp (ZQ (max m a)) = some s /\ Grown A A1 sp sp1 s (ZQ (max m a))) := by
 cases ht : Xu A.n A.S m a with
 | some x => exact .inr ⟨x, A, sp, by unfold getA; rw [ht], ht, .inl ⟨rfl, rfl⟩⟩
 | none =>
  cases hg : Vp A sp (ZQ (max m a)) with
  | none =>
   refine .inl ⟨by unfold getA; rw [ht, hg], rfl, ?_⟩
   unfold Vp at hg
   split at hg
   ·assumption
   ·cases hg
  | some r =>
   obtain ⟨A1, sp1⟩ := r
   obtain ⟨s, hs, g⟩ := WeO h.pg hw.l (fun p hp => Classical.byContradiction fun hn => hw.own p hn hp) (U7 _) hg
   have hne : Xu A1.n A1.S m a ≠ none := by
    have hle := Wd3 (m := max m a) (by omega)
    obtain ⟨_, _, ⟨i, hi⟩, _⟩ := KW (by have := U7 (max m a); omega) hs
    have key : ∃ j, ZQ (max m a) = 2 ^ j := by
     rcases U7 (max m a) with e | e | e
     ·exact ⟨4, e⟩
     ·exact ⟨5, e⟩
     ·exact ⟨6, e⟩
    obtain ⟨j, hj⟩ := key
    refine WaN g.pg.bnd g.pg.n2 (j := j) (q := i) (Yi.2 fun p hp => ?_) (by omega) (by omega)
    rw [g.pg.fr]
    rw [Zb, ← hj, ← hi] at hp
    rw [(g.i p hp.1 hp.2).1]; omega
   obtain ⟨x, hx⟩ := Option.ne_none_iff_exists'.1 hne
   exact .inr ⟨x, A1, sp1, by unfold getA; rw [ht, hg]; simp only; rw [hx], hx, .inr ⟨rfl, s, hs, g⟩⟩
theorem GD (h : PG A) {m a x : Nat} (hx : Xu A.n A.S m a = some x) : ∀ p, x <= p -> p < x + m -> A.S p = true := fun p p1 p2 => (take_in h.bnd hx).2 p p1 p2
theorem WeY (h : PG A) {m a x : Nat} (h1 : 1 <= m) (h4 : m <= 4) (hx : Xu A.n A.S m a = some x) : x / 16 = (x + m - 1) / 16 := by
 obtain ⟨j, _, hm, _, hh, _⟩ := Kj hx
 obtain ⟨q, rfl, hc⟩ := (ZH h.bnd).1 (List.mem_of_head? hh)
 match j, hm with
 | 0, hm => have : m = 1 := by omega
            subst this; rfl
 | 1, hm => have : m <= 2 := by omega
            simp only [Nat.pow_one] at *
            omega
 | j + 2, hm =>
  have e : 2 ^ (j + 2) = 4 * 2 ^ j := by rw [Nat.pow_add]; omega
  rw [e, ← Nat.mul_assoc, Nat.mul_comm q 4, Nat.mul_assoc]
  generalize q * 2 ^ j = z
  omega
theorem Wep (h : PG A) {a m no : Nat} (h1 : 1 <= m) (hn : no ≠ 0) (hS : ∀ p, a <= p -> p < a + m -> A.S p = true) : Kp A (useA A a m no) := by
 obtain ⟨o, hi, hpg, hz⟩ := Way h h1 hn hS
 refine ⟨rfl, rfl, rfl, hz, fun p hp => ?_⟩
 by_cases hin : a <= p /\ p < a + m
 ·rw [(hi p hin.1 hin.2).1] at hp; omega
 ·rw [o.f p hin] at hp; exact hp
theorem GA.addSpan (h : GA A) (hk : Cl A k c ss) {x : Nat} (hS : ∀ p, x <= p -> p < x + c.pages -> A.S p = true) (h1 : x / 16 = (x + c.pages - 1) / 16) :
 GA { useA A x c.pages (k + 1) with cen := (useA A x c.pages (k + 1)).cen.set k (addS c ss x) } /\ (∀ s ∈ ss, s.st + c.pages <= x ∨ x + c.pages <= s.st) := by
 have hC := h.cen k c ss hk
 have hpg := hC.pg
 have hkl := hk.lt
 have htb := h.tb
 obtain ⟨o, hi, pg, hz⟩ := Way h.pg hpg (no := k + 1) (by omega) hS
 have hA : ∀ p, x <= p -> p < x + c.pages -> A.ow p = 0 := fun p p1 p2 => by
  have h2 := (h.pg.fr p).1 (hS p p1 p2)
  apply Classical.byContradiction; intro hne
  have := (h.pg.us p).2 hne; omega
 have hd : ∀ s ∈ ss, s.st + c.pages <= x ∨ x + c.pages <= s.st := fun s hs => by
  apply Classical.byContradiction
  intro hn
  have h2 := hA (max x s.st) (by omega) (by omega)
  have := (h.used hk hs (p := max x s.st) (by omega) (by omega)).2
  omega
 refine ⟨?_, hd⟩
 have hk' : Cl (useA A x c.pages (k + 1)) k c ss := hk
 refine ⟨pg.same rfl rfl rfl rfl, h.tb, by show (A.cen.set k _).length = _; simp [h.lc]; rfl, h.lt, fun j d tt hj => ?_, fun j d tt hj s hs => ?_, fun j d tt hj p => ?_, fun p => ?_, fun p => ?_, h.rpos, h.rdis, h.trn, fun j d tt t hj ht => ?_, h.trb⟩
 ·rcases KA hk' hj with ⟨rfl, rfl, rfl⟩ | ⟨hne, hj⟩
  ·exact WcA hC hd
  ·exact h.cen j d tt hj
 ·rcases KA hk' hj with ⟨rfl, rfl, rfl⟩ | ⟨hne, hj⟩
  ·rcases Kd.1 hs with rfl | hs
   ·exact h1
   ·exact h.one _ _ _ hk s hs
  ·exact h.one j d tt hj s hs
 ·show (useA A x c.pages (k + 1)).ow p = j + 1 ↔ _
  by_cases hp : x <= p /\ p < x + c.pages
  ·rw [(hi p hp.1 hp.2).2]
   rcases KA hk' hj with ⟨rfl, rfl, rfl⟩ | ⟨hne, hj⟩
   ·exact ⟨fun _ => ⟨_, Kd.2 (.inl rfl), hp.1, hp.2⟩, fun _ => rfl⟩
   ·rw [← h.ow j d tt hj p, hA p hp.1 hp.2]; omega
  ·rw [o.ow p hp]
   rcases KA hk' hj with ⟨rfl, rfl, rfl⟩ | ⟨hne, hj⟩
   ·rw [h.ow _ _ _ hk p]
    constructor
    ·rintro ⟨s, hs, h3⟩; exact ⟨s, Kd.2 (.inr hs), h3⟩
    ·rintro ⟨s, hs, h3⟩
     rcases Kd.1 hs with rfl | hs
     ·exact (hp h3).elim
     ·exact ⟨s, hs, h3⟩
   ·exact h.ow j d tt hj p
 ·show (useA A x c.pages (k + 1)).ow p = 41 ↔ inR A.runs p
  by_cases hp : x <= p /\ p < x + c.pages
  ·rw [(hi p hp.1 hp.2).2, ← h.ow41, hA p hp.1 hp.2]; omega
  ·rw [o.ow p hp]; exact h.ow41 p
 ·show (useA A x c.pages (k + 1)).ow p = 41 ∨ (useA A x c.pages (k + 1)).ow p <= A.tb.length
  by_cases hp : x <= p /\ p < x + c.pages
  ·rw [(hi p hp.1 hp.2).2]; omega
  ·rw [o.ow p hp]; exact h.owb p
 ·rcases KA hk' hj with ⟨rfl, rfl, rfl⟩ | ⟨hne, hj⟩
  ·intro y hy; exact (WdJ hC hd).2 (h.trt _ _ _ t hk ht y hy)
  ·exact h.trt j d tt t hj ht
theorem GA.addRun (h : GA A) {x m : Nat} (hm : 1 <= m) (hS : ∀ p, x <= p -> p < x + m -> A.S p = true) : GA { useA A x m 41 with runs := A.runs ++ [(x, m)] } := by
 have htb := h.tb
 obtain ⟨o, hi, pg, hz⟩ := Way h.pg hm (no := 41) (by omega) hS
 have hA : ∀ p, x <= p -> p < x + m -> A.ow p = 0 := fun p p1 p2 => by
  have h2 := (h.pg.fr p).1 (hS p p1 p2)
  apply Classical.byContradiction; intro hne
  have := (h.pg.us p).2 hne; omega
 refine ⟨pg.same rfl rfl rfl rfl, h.tb, h.lc, h.lt, h.cen, h.one, fun j d tt hj p => ?_, fun p => ?_, fun p => ?_, fun r hr => ?_, ?_, h.trn, h.trt, h.trb⟩
 ·have hj : Cl A j d tt := hj
  have := hj.lt
  show (useA A x m 41).ow p = j + 1 ↔ _
  by_cases hp : x <= p /\ p < x + m
  ·rw [(hi p hp.1 hp.2).2, ← h.ow j d tt hj p, hA p hp.1 hp.2]; omega
  ·rw [o.ow p hp]; exact h.ow j d tt hj p
 ·show (useA A x m 41).ow p = 41 ↔ inR (A.runs ++ [(x, m)]) p
  by_cases hp : x <= p /\ p < x + m
  ·rw [(hi p hp.1 hp.2).2]
   exact ⟨fun _ => ⟨(x, m), by simp, hp⟩, fun _ => rfl⟩
  ·rw [o.ow p hp, h.ow41]
   constructor
   ·rintro ⟨r, hr, h3⟩; exact ⟨r, by simp [hr], h3⟩
   ·rintro ⟨r, hr, h3⟩
    rcases List.mem_append.1 hr with hr | hr
    ·exact ⟨r, hr, h3⟩
    ·simp only [List.mem_singleton] at hr; subst hr; exact (hp h3).elim
 ·show (useA A x m 41).ow p = 41 ∨ (useA A x m 41).ow p <= A.tb.length
  by_cases hp : x <= p /\ p < x + m
  ·rw [(hi p hp.1 hp.2).2]; omega
  ·rw [o.ow p hp]; exact h.owb p
 ·rcases List.mem_append.1 hr with hr | hr
  ·exact h.rpos r hr
  ·simp only [List.mem_singleton] at hr; subst hr; exact hm
 ·refine List.pairwise_append.2 ⟨h.rdis, by simp, fun r hr s hs => ?_⟩
  simp only [List.mem_singleton] at hs; subst hs
  apply Classical.byContradiction
  intro hn
  simp only at hn
  have := h.rpos r hr
  have h2 := hA (max x r.1) (by omega) (by omega)
  have := (h.usedR hr (p := max x r.1) (by omega) (by omega)).2
  omega
theorem WcM {l : List (Nat × Nat)} {x m : Nat} (h : ∀ r ∈ l, r.1 ≠ x) : YO.mset2 l x m = l ++ [(x, m)] := by
 unfold YO.mset2
 rw [if_neg]
 simp only [List.any_eq_true, beq_iff_eq, not_exists, not_and]
 exact h
theorem Wax (h : GA A) (hw : Ow A sp) (k : Int) :
 ((Z0 A sp k = (A, sp)) /\ Kt A sp k ≠ 0) ∨
 ∃ (j : Nat) (c : Cls) (ss : List SpA) (x : Nat) (A1 : AR) (sp1 : Sp), k = j /\ Cl A j c ss /\ Cl A1 j c ss /\ Kt A sp k = 0 /\ Z0 A sp k = ({ useA A1 x c.pages (j + 1) with cen := (useA A1 x c.pages (j + 1)).cen.set j (addS c ss x) }, sp1) ∧
  St A A1 sp sp1 /\ A1.runs = A.runs /\ A1.tra = A.tra /\ A1.cen = A.cen /\ Xu A1.n A1.S c.pages 1 = some x /\ (∀ s ∈ ss, s.st + c.pages <= x ∨ x + c.pages <= s.st) /\ St A (Z0 A sp k).1 sp (Z0 A sp k).2 := by
 by_cases hck : A.ck k = true
 ·obtain ⟨j, rfl, hj⟩ := U4.1 hck
  obtain ⟨c, ss, t, hk, ht⟩ := h.cl hj
  have hC := h.cen j c ss hk
  have hok := hC.ok
  unfold Cls.ok at hok
  have hkl := hk.lt
  rcases HP h hw (m := c.pages) (a := 1) (no := j + 1) (by omega) (by omega) (by omega) with ⟨hg, _⟩ | ⟨x, A1, sp1, hg, htk, hor⟩
  ·left
   have eE : Kt A sp (j : Int) = 6 := by unfold Kt; rw [hck, if_pos rfl, Int.toNat_natCast, hk.1, hk.2]; simp only; rw [hg]
   have eS : Z0 A sp (j : Int) = (A, sp) := by unfold Z0; rw [hck, if_pos rfl, Int.toNat_natCast, hk.1, hk.2]; simp only; rw [hg]
   rw [eS, eE]
   exact ⟨rfl, by simp⟩
  ·right
   have eE : Kt A sp (j : Int) = Ua c ss x := by unfold Kt; rw [hck, if_pos rfl, Int.toNat_natCast, hk.1, hk.2]; simp only; rw [hg]
   have g1 : GA A1 := by
    rcases hor with ⟨rfl, rfl⟩ | ⟨_, s, _, g⟩
    ·exact h
    ·exact h.grown g
   have hst : St A A1 sp sp1 := by
    rcases hor with ⟨rfl, rfl⟩ | ⟨_, s, _, g⟩
    ·exact St.refl h hw
    ·exact g.st h hw
   have hfr : A1.runs = A.runs /\ A1.tra = A.tra /\ A1.cen = A.cen := by
    rcases hor with ⟨rfl, rfl⟩ | ⟨_, s, _, g⟩
    ·exact ⟨rfl, rfl, rfl⟩
    ·exact ⟨g.runs, g.tra, g.cen⟩
   have hk1 : Cl A1 j c ss := ⟨by rw [hst.tb]; exact hk.1, by rw [hfr.2.2]; exact hk.2⟩
   have hS := GD g1.pg htk
   obtain ⟨g2, hd⟩ := g1.addSpan hk1 hS (WeY g1.pg (by omega) (by omega) htk)
   have e0 := WeS hd
   have eS' : Z0 A sp (j : Int) = ({ useA A1 x c.pages (j + 1) with cen := (useA A1 x c.pages (j + 1)).cen.set j (addS c ss x) }, sp1) := by
    unfold Z0; rw [hck, if_pos rfl, Int.toNat_natCast, hk.1, hk.2]; simp only; rw [hg]; simp only; rw [if_pos e0]
   refine ⟨j, c, ss, x, A1, sp1, rfl, hk, hk1, by rw [eE]; exact e0, eS', hst, hfr.1, hfr.2.1, hfr.2.2, htk, hd, ?_⟩
   rw [eS']
   have kp := Wep g1.pg (no := j + 1) (by omega) (by omega) hS
   exact hst.trans (St.kp g2 hst.ow (kp.trans (Kp.pages rfl rfl rfl rfl)))
 ·left
  have hck' : A.ck k = false := by simpa using hck
  unfold Z0 Kt
  rw [hck']
  exact ⟨rfl, by simp⟩
theorem HZ (h : GA A) (hw : Ow A sp) (k : Int) : St A (Z0 A sp k).1 sp (Z0 A sp k).2 /\ (Z0 A sp k).1.runs = A.runs /\ (Z0 A sp k).1.tra = A.tra /\ (∀ j y, TkA (Z0 A sp k).1 j y ↔ TkA A j y) /\ (Kt A sp k ≠ 0 -> Z0 A sp k = (A, sp)) := by
 rcases Wax h hw k with ⟨e, _⟩ | ⟨j, c, ss, x, A1, sp1, rfl, hk, hk1, hE, e, hst, r1, r2, r3, _, hd, hS⟩
 ·rw [e]; exact ⟨St.refl h hw, rfl, rfl, fun _ _ => Iff.rfl, fun _ => rfl⟩
 ·refine ⟨hS, by rw [e]; exact r1, by rw [e]; exact r2, fun i y => ?_, fun hn => (hn hE).elim⟩
  rw [e]
  have hk2 : Cl (useA A1 x c.pages (j + 1)) j c ss := hk1
  rw [HS hk2, WdJ (h.cen j c ss hk) hd]
  have e2 : TkA (useA A1 x c.pages (j + 1)) i y ↔ TkA A i y := by
   have : (useA A1 x c.pages (j + 1)).tb = A.tb /\ (useA A1 x c.pages (j + 1)).cen = A.cen := ⟨hst.tb, r3⟩
   unfold TkA Cl; rw [this.1, this.2]
  rw [e2]
  by_cases hij : i = j
  ·subst hij; rw [Qv hk]
   exact ⟨fun hx => by rcases hx with ⟨_, hx⟩ | ⟨hx, _⟩; exact hx; exact (hx rfl).elim, fun hx => .inl ⟨rfl, hx⟩⟩
  ·exact ⟨fun hx => by rcases hx with ⟨hx, _⟩ | ⟨_, hx⟩; exact (hij hx).elim; exact hx, fun hx => .inr ⟨hij, hx⟩⟩
theorem UX {m a : Int} (h : Qb m a = true) : ∃ x y : Nat, m = x /\ a = y /\ 1 <= x /\ x <= 64 /\ (y = 1 ∨ y = 2 ∨ y = 4 ∨ y = 8 ∨ y = 16) := by
 unfold Qb at h
 simp only [Bool.and_eq_true, decide_eq_true_eq, Bool.or_eq_true, beq_iff_eq] at h
 exact ⟨m.toNat, a.toNat, by omega, by omega, by omega, by omega, by omega⟩
theorem QE (h : GA A) (hw : Ow A sp) (m a : Int) :
 (YO A sp m a = (A, sp) /\ ZS A sp m a ≠ 0 /\ (Qb m a = true -> ZS A sp m a = 6 /\ Xu A.n A.S m.toNat a.toNat = none /\ Zw sp (ZQ (max m.toNat a.toNat)) = none)) ∨
 ∃ (x : Nat) (A1 : AR) (sp1 : Sp), Qb m a = true /\ ZS A sp m a = 0 /\ Q1 A sp m a = x /\ YO A sp m a = ({ useA A1 x m.toNat 41 with runs := A.runs ++ [(x, m.toNat)] }, sp1) ∧
  Xu A1.n A1.S m.toNat a.toNat = some x /\ (A1 = A /\ sp1 = sp ∨ Xu A.n A.S m.toNat a.toNat = none /\ ∃ s, Zw sp (ZQ (max m.toNat a.toNat)) = some s /\ Grown A A1 sp sp1 s (ZQ (max m.toNat a.toNat))) ∧
  St A (YO A sp m a).1 sp (YO A sp m a).2 /\ (YO A sp m a).1.tra = A.tra /\ (∀ j y, TkA (YO A sp m a).1 j y ↔ TkA A j y) := by
 by_cases hp : Qb m a = true
 ·obtain ⟨m', a', rfl, rfl, h1, h2, h3⟩ := UX hp
  have eE : ZS A sp (m' : Int) (a' : Int) = if (getA A sp m' a' 41).1.isSome then 0 else 6 := by unfold ZS; rw [if_pos hp, Int.toNat_natCast, Int.toNat_natCast]
  have eV : Q1 A sp (m' : Int) (a' : Int) = (getA A sp m' a' 41).1.getD 0 := by unfold Q1; rw [if_pos hp, Int.toNat_natCast, Int.toNat_natCast]
  rcases HP h hw (m := m') (a := a') (no := 41) h1 h2 (by omega) with ⟨hg, hn1, hn2⟩ | ⟨x, A1, sp1, hg, htk, hor⟩
  ·left
   have eS : YO A sp (m' : Int) (a' : Int) = (A, sp) := by unfold YO; rw [if_pos hp, Int.toNat_natCast, Int.toNat_natCast, hg]
   rw [eS, eE, hg, Int.toNat_natCast, Int.toNat_natCast]
   exact ⟨rfl, by simp, fun _ => ⟨rfl, hn1, hn2⟩⟩
  ·right
   have g1 : GA A1 := by
    rcases hor with ⟨rfl, rfl⟩ | ⟨_, s, _, g⟩
    ·exact h
    ·exact h.grown g
   have hst : St A A1 sp sp1 := by
    rcases hor with ⟨rfl, rfl⟩ | ⟨_, s, _, g⟩
    ·exact St.refl h hw
    ·exact g.st h hw
   have hfr : A1.runs = A.runs /\ A1.tra = A.tra /\ A1.cen = A.cen := by
    rcases hor with ⟨rfl, rfl⟩ | ⟨_, s, _, g⟩
    ·exact ⟨rfl, rfl, rfl⟩
    ·exact ⟨g.runs, g.tra, g.cen⟩
   have hS := GD g1.pg htk
   have hnew : ∀ r ∈ A.runs, r.1 ≠ x := fun r hr e => by
    have hr1 : r ∈ A1.runs := by rw [hfr.1]; exact hr
    have := g1.rpos r hr1
    have h5 := (g1.usedR hr1 (p := x) (by omega) (by omega)).1
    have h6 := (g1.pg.fr x).1 (hS x (by omega) (by omega))
    omega
   have eS' : YO A sp (m' : Int) (a' : Int) = ({ useA A1 x m' 41 with runs := A.runs ++ [(x, m')] }, sp1) := by
    unfold YO
    rw [if_pos hp, Int.toNat_natCast, Int.toNat_natCast, hg]
    show ({ useA A1 x m' 41 with runs := YO.mset2 A1.runs x m' }, sp1) = _
    rw [hfr.1, WcM hnew]
   have g2 := g1.addRun (by omega) hS
   rw [hfr.1] at g2
   have kp := Wep g1.pg (no := 41) (by omega) (by omega) hS
   refine ⟨x, A1, sp1, hp, by rw [eE, hg]; rfl, by rw [eV, hg]; rfl, by rw [Int.toNat_natCast]; exact eS', by rw [Int.toNat_natCast, Int.toNat_natCast]; exact htk, by rw [Int.toNat_natCast, Int.toNat_natCast]; exact hor, ?_, by rw [eS']; exact hfr.2.1, fun j y => ?_⟩
   ·rw [eS']
    exact hst.trans (St.kp g2 hst.ow (kp.trans (Kp.pages rfl rfl rfl rfl)))
   ·rw [eS']
    have e1 : ({ useA A1 x m' 41 with runs := A.runs ++ [(x, m')] } : AR).tb = A.tb := hst.tb
    have e2 : ({ useA A1 x m' 41 with runs := A.runs ++ [(x, m')] } : AR).cen = A.cen := hfr.2.2
    unfold TkA Cl; rw [e1, e2]
 ·left
  have hp' : Qb m a = false := by simpa using hp
  unfold YO ZS
  rw [hp']
  exact ⟨rfl, by simp, fun hx => by cases hx⟩
theorem WbU {x : Int} {r : Nat × Nat} (h : Gm A x = some r) : r ∈ A.runs /\ x = (r.1 : Int) := by
 unfold Gm at h
 exact ⟨List.mem_of_find?_eq_some h, by have := List.find?_some h; simpa using Eq.symm (by simpa using this)⟩
theorem Wap (h : GA A) (x : Int) : (Kp A (ZR A x) /\ GA (ZR A x)) /\ (ZR A x).tra = A.tra /\ (∀ j y, TkA (ZR A x) j y ↔ TkA A j y) /\ (ZP A x ≠ 0 -> ZR A x = A) ∧
 (ZP A x = 0 -> ∃ r ∈ A.runs, x = (r.1 : Int) /\ (ZR A x).runs = A.runs.filter fun q => !(q == r)) := by
 cases hr : Gm A x with
 | none =>
  have e : ZR A x = A := by unfold ZR; rw [hr]
  have eE : ZP A x = 8 := by unfold ZP; rw [hr]; rfl
  rw [e, eE]
  exact ⟨⟨Kp.refl A, h⟩, rfl, fun _ _ => Iff.rfl, fun _ => rfl, fun hx => by cases hx⟩
 | some r =>
  obtain ⟨hrm, hx⟩ := WbU hr
  have hpos := h.rpos r hrm
  have hfil : A.runs.filter (fun q => !((q.1 : Int) == x)) = A.runs.filter fun q => !(q == r) := by
   apply List.filter_congr
   intro q hq
   have : ((q.1 : Int) == x) = (q == r) := by
    rw [Bool.eq_iff_iff]
    simp only [beq_iff_eq]
    constructor
    ·intro e
     have hq1 := h.rpos q hq
     exact h.runs_uniq hq hrm (x := q.1) (by omega) (by omega) (by omega) (by omega)
    ·rintro rfl; exact hx.symm
   rw [this]
  have e : ZR A x = Kh { A with runs := A.runs.filter fun q => !(q == r) } r := by unfold ZR; rw [hr]; simp only; rw [hfil]
  have eE : ZP A x = 0 := by unfold ZP; rw [hr]; rfl
  obtain ⟨a, m⟩ := r
  obtain ⟨o, hi, pg, hz⟩ := Wbj (A := { A with runs := A.runs.filter fun q => !(q == (a, m)) }) (h.pg.same rfl rfl rfl rfl) hpos (fun p p1 p2 => (h.usedR hrm p1 p2).1)
  have own : ∀ p, a <= p -> p < a + m -> A.ow p = 41 := fun p p1 p2 => (h.usedR hrm p1 p2).2
  have htb := h.tb
  rw [e, eE]
  refine ⟨⟨⟨rfl, rfl, rfl, hz, fun p hp => ?_⟩, ?_⟩, rfl, fun _ _ => Iff.rfl, fun hx => (hx rfl).elim, fun _ => ⟨_, hrm, hx, rfl⟩⟩
  ·by_cases hin : a <= p /\ p < a + m
   ·rw [(hi p hin.1 hin.2).1] at hp; omega
   ·rw [o.f p hin] at hp; exact hp
  ·refine ⟨pg, h.tb, h.lc, h.lt, h.cen, h.one, fun j d tt hj p => ?_, fun p => ?_, fun p => ?_, fun q hq => h.rpos q (List.mem_filter.1 hq).1, h.rdis.filter _, h.trn, h.trt, h.trb⟩
   ·have hj : Cl A j d tt := hj
    have := hj.lt
    by_cases hin : a <= p /\ p < a + m
    ·rw [(hi p hin.1 hin.2).2, ← h.ow j d tt hj p, own p hin.1 hin.2]; omega
    ·rw [o.ow p hin]; exact h.ow j d tt hj p
   ·show _ ↔ inR (A.runs.filter fun q => !(q == (a, m))) p
    by_cases hin : a <= p /\ p < a + m
    ·rw [(hi p hin.1 hin.2).2]
     constructor
     ·intro hx; omega
     ·rintro ⟨q, hq, q1, q2⟩
      have hq' := List.mem_filter.1 hq
      have := h.runs_uniq hq'.1 hrm q1 q2 hin.1 hin.2
      subst this
      simp at hq'
    ·rw [o.ow p hin]
     show A.ow p = 41 ↔ _
     rw [h.ow41]
     constructor
     ·rintro ⟨q, hq, q1⟩
      refine ⟨q, List.mem_filter.2 ⟨hq, ?_⟩, q1⟩
      have : q ≠ (a, m) := by rintro rfl; exact hin q1
      simpa using this
     ·rintro ⟨q, hq, q1⟩; exact ⟨q, (List.mem_filter.1 hq).1, q1⟩
   ·by_cases hin : a <= p /\ p < a + m
    ·rw [(hi p hin.1 hin.2).2]; omega
    ·rw [o.ow p hin]; exact h.owb p
theorem Wej (hk : Cl A k c ss) : ZD A k = swp A k c ss := by unfold ZD swp; rw [hk.1, hk.2]
theorem Wai (h : GA A) : ∀ m, m <= A.tb.length -> Ob A ((List.range m).foldl ZD A) /\ ((List.range m).foldl ZD A).tra = A.tra /\ ∀ j y, TkA ((List.range m).foldl ZD A) j y ↔ TkA A j y
 | 0, _ => ⟨⟨h, Kp.refl A, rfl⟩, rfl, fun _ _ => Iff.rfl⟩
 | m + 1, hm => by
  obtain ⟨o, e, t⟩ := Wai h m (by omega)
  rw [List.range_succ, List.foldl_append, List.foldl_cons, List.foldl_nil]
  generalize (List.range m).foldl ZD A = B at o e t
  obtain ⟨c, ss, _, hk, _⟩ := o.ga.cl (k := m) (by rw [o.kp.tb]; omega)
  rw [Wej hk]
  have b := o.ga.swpB hk
  exact ⟨⟨o.ga.swp hk, o.kp.trans (o.ga.swpK hk), b.runs.trans o.runs⟩, b.tra.trans e, fun j y => (o.ga.swpT hk).trans (t j y)⟩
theorem Vk (h : GA A) : Ob A (Y8 A) /\ (Y8 A).tra = A.tra /\ ∀ j y, TkA (Y8 A) j y ↔ TkA A j y := Wai h _ (Nat.le_refl _)
theorem Wa4 (k : Nat) : ∀ (outs : List (List Int)) {A : AR}, GA A -> outs.flatten.Nodup -> (∀ x ∈ outs.flatten, TkA A k x /\ ¬ InT A k x) →
 Ob A (outs.foldl (fun A' xs => YF A' (k : Int) xs) A) /\ (outs.foldl (fun A' xs => YF A' (k : Int) xs) A).tra = A.tra /\ ∀ j y, TkA (outs.foldl (fun A' xs => YF A' (k : Int) xs) A) j y ↔ TkA A j y /\ ¬ (j = k /\ y ∈ outs.flatten)
 | [], A, h, _, _ => ⟨⟨h, Kp.refl A, rfl⟩, rfl, by simp⟩
 | xs :: outs, A, h, hn, ht => by
  rw [List.flatten_cons] at hn ht
  have hn' := List.nodup_append.1 hn
  have htx : ∀ x ∈ xs, TkA A k x /\ ¬ InT A k x := fun x hx => ht x (List.mem_append_left _ hx)
  rw [List.foldl_cons]
  cases xs with
  | nil =>
   have hE : YF A (k : Int) [] = A ∨ Zn A (k : Int) [] = 0 := by
    by_cases h0 : Zn A (k : Int) [] = 0
    ·exact .inr h0
    ·exact .inl (by unfold YF; rw [if_neg h0])
   obtain ⟨o, e, t, _⟩ := Ui h (k := (k : Int)) (xs := []) (fun _ => by simp)
   have t' : ∀ j y, TkA (YF A (k : Int) []) j y ↔ TkA A j y := fun j y => by
    rcases hE with hE | hE
    ·rw [hE]
    ·rw [t hE]; simp
   have hin : ∀ j y, InT (YF A (k : Int) []) j y ↔ InT A j y := fun j y => by unfold InT; rw [e]
   obtain ⟨o2, e2, t2⟩ := Wa4 k outs o.ga hn'.2.1 fun x hx => by rw [t', hin]; exact ht x (List.mem_append_right _ hx)
   exact ⟨⟨o2.ga, o.kp.trans o2.kp, o2.runs.trans o.runs⟩, e2.trans e, fun j y => by rw [t2, t']; simp⟩
  | cons x0 xs =>
   obtain ⟨c, ss, hk, _⟩ := (htx x0 (by simp)).1
   have h0 : Zn A (k : Int) (x0 :: xs) = 0 := by
    rw [Hl h hk]
    exact Whk ⟨fun x hx => (Qv hk).1 (htx x hx).1, hn'.1⟩
   obtain ⟨o, e, t, _⟩ := Ui h (k := (k : Int)) (xs := x0 :: xs) (fun _ x hx => by rw [Int.toNat_natCast]; exact (htx x hx).2)
   have t' := t h0
   have hin : ∀ j y, InT (YF A (k : Int) (x0 :: xs)) j y ↔ InT A j y := fun j y => by unfold InT; rw [e]
   obtain ⟨o2, e2, t2⟩ := Wa4 k outs o.ga hn'.2.1 fun x hx => by
    rw [t', hin]
    have := ht x (List.mem_append_right _ hx)
    exact ⟨⟨this.1, fun hy => hn'.2.2 x hy.2 x hx rfl⟩, this.2⟩
   refine ⟨⟨o2.ga, o.kp.trans o2.kp, o2.runs.trans o.runs⟩, e2.trans e, fun j y => ?_⟩
   rw [t2, t', Int.toNat_natCast, List.flatten_cons, List.mem_append]
   constructor
   ·rintro ⟨⟨a, b⟩, d⟩
    refine ⟨a, fun ⟨hj, hy⟩ => ?_⟩
    rcases hy with hy | hy
    ·exact b ⟨hj, hy⟩
    ·exact d ⟨hj, hy⟩
   ·rintro ⟨a, b⟩
    exact ⟨⟨a, fun ⟨hj, hy⟩ => b ⟨hj, .inl hy⟩⟩, fun ⟨hj, hy⟩ => b ⟨hj, .inr hy⟩⟩
structure Tck (A B : AR) : Prop where
 ob : Ob A B
 sub : ∀ j y, InT B j y -> InT A j y
 tk : ∀ j y, TkA B j y ↔ TkA A j y /\ (InT A j y -> InT B j y)
theorem Tck.trans {B C : AR} (h : Tck A B) (k : Tck B C) : Tck A C :=
 ⟨⟨k.ob.ga, h.ob.kp.trans k.ob.kp, k.ob.runs.trans h.ob.runs⟩, fun j y hx => h.sub j y (k.sub j y hx), fun j y => by
  rw [k.tk, h.tk]
  exact ⟨fun ⟨⟨a, b⟩, d⟩ => ⟨a, fun e => d (b e)⟩, fun ⟨a, b⟩ => ⟨⟨a, fun e => k.sub j y (b e)⟩, fun e => b (h.sub j y e)⟩⟩⟩
theorem WcB (h : GA A) (hk : k < A.tb.length) : Tck A (Z8 A k) := by
 obtain ⟨c, ss, t, hc, ht⟩ := h.cl hk
 have hkl : k < A.tra.length := by rw [h.lt]; exact hk
 have e : Z8 A k = t.out.foldl (fun A' xs => YF A' (k : Int) xs) { A with tra := A.tra.set k t.tick } := by unfold Z8; rw [ht]
 have hsp : t.bs = t.out ++ t.tick.bs := (List.take_append_drop ((t.low + 1) / 2) t.bs).symm
 have hfl : t.bs.flatten = t.out.flatten ++ t.tick.bs.flatten := by conv => lhs; rw [hsp]; rw [List.flatten_append]
 have hnd := h.trn k t ht
 rw [hfl] at hnd
 have hnd' := List.nodup_append.1 hnd
 have htk : ∀ x ∈ t.bs.flatten, TkA A k x := fun x hx => (Qv hc).2 (h.trt k c ss t hc ht x hx)
 have g1 : GA { A with tra := A.tra.set k t.tick } := h.setTra hnd'.2.1 (fun x hx => htk x (by rw [hfl]; exact List.mem_append_right _ hx)) fun c' hc' xs hxs => h.trb k c' t hc' ht xs (t.tick_sub xs hxs)
 obtain ⟨o, e2, t2⟩ := Wa4 k t.out g1 hnd'.1 fun x hx => by
  refine ⟨htk x (by rw [hfl]; exact List.mem_append_left _ hx), ?_⟩
  rw [Gn hkl]
  rintro (⟨_, hy⟩ | ⟨hy, _⟩)
  ·exact hnd'.2.2 x hx x hy rfl
  ·exact hy rfl
 rw [← e] at o e2 t2
 have hin : ∀ j y, InT (Z8 A k) j y ↔ (j = k /\ y ∈ t.tick.bs.flatten) ∨ (j ≠ k /\ InT A j y) := fun j y => by
  rw [← Gn hkl]; unfold InT; rw [e2]
 refine ⟨⟨o.ga, (Kp.pages rfl rfl rfl rfl : Kp A { A with tra := A.tra.set k t.tick }).trans o.kp, o.runs⟩, fun j y hx => ?_, fun j y => ?_⟩
 ·rcases (hin j y).1 hx with ⟨rfl, hy⟩ | ⟨_, hy⟩
  ·rw [Vz ht, hfl]; exact List.mem_append_right _ hy
  ·exact hy
 ·rw [t2, hin]
  show TkA A j y /\ _ ↔ _
  by_cases hjk : j = k
  ·subst hjk
   rw [Vz ht, hfl, List.mem_append]
   constructor
   ·rintro ⟨a, b⟩
    refine ⟨a, fun hx => ?_⟩
    rcases hx with hx | hx
    ·exact (b ⟨rfl, hx⟩).elim
    ·exact .inl ⟨rfl, hx⟩
   ·rintro ⟨a, b⟩
    refine ⟨a, fun ⟨_, hx⟩ => ?_⟩
    rcases b (.inl hx) with ⟨_, hy⟩ | ⟨hy, _⟩
    ·exact hnd'.2.2 y hx y hy rfl
    ·exact hy rfl
  ·exact ⟨fun ⟨a, _⟩ => ⟨a, fun hx => .inr ⟨hjk, hx⟩⟩, fun ⟨a, _⟩ => ⟨a, fun ⟨hx, _⟩ => hjk hx⟩⟩
theorem Wbg (h : GA A) : ∀ m, m <= A.tb.length -> Tck A ((List.range m).foldl Z8 A)
 | 0, _ => ⟨⟨h, Kp.refl A, rfl⟩, fun _ _ => id, fun _ _ => ⟨fun a => ⟨a, id⟩, fun a => a.1⟩⟩
 | m + 1, hm => by
  have t := Wbg h m (by omega)
  rw [List.range_succ, List.foldl_append, List.foldl_cons, List.foldl_nil]
  exact t.trans (WcB t.ob.ga (by rw [t.ob.kp.tb]; omega))
theorem WbB (h : GA A) : Tck A (KP A) := Wbg h _ (by rw [h.lt]; exact Nat.le_refl _)
end Go.Ar
namespace Go.Ar
open Go.Bu (XV YZ runS Xu Hb allF Qy Q7 give take ZZ ZU Bounded)


variable {A : AR} {sp : Sp} {k : Nat} {c : Cls} {ss : List SpA}
theorem WeU {st : List Nat} {a m v : Nat} (hl : a + m <= st.length) : v ∈ (st.drop a).take m ↔ ∃ p, a <= p /\ p < a + m /\ gf st p = v := by
 constructor
 ·intro hm
  obtain ⟨i, hi⟩ := List.getElem?_of_mem hm
  rw [List.getElem?_take] at hi
  split at hi
  ·rename_i hlt
   rw [List.getElem?_drop] at hi
   refine ⟨a + i, by omega, by omega, ?_⟩
   unfold gf
   rw [List.getD_eq_getElem?_getD, hi]; rfl
  ·cases hi
 ·rintro ⟨p, h1, h2, h3⟩
  have hp : p < st.length := by omega
  unfold gf at h3
  rw [List.getD_eq_getElem?_getD, List.getElem?_eq_getElem hp] at h3
  refine List.mem_of_getElem? (i := p - a) ?_
  rw [List.getElem?_take, if_pos (by omega), List.getElem?_drop, show a + (p - a) = p by omega, List.getElem?_eq_getElem hp]
  exact congrArg some h3
theorem Vi {st : List Nat} {a b v : Nat} (hab : a <= b) (hb : b <= st.length) : cntR st a b v = 0 ↔ ∀ p, a <= p -> p < b -> gf st p ≠ v := by
 unfold cntR
 rw [List.count_eq_zero, WeU (by omega)]
 constructor
 ·intro h p h1 h2 h3; exact h ⟨p, h1, by omega, h3⟩
 ·rintro h ⟨p, h1, h2, h3⟩; exact h p h1 (by omega) h3
theorem GG {s m v : Nat} (h1 : 1 <= m) (h2 : s + m <= sp.st.length) (h : ∀ p, s <= p -> p < s + m -> gf sp.st p ≠ 0) : QW sp (s : Int) (m : Int) v = sp.set s m v := by
 unfold QW Vo
 rw [if_pos (QX.2 ⟨h1, h2⟩), Int.toNat_natCast, Int.toNat_natCast, (WdV h2).2 h]; rfl
theorem Wf1 {s m v : Nat} (h2 : s + m <= sp.st.length) (p : Nat) : gf (sp.set s m v).st p = if s <= p /\ p < s + m then v else gf sp.st p := Uu h2
theorem Wgb {s m v x : Nat} (h : ¬ (s <= x / 32 /\ x / 32 < s + m)) : (sp.set s m v).wd x = sp.wd x := by
 show (if s * 32 <= x /\ x < (s + m) * 32 then 0 else sp.wd x) = _
 rw [if_neg (by omega)]
structure Trm (A B : AR) (sp sp' : Sp) (l : List Nat) : Prop where
 st : St A B sp sp'
 f : ∀ p, B.f p = if p / 16 ∈ l then 0 else A.f p
 ow : B.ow = A.ow
 tra : B.tra = A.tra
 cen : B.cen = A.cen
 runs : B.runs = A.runs
 wd : ∀ x, x / 32 / 16 ∉ l -> sp'.wd x = sp.wd x
 gf : ∀ p, p / 16 ∉ l -> gf sp'.st p = gf sp.st p
 pk : sp'.pk = sp.pk
theorem WeK (h : GA A) (hw : Ow A sp) {g : Nat} (hg : 16 * g + 16 <= A.n) (hi : ∀ p, p / 16 = g -> 2 <= A.f p) : Trm A (KO (A, sp) g).1 sp (KO (A, sp) g).2 [g] := by
 have hin : ∀ p, 16 * g <= p /\ p < 16 * g + 16 ↔ p / 16 = g := fun p => by omega
 have e1 : (KO (A, sp) g).1.st = setR A.st (16 * g) (16 * g + 16) 0 := by
  show remT A.st (g : Int) = _
  have hid : Wcy A.st g = true := by
   unfold Wcy
   have h1 := hi (16 * g) (by omega)
   have h2 := (Vi (st := A.st) (a := 16 * g) (b := 16 * g + 16) (v := 1) (by omega) (by rw [h.pg.len]; exact hg)).2 fun p p1 p2 e => by
    have := hi p (by omega); unfold AR.f at this; omega
   unfold AR.f gf at h1
   have hne : A.st.getD (16 * g) 0 ≠ 0 := by omega
   rw [h2, bne_iff_ne.2 hne]; rfl
  unfold remT remE
  rw [KL (by rw [h.pg.len]; exact hg), if_pos rfl, Int.toNat_natCast, hid]; rfl
 have e2 : (KO (A, sp) g).1.S = take A.S (g * 16) (g * 16 + 16) := WgQ (n := A.n) (S := A.S) (a := g * 16) (m := 16) (by omega) (by omega) fun p p1 p2 => by rw [h.pg.fr]; exact hi p (by omega)
 have e3 : (KO (A, sp) g).2 = sp.set (g * 16) 16 0 := GG (sp := sp) (s := g * 16) (m := 16) (v := 0) (by omega) (by rw [hw.l]; omega) fun p p1 p2 => hw.own p (by have := hi p (by omega); omega)
 have hl2 : g * 16 + 16 <= sp.st.length := by rw [hw.l]; omega
 have ef : ∀ p, (KO (A, sp) g).1.f p = if p / 16 = g then 0 else A.f p := fun p => by
  unfold AR.f; rw [e1, Uu (by rw [h.pg.len]; exact hg)]
  by_cases hp : p / 16 = g
  ·rw [if_pos hp, if_pos ((hin p).2 hp)]
  ·rw [if_neg hp, if_neg (fun hx => hp ((hin p).1 hx))]
 have eg : ∀ p, gf (KO (A, sp) g).2.st p = if p / 16 = g then 0 else gf sp.st p := fun p => by
  rw [e3, Wf1 hl2]
  by_cases hp : p / 16 = g
  ·rw [if_pos hp, if_pos (by omega)]
  ·rw [if_neg hp, if_neg (by omega)]
 have pg : PG (KO (A, sp) g).1 := by
  refine ⟨by rw [e1, ZA]; exact h.pg.len, h.pg.n1, h.pg.n2, h.pg.n16, fun p => ?_, fun p => ?_, fun p => ?_, fun p => ?_⟩
  ·rw [ef]; have := h.pg.le p; split <;> omega
  ·rw [ef]
   show _ ↔ A.ow p ≠ 0
   have := h.pg.us p
   by_cases hp : p / 16 = g
   ·rw [if_pos hp]; have := hi p hp; constructor
    ·intro hx; omega
    ·intro hx; have := (h.pg.us p).2 hx; omega
   ·rw [if_neg hp]; exact this
  ·rw [ef, e2, ZU]
   have := h.pg.fr p
   by_cases hp : p / 16 = g
   ·rw [if_pos hp]; constructor
    ·rintro ⟨_, hx⟩; exact (hx (by omega)).elim
    ·intro hx; omega
   ·rw [if_neg hp]; constructor
    ·rintro ⟨hx, _⟩; exact this.1 hx
    ·intro hx; exact ⟨this.2 hx, by omega⟩
  ·rw [ef, ef]
   have e : p / 16 * 16 / 16 = p / 16 := by omega
   rw [e]
   split
   ·exact Iff.rfl
   ·exact h.pg.hp p
 have ga : GA (KO (A, sp) g).1 := ⟨pg, h.tb, h.lc, h.lt, h.cen, h.one, h.ow, h.ow41, h.owb, h.rpos, h.rdis, h.trn, h.trt, h.trb⟩
 refine ⟨⟨ga, ⟨by rw [e3]; show (setR _ _ _ _).length = A.n; rw [ZA]; exact hw.l, fun p hp => ?_, fun p hp => ?_, fun p => ?_⟩, rfl, rfl, rfl, fun p h1 h2 => ?_, fun p h1 h2 => ?_, fun p h1 h2 => ?_⟩, fun p => ?_, rfl, rfl, rfl, rfl, fun x hx => ?_, fun p hp => ?_, ?_⟩
 ·rw [ef] at hp; rw [eg]
  split at hp
  ·exact (hp rfl).elim
  ·rename_i hn; rw [if_neg hn]; exact hw.own p hp
 ·rw [ef] at hp; rw [eg]
  split at hp
  ·cases hp
  ·rename_i hn; rw [if_neg hn]; exact hw.cl p hp
 ·rw [eg]; have := hw.le p; split <;> omega
 ·rw [eg]
  by_cases hp : p / 16 = g
  ·have := hi p hp; omega
  ·rw [if_neg hp]
 ·rw [ef] at h2; rw [eg]
  split at h2
  ·rename_i hp; rw [if_pos hp]
  ·exact (h1 h2).elim
 ·rw [ef] at h2
  split at h2
  ·exact (h2 rfl).elim
  ·exact (h2 h1).elim
 ·rw [ef]; simp
 ·rw [e3]; exact Wgb fun hx2 => hx (by simp; omega)
 ·rw [eg, if_neg (by simpa using hp)]
 ·rw [e3]; rfl
theorem Wbp : ∀ (l : List Nat) {A : AR} {sp : Sp}, GA A -> Ow A sp -> l.Nodup -> (∀ g ∈ l, 16 * g + 16 <= A.n /\ ∀ p, p / 16 = g -> 2 <= A.f p) -> Trm A (l.foldl KO (A, sp)).1 sp (l.foldl KO (A, sp)).2 l
 | [], A, sp, h, hw, _, _ => ⟨St.refl h hw, fun p => by simp, rfl, rfl, rfl, rfl, fun _ _ => rfl, fun _ _ => rfl, rfl⟩
 | g :: l, A, sp, h, hw, hn, hi => by
  have hn' := List.nodup_cons.1 hn
  have t := WeK h hw (hi g (by simp)).1 (hi g (by simp)).2
  have k := Wbp l (A := (KO (A, sp) g).1) (sp := (KO (A, sp) g).2) t.st.ga t.st.ow hn'.2 fun g' hg' => by
   refine ⟨by rw [t.st.n]; exact (hi g' (by simp [hg'])).1, fun p hp => ?_⟩
   rw [t.f, if_neg (by simp; rintro rfl; exact hn'.1 (hp ▸ hg'))]
   exact (hi g' (by simp [hg'])).2 p hp
  rw [List.foldl_cons]
  refine ⟨t.st.trans k.st, fun p => ?_, k.ow.trans t.ow, k.tra.trans t.tra, k.cen.trans t.cen, k.runs.trans t.runs, fun x hx => ?_, fun p hp => ?_, k.pk.trans t.pk⟩
  ·rw [k.f, t.f]
   by_cases h1 : p / 16 ∈ l
   ·rw [if_pos h1, if_pos (by simp [h1])]
   ·rw [if_neg h1]
    by_cases h2 : p / 16 = g
    ·rw [if_pos (by simp [h2]), if_pos (by simp [h2])]
    ·rw [if_neg (by simp [h2]), if_neg (by simp [h1, h2])]
  ·simp only [List.mem_cons, not_or] at hx
   exact (k.wd x hx.2).trans (t.wd x (by simpa using hx.1))
  ·simp only [List.mem_cons, not_or] at hp
   exact (k.gf p hp.2).trans (t.gf p (by simpa using hp.1))
theorem Wda (h : GA A) {g : Nat} : g ∈ Qj A.st 0 ↔ 16 * g + 16 <= A.n /\ ∀ p, p / 16 = g -> 2 <= A.f p := by
 have hn := h.pg.n16
 unfold Qj
 rw [List.mem_filter, List.mem_range, h.pg.len]
 have hk : ∀ (hg : 16 * g + 16 <= A.n), (Qk A.st g == 0) = true ↔ ∀ p, p / 16 = g -> A.f p ≠ 1 := fun hg => by
  have h2 := Vi (st := A.st) (a := 16 * g) (b := 16 * g + 16) (v := 1) (by omega) (by rw [h.pg.len]; exact hg)
  have e : (Qk A.st g == 0) = true ↔ cntR A.st (16 * g) (16 * g + 16) 1 = 0 := by
   unfold Qk
   split
   ·rename_i hx; simp [hx]
   ·rename_i hx
    constructor
    ·intro hy; split at hy <;> simp at hy
    ·intro hy; exact (hx hy).elim
  rw [e, h2]
  constructor
  ·intro hx p hp; exact hx p (by omega) (by omega)
  ·intro hx p p1 p2; exact hx p (by omega)
 simp only [Bool.and_eq_true, bne_iff_ne, ne_eq]
 constructor
 ·rintro ⟨h1, h2, h3⟩
  have hg : 16 * g + 16 <= A.n := by omega
  refine ⟨hg, fun p hp => ?_⟩
  have h4 := (hk hg).1 h3 p hp
  have h5 : A.f p ≠ 0 := fun e => h2 ((h.pg.hp2 (q := 16 * g) (by omega)).1 e)
  omega
 ·rintro ⟨hg, h2⟩
  refine ⟨by omega, fun e => ?_, (hk hg).2 fun p hp e => ?_⟩
  ·have e : A.f (16 * g) = 0 := e
   have := h2 (16 * g) (by omega); omega
  ·have := h2 p hp; omega
theorem Wbb (st : List Nat) (k : Nat) : (Qj st k).Nodup := List.nodup_range.filter _
theorem H2 (h : GA A) (hw : Ow A sp) : Trm A (V6 A sp).1 sp (V6 A sp).2 (Qj A.st 0) := Wbp _ h hw (Wbb _ _) fun g hg => (Wda h).1 hg
structure Rlz (A B : AR) (sp sp' : Sp) (rs : List (Nat × Nat)) : Prop where
 st : St A B sp sp'
 i : ∀ p, inR rs p -> A.f p = 2 /\ B.f p = 3 /\ gf sp'.st p = 1
 o : ∀ p, ¬ inR rs p -> B.f p = A.f p /\ gf sp'.st p = gf sp.st p
 ow : B.ow = A.ow
 tra : B.tra = A.tra
 cen : B.cen = A.cen
 runs : B.runs = A.runs
 wd : ∀ x, ¬ inR rs (x / 32) -> sp'.wd x = sp.wd x
 pk : sp'.pk = sp.pk
theorem Wg7 (h : GA A) (hw : Ow A sp) {a m : Nat} (h1 : 1 <= m) (hi : ∀ p, a <= p -> p < a + m -> A.f p = 2) : Rlz A (rel1 (A, sp) (a, m)).1 sp (rel1 (A, sp) (a, m)).2 [(a, m)] := by
 have hl : a + m <= A.n := by have := h.pg.lt (p := a + m - 1) (by rw [hi _ (by omega) (by omega)]; omega); omega
 have hin : ∀ p, inR [(a, m)] p ↔ a <= p /\ p < a + m := fun p => by simp [inR]
 have e1 : (rel1 (A, sp) (a, m)).1.st = setR A.st a (a + m) 3 := H4 h1 (by rw [h.pg.len]; exact hl) fun p p1 p2 => by
  have := hi p p1 p2; unfold AR.f at this; rw [this]; simp
 have hl2 : a + m <= sp.st.length := by rw [hw.l]; exact hl
 have e3 : (rel1 (A, sp) (a, m)).2 = sp.set a m 1 := GG h1 hl2 fun p p1 p2 => hw.own p (by rw [hi p p1 p2]; omega)
 have ef : ∀ p, (rel1 (A, sp) (a, m)).1.f p = if a <= p /\ p < a + m then 3 else A.f p := fun p => by unfold AR.f; rw [e1, Uu (by rw [h.pg.len]; exact hl)]
 have eg : ∀ p, gf (rel1 (A, sp) (a, m)).2.st p = if a <= p /\ p < a + m then 1 else gf sp.st p := fun p => by rw [e3, Wf1 hl2]
 have hz : ∀ p, (rel1 (A, sp) (a, m)).1.f p = 0 ↔ A.f p = 0 := fun p => by
  rw [ef]; split
  ·rename_i hp; rw [hi p hp.1 hp.2]; omega
  ·exact Iff.rfl
 have pg : PG (rel1 (A, sp) (a, m)).1 := by
  refine ⟨by rw [e1, ZA]; exact h.pg.len, h.pg.n1, h.pg.n2, h.pg.n16, fun p => ?_, fun p => ?_, fun p => ?_, Wgr h.pg hz⟩
  ·rw [ef]; have := h.pg.le p; split <;> omega
  ·rw [ef]
   show _ ↔ A.ow p ≠ 0
   rw [← h.pg.us p]
   split
   ·rename_i hp; rw [hi p hp.1 hp.2]; omega
   ·exact Iff.rfl
  ·rw [ef]
   show A.S p = true ↔ _
   rw [h.pg.fr p]
   split
   ·rename_i hp; rw [hi p hp.1 hp.2]; omega
   ·exact Iff.rfl
 have ga : GA (rel1 (A, sp) (a, m)).1 := ⟨pg, h.tb, h.lc, h.lt, h.cen, h.one, h.ow, h.ow41, h.owb, h.rpos, h.rdis, h.trn, h.trt, h.trb⟩
 refine ⟨⟨ga, ⟨by rw [e3]; show (setR _ _ _ _).length = A.n; rw [ZA]; exact hw.l, fun p hp => ?_, fun p hp => ?_, fun p => ?_⟩, rfl, rfl, rfl, fun p h1 h2 => ?_, fun p h1 h2 => (h1 ((hz p).1 h2)).elim, fun p h1 h2 => (h2 ((hz p).2 h1)).elim⟩, fun p hp => ?_, fun p hp => ?_, rfl, rfl, rfl, rfl, fun x hx => ?_, ?_⟩
 ·rw [eg]; split
  ·omega
  ·rename_i hn; exact hw.own p fun e => hp ((hz p).2 e)
 ·rw [ef] at hp; rw [eg]
  split at hp
  ·rename_i hn; rw [if_pos hn]
  ·rename_i hn; rw [if_neg hn]; exact hw.cl p hp
 ·rw [eg]; have := hw.le p; split <;> omega
 ·rw [eg, if_neg fun hp => by have := hi p hp.1 hp.2; omega]
 ·rw [hin] at hp; rw [ef, eg, if_pos hp, if_pos hp]; exact ⟨hi p hp.1 hp.2, rfl, rfl⟩
 ·rw [hin] at hp; rw [ef, eg, if_neg hp, if_neg hp]; exact ⟨rfl, rfl⟩
 ·rw [hin] at hx; rw [e3]; exact Wgb hx
 ·rw [e3]; rfl
theorem Wd8 : ∀ (rs : List (Nat × Nat)) {A : AR} {sp : Sp}, GA A -> Ow A sp -> (∀ r ∈ rs, 1 <= r.2 /\ ∀ p, r.1 <= p -> p < r.1 + r.2 -> A.f p = 2) -> rs.Pairwise (fun a b => a.1 + a.2 <= b.1 ∨ b.1 + b.2 <= a.1) →
 Rlz A (rs.foldl rel1 (A, sp)).1 sp (rs.foldl rel1 (A, sp)).2 rs
 | [], A, sp, h, hw, _, _ => ⟨St.refl h hw, fun p ⟨r, hr, _⟩ => by simp at hr, fun p _ => ⟨rfl, rfl⟩, rfl, rfl, rfl, rfl, fun _ _ => rfl, rfl⟩
 | (a, m) :: rs, A, sp, h, hw, hi, hd => by
  have hd' := List.pairwise_cons.1 hd
  have hi0 := hi (a, m) (List.mem_cons_self ..)
  have t := Wg7 h hw hi0.1 hi0.2
  have hin : ∀ p, inR [(a, m)] p ↔ a <= p /\ p < a + m := fun p => by simp [inR]
  have hcons : ∀ p, inR ((a, m) :: rs) p ↔ (a <= p /\ p < a + m) ∨ inR rs p := fun p => by simp [inR]
  have k := Wd8 rs (A := (rel1 (A, sp) (a, m)).1) (sp := (rel1 (A, sp) (a, m)).2) t.st.ga t.st.ow (fun r hr => by
   have := hi r (List.mem_cons_of_mem _ hr)
   refine ⟨this.1, fun p p1 p2 => ?_⟩
   have hx := hd'.1 r hr
   simp only at hx
   rw [(t.o p (by rw [hin]; omega)).1]
   exact this.2 p p1 p2) hd'.2
  rw [List.foldl_cons]
  refine ⟨t.st.trans k.st, fun p hp => ?_, fun p hp => ?_, k.ow.trans t.ow, k.tra.trans t.tra, k.cen.trans t.cen, k.runs.trans t.runs, fun x hx => ?_, k.pk.trans t.pk⟩
  ·by_cases h2 : inR rs p
   ·have := k.i p h2
    refine ⟨?_, this.2⟩
    by_cases h3 : a <= p /\ p < a + m
    ·exact hi0.2 p h3.1 h3.2
    ·rw [← (t.o p (by rw [hin]; exact h3)).1]; exact this.1
   ·have h3 : a <= p /\ p < a + m := ((hcons p).1 hp).resolve_right h2
    have h4 := t.i p ((hin p).2 h3)
    have h5 := k.o p h2
    exact ⟨h4.1, h5.1.trans h4.2.1, h5.2.trans h4.2.2⟩
  ·rw [hcons] at hp
   have h2 : ¬ inR rs p := fun h => hp (.inr h)
   have h3 : ¬ inR [(a, m)] p := fun h => hp (.inl ((hin p).1 h))
   exact ⟨(k.o p h2).1.trans (t.o p h3).1, (k.o p h2).2.trans (t.o p h3).2⟩
  ·rw [hcons] at hx
   exact (k.wd x fun h => hx (.inr h)).trans (t.wd x fun h => hx (.inl ((hin _).1 h)))
theorem WdY {st : List Nat} {p m : Nat} (hl : p + m <= st.length) : runL st p m <= m /\ (∀ x, p <= x -> x < p + runL st p m -> gf st x = 2) /\ (runL st p m < m -> gf st (p + runL st p m) ≠ 2) := by
 have key : ∀ (l : List Nat), (l.takeWhile (· == 2)).length <= l.length /\ (∀ i, i < (l.takeWhile (· == 2)).length -> l[i]? = some 2) /\ ((l.takeWhile (· == 2)).length < l.length -> l[(l.takeWhile (· == 2)).length]? ≠ some 2) := by
  intro l
  induction l with
  | nil => simp
  | cons x l ih =>
   rw [List.takeWhile_cons]
   by_cases hx : x = 2
   ·subst hx
    simp only [beq_self_eq_true, if_true, List.length_cons]
    refine ⟨by omega, fun i hi => ?_, fun hlt => ?_⟩
    ·cases i with
     | zero => rfl
     | succ i => simpa using ih.2.1 i (by omega)
    ·simpa using ih.2.2 (by omega)
   ·have : (x == 2) = false := by simpa using hx
    simp [this, hx]
 have k := key ((st.drop p).take m)
 have hlen : ((st.drop p).take m).length = m := by simp; omega
 have get : ∀ i, i < m -> ((st.drop p).take m)[i]? = some (gf st (p + i)) := fun i hi => by
  rw [List.getElem?_take, if_pos hi, List.getElem?_drop]
  unfold gf
  rw [List.getD_eq_getElem?_getD, List.getElem?_eq_getElem (by omega)]; rfl
 rw [hlen] at k
 refine ⟨k.1, fun x h1 h2 => ?_, fun hlt => ?_⟩
 ·have h3 := k.2.1 (x - p) (by unfold runL at h2; omega)
  have hle : runL st p m <= m := k.1
  rw [get _ (by omega), show p + (x - p) = x by omega] at h3
  exact Option.some.inj h3
 ·have h3 := k.2.2 hlt
  have e : (((st.drop p).take m).takeWhile (· == 2)).length = runL st p m := rfl
  rw [e, get _ hlt] at h3
  exact fun e => h3 (congrArg some e)
theorem QH {st : List Nat} {e : Nat} (he : e <= st.length) : ∀ (f p : Nat), (∀ r ∈ Z6 st e f p, 1 <= r.2 /\ p <= r.1 /\ r.1 + r.2 <= e /\ ∀ x, r.1 <= x -> x < r.1 + r.2 -> gf st x = 2) /\ (Z6 st e f p).Pairwise (fun a b => a.1 + a.2 <= b.1) ∧
 (e - p < f -> ∀ x, p <= x -> x < e -> gf st x = 2 -> inR (Z6 st e f p) x) /\ ((Z6 st e f p).map (·.2)).sum <= e - p
 | 0, p => ⟨by simp [Z6], by simp [Z6], fun h => by omega, by simp [Z6]⟩
 | f + 1, p => by
  rw [Z6]
  split
  ·rename_i hp
   exact ⟨by simp, by simp, fun _ x h1 h2 => by omega, by simp⟩
  ·rename_i hp
   have hr := WdY (st := st) (p := p) (m := e - p) (by omega)
   split
   ·rename_i h0
    obtain ⟨i1, i2, i3, i4⟩ := QH he f (p + 1)
    refine ⟨fun r hr' => ?_, i2, fun hf x h1 h2 h3 => ?_, by omega⟩
    ·have := i1 r hr'; exact ⟨this.1, by omega, this.2.2⟩
    ·by_cases hx : x = p
     ·subst hx
      rw [h0] at hr
      exact (hr.2.2 (by omega) (by simpa using h3)).elim
     ·exact i3 (by omega) x (by omega) h2 h3
   ·rename_i h0
    obtain ⟨i1, i2, i3, i4⟩ := QH he f (p + runL st p (e - p) + 1)
    refine ⟨fun r hr' => ?_, List.pairwise_cons.2 ⟨fun r hr' => ?_, i2⟩, fun hf x h1 h2 h3 => ?_, ?_⟩
    ·rcases List.mem_cons.1 hr' with rfl | hr'
     ·exact ⟨by simp only; omega, Nat.le_refl _, by simp only; omega, hr.2.1⟩
     ·have := i1 r hr'; exact ⟨this.1, by omega, this.2.2⟩
    ·have := i1 r hr'; simp only; omega
    ·by_cases hx : x < p + runL st p (e - p)
     ·exact ⟨_, List.mem_cons_self .., h1, hx⟩
     ·by_cases hx2 : x = p + runL st p (e - p)
      ·subst hx2
       exact (hr.2.2 (by omega) h3).elim
      ·obtain ⟨r, hr', h4⟩ := i3 (by omega) x (by omega) h2 h3
       exact ⟨r, List.mem_cons_of_mem _ hr', h4⟩
    ·simp only [List.map_cons, List.sum_cons]; omega
theorem WcF (st : List Nat) (l : List Nat) (h : Nat) : (insH st l h).Perm (h :: l) := by
 unfold insH
 refine List.perm_middle.trans ?_
 rw [List.takeWhile_append_dropWhile]
theorem Wdo (st : List Nat) : (ordT st).Perm ((List.range (st.length / 16)).filter fun h => 0 < cntR st (16 * h) (16 * h + 16) 2) := by
 unfold ordT
 have key : ∀ (l m : List Nat), (l.foldl (insH st) m).Perm (l ++ m) := by
  intro l
  induction l with
  | nil => intro m; exact List.Perm.refl _
  | cons x l ih =>
   intro m
   rw [List.foldl_cons, List.cons_append]
   refine (ih _).trans ?_
   refine ((WcF st m x).append_left l).trans ?_
   exact List.perm_middle
 simpa using key _ []
theorem Wbu (want : Int) : ∀ (x : Nat) (l : List (Nat × Nat)), (cutW want x l).Sublist l
 | x, [] => by simp [cutW]
 | x, r :: l => by
  rw [cutW]; split
  ·exact List.nil_sublist _
  ·exact (Wbu want (x + r.2) l).cons_cons r
theorem GL {want : Int} : ∀ (x : Nat) (l : List (Nat × Nat)), (∀ r ∈ l, 1 <= r.2) -> ((x + (l.map (·.2)).sum : Nat) : Int) <= want -> cutW want x l = l
 | x, [], _, _ => by simp [cutW]
 | x, r :: l, hp, hs => by
  have := hp r (by simp)
  simp only [List.map_cons, List.sum_cons] at hs
  rw [cutW, if_neg (by omega), GL (x + r.2) l (fun q hq => hp q (by simp [hq])) (by omega)]
theorem WeT {st : List Nat} (h16 : st.length % 16 = 0) : (∀ r ∈ (ordT st).flatMap (Ko st), 1 <= r.2 /\ ∀ x, r.1 <= x -> x < r.1 + r.2 -> gf st x = 2) /\ ((ordT st).flatMap (Ko st)).Pairwise (fun a b => a.1 + a.2 <= b.1 ∨ b.1 + b.2 <= a.1) ∧
 (∀ x, gf st x = 2 -> inR ((ordT st).flatMap (Ko st)) x) /\ (((ordT st).flatMap (Ko st)).map (·.2)).sum <= st.length := by
 have hp := Wdo st
 have hlt : ∀ h ∈ ordT st, 16 * h + 16 <= st.length := fun h hh => by
  have := (List.mem_filter.1 (hp.subset hh)).1
  rw [List.mem_range] at this; omega
 have hnd : (ordT st).Nodup := hp.nodup_iff.2 (List.nodup_range.filter _)
 have hlen : (ordT st).length <= st.length / 16 := by
  rw [hp.length_eq]
  exact Nat.le_trans (List.length_filter_le _ _) (by simp)
 refine ⟨fun r hr => ?_, ?_, fun x hx => ?_, ?_⟩
 ·obtain ⟨h, hh, hr⟩ := List.mem_flatMap.1 hr
  have := (QH (hlt h hh) 17 (16 * h)).1 r hr
  exact ⟨this.1, this.2.2.2⟩
 ·have key : ∀ l : List Nat, l.Nodup -> (∀ h ∈ l, 16 * h + 16 <= st.length) -> (l.flatMap (Ko st)).Pairwise (fun a b => a.1 + a.2 <= b.1 ∨ b.1 + b.2 <= a.1) := by
   intro l
   induction l with
   | nil => intro _ _; simp
   | cons h l ih =>
    intro hn hl
    have hn := List.nodup_cons.1 hn
    rw [List.flatMap_cons]
    refine List.pairwise_append.2 ⟨(QH (hl h (by simp)) 17 (16 * h)).2.1.imp fun {a b} hab => .inl hab, ih hn.2 fun g hg => hl g (by simp [hg]), fun a ha b hb => ?_⟩
    obtain ⟨g, hg, hb⟩ := List.mem_flatMap.1 hb
    have h1 := (QH (hl h (by simp)) 17 (16 * h)).1 a ha
    have h2 := (QH (hl g (by simp [hg])) 17 (16 * g)).1 b hb
    have hne : h ≠ g := fun e => hn.1 (e ▸ hg)
    omega
  exact key _ hnd hlt
 ·have hxl : x < st.length := Wgn (by omega)
  have hm : x / 16 ∈ ordT st := hp.symm.subset (List.mem_filter.2 ⟨List.mem_range.2 (by omega), by
   have : cntR st (16 * (x / 16)) (16 * (x / 16) + 16) 2 ≠ 0 := fun h0 => by
    rw [Vi (by omega) (by omega)] at h0
    exact h0 x (by omega) (by omega) hx
   simp; omega⟩)
  obtain ⟨r, hr, h1⟩ := (QH (hlt _ hm) 17 (16 * (x / 16))).2.2.1 (by omega) x (by omega) (by omega) hx
  exact ⟨r, List.mem_flatMap.2 ⟨_, hm, hr⟩, h1⟩
 ·have key : ∀ l : List Nat, (∀ h ∈ l, 16 * h + 16 <= st.length) -> ((l.flatMap (Ko st)).map (·.2)).sum <= 16 * l.length := by
   intro l
   induction l with
   | nil => intro _; simp
   | cons h l ih =>
    intro hl
    have h1 := (QH (hl h (by simp)) 17 (16 * h)).2.2.2
    have h2 := ih fun g hg => hl g (by simp [hg])
    rw [List.flatMap_cons, List.map_append, List.sum_append, List.length_cons]
    have h1 : ((Ko st h).map (·.2)).sum <= 16 * h + 16 - 16 * h := h1
    omega
  have := key _ hlt
  omega
theorem WaJ (h : GA A) (hw : Ow A sp) {want : Int} (h0 : 0 <= want) : Rlz (Y8 A) (relS A sp want).1 sp (relS A sp want).2 (KD A want) /\ (1024 <= want -> ∀ p, (relS A sp want).1.f p ≠ 2) := by
 obtain ⟨o, _, _⟩ := Vk h
 have hl16 : (Y8 A).st.length % 16 = 0 := by rw [o.ga.pg.len]; exact o.ga.pg.n16
 obtain ⟨r1, r2, r3, r4⟩ := WeT hl16
 have hsub := Wbu want 0 ((ordT (Y8 A).st).flatMap (Ko (Y8 A).st))
 have e : relS A sp want = (KD A want).foldl rel1 (Y8 A, sp) := by unfold relS; rw [if_neg (by omega)]
 rw [e]
 have t := Wd8 (KD A want) o.ga (hw.kp o.kp) (fun r hr => r1 r (hsub.subset hr)) (r2.sublist hsub)
 refine ⟨t, fun hbig p hp => ?_⟩
 have hn := o.ga.pg.n2
 have hfull : KD A want = (ordT (Y8 A).st).flatMap (Ko (Y8 A).st) := GL 0 _ (fun r hr => (r1 r hr).1) (by
  rw [o.ga.pg.len] at r4; omega)
 by_cases hi : inR (KD A want) p
 ·rw [(t.i p hi).2.1] at hp; omega
 ·rw [(t.o p hi).1] at hp
  exact hi (by rw [hfull]; exact r3 p hp)
theorem UI (h : GA A) (hw : Ow A sp) (want : Int) : St A (relS A sp want).1 sp (relS A sp want).2 /\ (relS A sp want).1.runs = A.runs /\ (relS A sp want).1.tra = A.tra /\ ∀ j y, TkA (relS A sp want).1 j y ↔ TkA A j y := by
 by_cases h0 : 0 <= want
 ·obtain ⟨t, _⟩ := WaJ h hw h0
  obtain ⟨o, e, k⟩ := Vk h
  refine ⟨(o.st hw).trans t.st, t.runs.trans o.runs, t.tra.trans e, fun j y => ?_⟩
  rw [← k]
  unfold TkA Cl; rw [t.cen, t.st.tb]
 ·have e : relS A sp want = (A, sp) := by unfold relS; rw [if_pos (by omega)]
  rw [e]; exact ⟨St.refl h hw, rfl, rfl, fun _ _ => Iff.rfl⟩
end Go.Ar
namespace Go.Ar


structure Pc where
 k : Nat
 cls : Int
 addr : Nat
 size : Nat
 moved : Bool
 deriving DecidableEq
structure Wd where
 tb : List Cls
 sp : Sp
 ars : List AR
 held : List Pc
structure Act where
 kd : Int
 ar : Int
 cl : Int
 a : Int
 b : Int
 l : List Int
abbrev Key := Nat × Int × Nat
def Pc.key (p : Pc) : Key := (p.k, p.cls, p.addr)
def isAt (k : Nat) (cls x : Int) (p : Pc) : Bool := p.k == k && (p.cls == cls && ((p.addr : Int) == x && !p.moved))
def atW (held : List Pc) (k : Nat) (cls x : Int) : Option Nat := held.findIdx? (isAt k cls x)
def ownW (held : List Pc) (k : Nat) (cls : Int) (l : List Int) : Bool := l.all (fun x => (atW held k cls x).isSome) && decide l.Nodup
def Gy (k : Nat) (cls : Int) (held : List Pc) (x : Int) : List Pc := match atW held k cls x with
 | some i => held.take i ++ held.drop (i + 1)
 | none => held
def Kr (held : List Pc) (k : Nat) (cls : Int) (l : List Int) : List Pc := l.foldl (Gy k cls) held
def isOf (k : Nat) (cls : Int) (l : List Int) (p : Pc) : Bool := p.k == k && (p.cls == cls && l.contains (p.addr : Int))
def Qm (held : List Pc) (k : Nat) (cls : Int) (l : List Int) (m : Bool) : List Pc := held.map fun p => if isOf k cls l p then { p with moved := m } else p
def Z9 (held : List Pc) (x : Int) : Bool := held.any fun p => decide ((p.addr : Int) <= x) && decide (x - (p.addr : Int) < (p.size : Int))
def WaA (us : List AR) (held : List Pc) : List Pc := held.filter fun p => !p.moved || (match us[p.k]? with
 | some A => UD A (p.addr : Int)
 | none => false)
def numW (n : Nat) (x : Int) : Nat := (x % (n : Int)).toNat
def WeG (A : AR) (x : Int) : Int := if (K3 A x).isSome then 0 else 8
def szOf (tb : List Cls) (k : Int) : Nat := ((tb[k.toNat]?).map (·.size)).getD 0
def Wd.put (W : Wd) (k : Nat) (A : AR) (sp : Sp) (held : List Pc) : Wd := { W with sp := sp, ars := W.ars.set k A, held := held }
def actW (W : Wd) (k : Nat) (A : AR) (x : Act) : Wd × Int :=
 if x.kd = 0 then (W.put k (Z0 A W.sp x.cl).1 (Z0 A W.sp x.cl).2 W.held, Kt A W.sp x.cl)
 else if x.kd = 1 then (W.put k (YE A x.cl x.a) W.sp (W.held ++ (YM A x.cl x.a).map fun y => ⟨k, x.cl, y, szOf W.tb x.cl, false⟩), Zi A x.cl x.a)
 else if x.kd = 2 then (if ownW W.held k x.cl x.l then (W.put k (YF A x.cl x.l) W.sp (if Zn A x.cl x.l = 0 then Kr W.held k x.cl x.l else W.held), Zn A x.cl x.l) else (W, 0))
 else if x.kd = 3 then (W.put k (Y4 A x.cl) W.sp (Qm W.held k x.cl (YP A x.cl) false), Z4 A x.cl)
 else if x.kd = 4 then (if ownW W.held k x.cl x.l then (W.put k (QA A x.cl x.l) W.sp (if KQ A x.cl x.l then Qm W.held k x.cl x.l true else W.held), Vu A x.cl x.l) else (W, 0))
 else if x.kd = 5 then (W.put k (YO A W.sp x.a x.b).1 (YO A W.sp x.a x.b).2 (if ZS A W.sp x.a x.b = 0 then W.held ++ [⟨k, -1, Q1 A W.sp x.a x.b * 256, x.a.toNat * 256, false⟩] else W.held), ZS A W.sp x.a x.b)
 else if x.kd = 6 then (W.put k (ZR A x.a) W.sp (if ZP A x.a = 0 then Kr W.held k (-1) [x.a * 256] else W.held), ZP A x.a)
 else if x.kd = 7 then (W, WeG A x.a)
 else if x.kd = 10 then (W.put k (relS A W.sp x.a).1 (relS A W.sp x.a).2 W.held, relE x.a)
 else if x.kd = 11 then (W.put k (V6 A W.sp).1 (V6 A W.sp).2 W.held, 0)
 else if x.kd = 12 then (W.put k (KP A) W.sp (WaA (W.ars.set k (KP A)) W.held), 0)
 else if x.kd = 13 then (if Z9 W.held x.a then ({ W with sp := Qi W.sp x.a x.b }, accE W.sp x.a) else (W, 0))
 else (W, 0)
def doW (W : Wd) (x : Act) : Wd × Int := match W.ars[numW W.ars.length x.ar]? with
 | some A => actW W (numW W.ars.length x.ar) A x
 | none => (W, 0)
def Hd (A : AR) (p : Pc) : Prop := (p.cls = -1 /\ p.moved = false /\ ∃ r ∈ A.runs, p.addr = r.1 * 256 /\ p.size = r.2 * 256) ∨
 ∃ (j : Nat) (c : Cls), p.cls = j /\ A.tb[j]? = some c /\ p.size = c.size /\ TkA A j (p.addr : Int) /\ (p.moved = true ↔ InT A j (p.addr : Int))
structure WI (W : Wd) : Prop where
 ga : ∀ (k : Nat) (A : AR), W.ars[k]? = some A -> GA A
 ow : ∀ (k : Nat) (A : AR), W.ars[k]? = some A -> Ow A W.sp
 tb : ∀ (k : Nat) (A : AR), W.ars[k]? = some A -> A.tb = W.tb
 low : ∀ (k : Nat) (A : AR), W.ars[k]? = some A -> ∀ p, p < 16 -> A.f p = 0
 own : ∀ p, gf W.sp.st p ≠ 0 -> ∃ (k : Nat) (A : AR), W.ars[k]? = some A /\ A.f p ≠ 0
 one : ∀ p (k l : Nat) (A B : AR), W.ars[k]? = some A -> W.ars[l]? = some B -> A.f p ≠ 0 -> B.f p ≠ 0 -> k = l
 hk : (W.held.map Pc.key).Nodup
 hf : ∀ p ∈ W.held, ∃ A, W.ars[p.k]? = some A /\ Hd A p
 ht : ∀ (k : Nat) (A : AR), W.ars[k]? = some A -> ∀ (j : Nat) (y : Int), TkA A j y -> ∃ p ∈ W.held, p.k = k /\ p.cls = j /\ (p.addr : Int) = y
 hr : ∀ (k : Nat) (A : AR), W.ars[k]? = some A -> ∀ r ∈ A.runs, ∃ p ∈ W.held, p.k = k /\ p.cls = -1 /\ p.addr = r.1 * 256
variable {W : Wd} {k : Nat} {A : AR}
theorem Kl {α : Type} {l : List α} {k j : Nat} {x y : α} (h : (l.set k x)[j]? = some y) : (j = k /\ y = x /\ k < l.length) ∨ (j ≠ k /\ l[j]? = some y) := by
 by_cases hjk : j = k
 ·subst hjk
  have hl : j < l.length := by have := (List.getElem?_eq_some_iff.1 h).1; simpa using this
  rw [List.getElem?_set_self hl] at h
  exact .inl ⟨rfl, (Option.some.inj h).symm, hl⟩
 ·rw [List.getElem?_set_ne (Ne.symm hjk)] at h; exact .inr ⟨hjk, h⟩
theorem WI.unique (h : WI W) {p q : Pc} (hp : p ∈ W.held) (hq : q ∈ W.held) (e : p.key = q.key) : p = q := by
 obtain ⟨i, hi⟩ := List.getElem?_of_mem hp
 obtain ⟨j, hj⟩ := List.getElem?_of_mem hq
 obtain ⟨hi1, rfl⟩ := List.getElem?_eq_some_iff.1 hi
 obtain ⟨hj1, rfl⟩ := List.getElem?_eq_some_iff.1 hj
 have := List.pairwise_iff_getElem.1 h.hk
 rcases Nat.lt_trichotomy i j with hl | hl | hl
 ·exact (this i j (by simpa using hi1) (by simpa using hj1) hl (by simpa using e)).elim
 ·subst hl; rfl
 ·exact (this j i (by simpa using hj1) (by simpa using hi1) hl (by simpa using e.symm)).elim
theorem WI.step (h : WI W) (hk : W.ars[k]? = some A) {B : AR} {sp' : Sp} {held' : List Pc} (s : St A B W.sp sp') (h1 : (held'.map Pc.key).Nodup) (h2 : ∀ p ∈ held', p.k = k -> Hd B p) (h3 : ∀ p, p.k ≠ k -> (p ∈ held' ↔ p ∈ W.held))
 (h4 : ∀ (j : Nat) (y : Int), TkA B j y -> ∃ p ∈ held', p.k = k /\ p.cls = j /\ (p.addr : Int) = y) (h5 : ∀ r ∈ B.runs, ∃ p ∈ held', p.k = k /\ p.cls = -1 /\ p.addr = r.1 * 256) : WI (W.put k B sp' held') := by
 have hkl := (List.getElem?_eq_some_iff.1 hk).1
 have self : (W.ars.set k B)[k]? = some B := List.getElem?_set_self hkl
 have ne : ∀ {j : Nat} {C : AR}, j ≠ k -> W.ars[j]? = some C -> (W.ars.set k B)[j]? = some C := fun hj hC => (List.getElem?_set_ne (Ne.symm hj)).trans hC
 have oth : ∀ {j : Nat} {C : AR}, j ≠ k -> W.ars[j]? = some C -> ∀ p, C.f p ≠ 0 -> A.f p = 0 /\ B.f p = 0 /\ gf sp'.st p = gf W.sp.st p := by
  intro j C hj hC p hp
  have hA : A.f p = 0 := Classical.byContradiction fun hn => hj (h.one p j k C A hC hk hp hn)
  have hB : B.f p = 0 := Classical.byContradiction fun hn => by
   have := (s.new p hA hn).1
   exact (h.ow j C hC).own p hp this
  exact ⟨hA, hB, s.same p hA hB⟩
 refine ⟨fun j C hj => ?_, fun j C hj => ?_, fun j C hj => ?_, fun j C hj p hp => ?_, fun p hp => ?_, fun p j l C D hj hl hC hD => ?_, h1, fun p hp => ?_, fun j C hj i y hy => ?_, fun j C hj r hr => ?_⟩
 ·rcases Kl hj with ⟨rfl, rfl, _⟩ | ⟨_, hj⟩
  ·exact s.ga
  ·exact h.ga j C hj
 ·rcases Kl hj with ⟨rfl, rfl, _⟩ | ⟨hne, hj⟩
  ·exact s.ow
  ·have o := h.ow j C hj
   have oA := h.ow k A hk
   refine ⟨?_, fun p hp => ?_, fun p hp => ?_, s.ow.le⟩
   ·show sp'.st.length = C.n
    rw [s.ow.l, s.n, ← oA.l, o.l]
   ·show gf sp'.st p ≠ 0
    rw [(oth hne hj p hp).2.2]; exact o.own p hp
   ·show gf sp'.st p = 1
    rw [(oth hne hj p (by omega)).2.2]; exact o.cl p hp
 ·rcases Kl hj with ⟨rfl, rfl, _⟩ | ⟨_, hj⟩
  ·exact s.tb.trans (h.tb _ A hk)
  ·exact h.tb j C hj
 ·rcases Kl hj with ⟨rfl, rfl, _⟩ | ⟨_, hj⟩
  ·apply Classical.byContradiction; intro hn
   have := s.new p (h.low _ A hk p hp) hn
   omega
  ·exact h.low j C hj p hp
 ·have hp : gf sp'.st p ≠ 0 := hp
  by_cases hB : B.f p = 0
  ·by_cases hA : A.f p = 0
   ·rw [s.same p hA hB] at hp
    obtain ⟨j, C, hj, hC⟩ := h.own p hp
    have hne : j ≠ k := by
     rintro rfl
     rw [hk] at hj; cases hj; exact hC hA
    exact ⟨j, C, ne hne hj, hC⟩
   ·exact (hp (s.gone p hA hB)).elim
  ·exact ⟨k, B, self, hB⟩
 ·rcases Kl hj with ⟨rfl, rfl, _⟩ | ⟨hne, hj'⟩
  ·rcases Kl hl with ⟨rfl, rfl, _⟩ | ⟨hne2, hl'⟩
   ·rfl
   ·exact (hC (oth hne2 hl' p hD).2.1).elim
  ·rcases Kl hl with ⟨rfl, rfl, _⟩ | ⟨hne2, hl'⟩
   ·exact (hD (oth hne hj' p hC).2.1).elim
   ·exact h.one p j l C D hj' hl' hC hD
 ·by_cases hpk : p.k = k
  ·exact ⟨B, by rw [hpk]; exact self, h2 p hp hpk⟩
  ·obtain ⟨C, hC, hh⟩ := h.hf p ((h3 p hpk).1 hp)
   exact ⟨C, ne hpk hC, hh⟩
 ·rcases Kl hj with ⟨rfl, rfl, _⟩ | ⟨hne, hj⟩
  ·exact h4 i y hy
  ·obtain ⟨p, hp, e1, e2, e3⟩ := h.ht j C hj i y hy
   exact ⟨p, (h3 p (by rw [e1]; exact hne)).2 hp, e1, e2, e3⟩
 ·rcases Kl hj with ⟨rfl, rfl, _⟩ | ⟨hne, hj⟩
  ·exact h5 r hr
  ·obtain ⟨p, hp, e1, e2, e3⟩ := h.hr j C hj r hr
   exact ⟨p, (h3 p (by rw [e1]; exact hne)).2 hp, e1, e2, e3⟩
theorem Hd.to {B : AR} {p : Pc} (h : Hd A p) (e1 : B.tb = A.tb) (e2 : B.runs = A.runs) (e3 : ∀ j y, TkA A j y -> TkA B j y) (e4 : ∀ j y, InT B j y ↔ InT A j y) : Hd B p := by
 rcases h with ⟨h1, h2, r, hr, h3⟩ | ⟨j, c, h1, h2, h3, h4, h5⟩
 ·exact .inl ⟨h1, h2, r, by rw [e2]; exact hr, h3⟩
 ·exact .inr ⟨j, c, h1, by rw [e1]; exact h2, h3, e3 _ _ h4, by rw [e4]; exact h5⟩
theorem WI.hd (h : WI W) (hk : W.ars[k]? = some A) {p : Pc} (hp : p ∈ W.held) (e : p.k = k) : Hd A p := by
 obtain ⟨C, hC, hh⟩ := h.hf p hp
 rw [e, hk] at hC; cases hC; exact hh
theorem WI.stepSame (h : WI W) (hk : W.ars[k]? = some A) {B : AR} {sp' : Sp} (s : St A B W.sp sp') (e2 : B.runs = A.runs) (e3 : ∀ j y, TkA B j y ↔ TkA A j y) (e4 : B.tra = A.tra) : WI (W.put k B sp' W.held) :=
 h.step hk s h.hk (fun p hp e => (h.hd hk hp e).to s.tb e2 (fun j y => (e3 j y).2) fun j y => by unfold InT; rw [e4]) (fun _ _ => Iff.rfl) (fun j y hy => h.ht k A hk j y ((e3 j y).1 hy)) fun r hr => h.hr k A hk r (by rw [← e2]; exact hr)
theorem WI.cls (h : WI W) {p : Pc} (hp : p ∈ W.held) {j : Nat} (e : p.cls = j) (hk : W.ars[p.k]? = some A) : ∃ c, A.tb[j]? = some c /\ p.size = c.size /\ TkA A j (p.addr : Int) /\ (p.moved = true ↔ InT A j (p.addr : Int)) := by
 rcases h.hd hk hp rfl with ⟨h1, _⟩ | ⟨i, c, h1, h2, h3, h4, h5⟩
 ·omega
 ·obtain rfl : i = j := by omega
  exact ⟨c, h2, h3, h4, h5⟩
theorem WI.run (h : WI W) {p : Pc} (hp : p ∈ W.held) (e : p.cls = -1) (hk : W.ars[p.k]? = some A) : p.moved = false /\ ∃ r ∈ A.runs, p.addr = r.1 * 256 /\ p.size = r.2 * 256 := by
 rcases h.hd hk hp rfl with ⟨_, h2⟩ | ⟨i, c, h1, _⟩
 ·exact h2
 ·omega
theorem Un {k : Nat} {cls x : Int} {p : Pc} : isAt k cls x p = true ↔ p.k = k /\ p.cls = cls /\ (p.addr : Int) = x /\ p.moved = false := by
 simp [isAt]
theorem Y7 {k : Nat} {cls : Int} {l : List Int} {p : Pc} : isOf k cls l p = true ↔ p.k = k /\ p.cls = cls /\ (p.addr : Int) ∈ l := by
 simp [isOf]
theorem WbP {held : List Pc} {k : Nat} {cls x : Int} {i : Nat} (h : atW held k cls x = some i) : ∃ p, held[i]? = some p /\ isAt k cls x p = true := by
 obtain ⟨hi, hp, _⟩ := List.findIdx?_eq_some_iff_getElem.1 h
 exact ⟨held[i], List.getElem?_eq_getElem hi, hp⟩
theorem WhL {held : List Pc} {k : Nat} {cls x : Int} {p : Pc} (hp : p ∈ held) (h : isAt k cls x p = true) : (atW held k cls x).isSome = true := by
 unfold atW
 rw [List.findIdx?_isSome, List.any_eq_true]
 exact ⟨p, hp, h⟩
theorem Ka {held : List Pc} {k : Nat} {cls : Int} {l : List Int} : ownW held k cls l = true ↔ (∀ x ∈ l, ∃ p ∈ held, isAt k cls x p = true) /\ l.Nodup := by
 unfold ownW
 rw [Bool.and_eq_true, List.all_eq_true, decide_eq_true_eq]
 refine and_congr_left fun _ => forall_congr' fun x => imp_congr_right fun hx => ?_
 unfold atW
 rw [List.findIdx?_isSome, List.any_eq_true]
theorem GE {held : List Pc} (hn : (held.map Pc.key).Nodup) {i : Nat} {p : Pc} (hi : held[i]? = some p) : held.take i ++ held.drop (i + 1) = held.filter fun q => !(q.key == p.key) := by
 induction held generalizing i with
 | nil => simp at hi
 | cons q l ih =>
  rw [List.map_cons, List.nodup_cons] at hn
  cases i with
  | zero =>
   simp only [List.getElem?_cons_zero, Option.some.injEq] at hi
   subst hi
   have : l.filter (fun r => !(r.key == q.key)) = l := by
    rw [List.filter_eq_self]
    intro r hr
    have : r.key ≠ q.key := fun e => hn.1 (List.mem_map.2 ⟨r, hr, e⟩)
    simpa using this
   simp [this]
  | succ i =>
   have hi : l[i]? = some p := by simpa using hi
   have hne : q.key ≠ p.key := fun e => hn.1 (List.mem_map.2 ⟨p, List.mem_of_getElem? hi, e.symm⟩)
   rw [List.take_succ_cons, List.drop_succ_cons, List.cons_append, ih hn.2 hi, List.filter_cons]
   have : (!(q.key == p.key)) = true := by simpa using hne
   rw [this]; rfl
theorem Q9 {held : List Pc} (hn : (held.map Pc.key).Nodup) (f : Pc -> Bool) : ((held.filter f).map Pc.key).Nodup := hn.sublist (List.filter_sublist.map _)
theorem WbG {k : Nat} {cls : Int} : ∀ (l : List Int) {held : List Pc}, (held.map Pc.key).Nodup -> (∀ x ∈ l, ∃ p ∈ held, isAt k cls x p = true) -> l.Nodup -> Kr held k cls l = held.filter fun p => !isOf k cls l p
 | [], held, _, _, _ => by
  have : ∀ p, isOf k cls [] p = false := fun p => by simp [isOf]
  exact (List.filter_eq_self.2 fun p _ => by rw [this]; rfl).symm
 | x :: l, held, hn, ho, hl => by
  obtain ⟨p, hp, hx⟩ := ho x (by simp)
  obtain ⟨i, hi⟩ := Option.isSome_iff_exists.1 (WhL hp hx)
  obtain ⟨q, hq, hqx⟩ := WbP hi
  have hl' := List.nodup_cons.1 hl
  have e1 : Gy k cls held x = held.filter fun r => !(r.key == q.key) := by unfold Gy; rw [hi]; exact GE hn hq
  obtain ⟨q1, q2, q3, q4⟩ := Un.1 hqx
  have ih := WbG l (held := held.filter fun r => !(r.key == q.key)) (Q9 hn _) (fun y hy => by
   obtain ⟨r, hr, hry⟩ := ho y (by simp [hy])
   refine ⟨r, List.mem_filter.2 ⟨hr, ?_⟩, hry⟩
   have : r.key ≠ q.key := fun e => by
    have e3 : r.addr = q.addr := congrArg (fun z : Key => z.2.2) e
    have := (Un.1 hry).2.2.1
    have : y = x := by omega
    subst this; exact hl'.1 hy
   simpa using this) hl'.2
  unfold Kr at ih ⊢
  rw [List.foldl_cons, e1, ih, List.filter_filter]
  apply List.filter_congr
  intro r hr
  have e : (r.key == q.key) = (r.k == k && (r.cls == cls && (r.addr : Int) == x)) := by
   rw [Bool.eq_iff_iff]
   simp only [Pc.key, beq_iff_eq, Bool.and_eq_true, Prod.mk.injEq]
   constructor
   ·rintro ⟨a, b, c⟩; exact ⟨by omega, by omega, by omega⟩
   ·rintro ⟨a, b, c⟩; exact ⟨by omega, by omega, by omega⟩
  rw [e]
  unfold isOf
  rw [List.contains_cons]
  cases r.k == k <;> cases r.cls == cls <;> cases ((r.addr : Int) == x) <;> cases l.contains (r.addr : Int) <;> rfl
theorem Va {held : List Pc} {k : Nat} {cls : Int} {l : List Int} {m : Bool} {p : Pc} : p ∈ Qm held k cls l m ↔ ∃ q ∈ held, p = if isOf k cls l q then { q with moved := m } else q := by
 unfold Qm
 rw [List.mem_map]
 constructor
 ·rintro ⟨q, hq, rfl⟩; exact ⟨q, hq, rfl⟩
 ·rintro ⟨q, hq, rfl⟩; exact ⟨q, hq, rfl⟩
theorem WbS {held : List Pc} {k : Nat} {cls : Int} {l : List Int} {m : Bool} : (Qm held k cls l m).map Pc.key = held.map Pc.key := by
 unfold Qm
 rw [List.map_map]
 apply List.map_congr_left
 intro p _
 simp only [Function.comp]
 split <;> rfl
end Go.Ar
namespace Go.Ar


variable {W : Wd} {k : Nat} {A : AR}
theorem Um (hk : W.ars[k]? = some A) (h : WI W) : WI (W.put k A W.sp W.held) := h.stepSame hk (St.refl (h.ga k A hk) (h.ow k A hk)) rfl (fun _ _ => Iff.rfl) rfl
theorem WdL (h : GA A) {j : Nat} {c : Cls} {ss : List SpA} (hc : Cl A j c ss) {l : Nat} {s : SpA} {i : Nat} (hs : ss[l]? = some s) (hi : i < c.n) {x : Nat} (h1 : at_ c s i <= x) (h2 : x < at_ c s i + c.size) : K3 A (x : Int) = some ((j : Int), at_ c s i) := by
 have hC := h.cen j c ss hc
 have hp := VV hC.pos hi h1 h2
 have hu := h.used hc (List.mem_of_getElem? hs) hp.1 hp.2
 have hlt := h.pg.lt (p := x / 256) (by rw [hu.1]; omega)
 have hn := h.pg.n2
 have hjl := hc.lt
 have htb := h.tb
 unfold K3
 rw [if_neg (by omega), Int.toNat_natCast]
 simp only
 rw [if_pos (show x / 256 < 1024 by omega), hu.2, if_neg (by omega), if_neg (by omega), Nat.add_sub_cancel, hc.1, hc.2]
 simp only
 rw [(G4 hC).2 ⟨l, s, i, hs, hi, rfl, by omega, by omega⟩]; rfl
theorem G6 (h : GA A) {r : Nat × Nat} (hr : r ∈ A.runs) {x : Nat} (h1 : r.1 * 256 <= x) (h2 : x < (r.1 + r.2) * 256) : K3 A (x : Int) = some (-1, r.1 * 256) := by
 have hu := h.usedR hr (p := x / 256) (by omega) (by omega)
 have hlt := h.pg.lt (p := x / 256) (by rw [hu.1]; omega)
 have hn := h.pg.n2
 unfold K3
 rw [if_neg (by omega), Int.toNat_natCast]
 simp only
 rw [if_pos (show x / 256 < 1024 by omega), hu.2, if_neg (by omega), if_pos rfl, HR h.runsOk hr (by omega) (by omega)]; rfl
theorem Wcg (h : GA A) {x : Int} {k : Int} {a : Nat} (hf : K3 A x = some (k, a)) : (k = -1 /\ ∃ r ∈ A.runs, a = r.1 * 256 /\ ((r.1 * 256 : Nat) : Int) <= x /\ x < (((r.1 + r.2) * 256 : Nat) : Int)) ∨
 ∃ (j : Nat) (c : Cls) (ss : List SpA) (l : Nat) (s : SpA) (i : Nat), k = j /\ Cl A j c ss /\ ss[l]? = some s /\ i < c.n /\ a = at_ c s i /\ ((at_ c s i : Nat) : Int) <= x /\ x < ((at_ c s i + c.size : Nat) : Int) := by
 unfold K3 at hf
 split at hf
 ·cases hf
 ·rename_i hx
  obtain ⟨y, rfl⟩ := Int.eq_ofNat_of_zero_le (show 0 <= x by omega)
  rw [Int.toNat_natCast] at hf
  simp only at hf
  by_cases hlt : y / 256 < 1024
  ·rw [if_pos hlt] at hf
   split at hf
   ·cases hf
   ·split at hf
    ·rename_i h0 h41
     obtain ⟨r, hr, he⟩ := Option.map_eq_some_iff.1 hf
     have hm := List.mem_of_find?_eq_some hr
     have hp := List.find?_some hr
     simp at hp
     cases he
     exact .inl ⟨rfl, r, hm, rfl, by omega, by omega⟩
    ·rename_i h0 h41
     split at hf
     ·rename_i c ss h1 h2
      obtain ⟨a', ha, he⟩ := Option.map_eq_some_iff.1 hf
      cases he
      have hc : Cl A (A.ow (y / 256) - 1) c ss := ⟨h1, h2⟩
      obtain ⟨l, s, i, hs, hi, rfl, h3, h4⟩ := (G4 (h.cen _ _ _ hc)).1 ha
      exact .inr ⟨_, c, ss, l, s, i, rfl, hc, hs, hi, rfl, h3, h4⟩
     ·cases hf
  ·rw [if_neg hlt, if_pos rfl] at hf; cases hf
theorem TkA.find (h : GA A) {j : Nat} {x : Int} (hx : TkA A j x) : ∃ y : Nat, x = y /\ K3 A x = some ((j : Int), y) := by
 obtain ⟨c, ss, hc, ht⟩ := hx
 have hC := h.cen j c ss hc
 obtain ⟨l, s, i, hs, hi, rfl, hb⟩ := (Kn hC).1 ht
 exact ⟨_, rfl, WdL h hc hs hi (Nat.le_refl _) (by have := hC.pos; omega)⟩
theorem Us (h : GA A) {x : Int} : UD A x = true ↔ (∃ j, TkA A j x) ∨ ∃ r ∈ A.runs, x = ((r.1 * 256 : Nat) : Int) := by
 constructor
 ·intro hx
  unfold UD at hx
  split at hx
  ·rename_i k a hf
   split at hx
   ·rename_i he
    rcases Wcg h hf with ⟨rfl, r, hr, rfl, _⟩ | ⟨j, c, ss, l, s, i, rfl, hc, hs, hi, rfl, _⟩
    ·exact .inr ⟨r, hr, he.symm⟩
    ·rw [if_neg (by omega), Int.toNat_natCast, hc.1, hc.2] at hx
     exact .inl ⟨j, c, ss, hc, by simpa [Tk] using hx⟩
   ·cases hx
  ·cases hx
 ·rintro (⟨j, hj⟩ | ⟨r, hr, rfl⟩)
  ·obtain ⟨y, rfl, hf⟩ := hj.find h
   obtain ⟨c, ss, hc, ht⟩ := hj
   unfold UD
   rw [hf]
   simp only
   rw [if_pos True.intro, if_neg (by omega), Int.toNat_natCast, hc.1, hc.2]
   unfold Tk at ht
   show (isTk c ss (y : Int) == some true) = true
   rw [ht]; rfl
  ·unfold UD
   have := h.rpos r hr
   rw [G6 h hr (Nat.le_refl _) (by omega)]
   simp
theorem WI.own1 (h : WI W) (hk : W.ars[k]? = some A) {cl : Int} {l : List Int} (ho : ownW W.held k cl l = true) {j : Nat} (e : cl = j) : ∀ x ∈ l, ¬ InT A j x := by
 intro x hx hin
 obtain ⟨p, hp, hpx⟩ := (Ka.1 ho).1 x hx
 obtain ⟨p1, p2, p3, p4⟩ := Un.1 hpx
 obtain ⟨c, _, _, _, h5⟩ := h.cls hp (j := j) (by rw [p2, e]) (by rw [p1]; exact hk)
 rw [p3] at h5
 rw [h5.2 hin] at p4; cases p4
theorem WI.grow (h : WI W) (hk : W.ars[k]? = some A) (x : Int) : WI (W.put k (Z0 A W.sp x).1 (Z0 A W.sp x).2 W.held) := by
 obtain ⟨s, e1, e2, e3, _⟩ := HZ (h.ga k A hk) (h.ow k A hk) x
 exact h.stepSame hk s e1 e3 e2
theorem WI.from (h : WI W) (hk : W.ars[k]? = some A) (cl m : Int) : WI (W.put k (YE A cl m) W.sp (W.held ++ (YM A cl m).map fun y => ⟨k, cl, y, szOf W.tb cl, false⟩)) := by
 obtain ⟨o, e1, e2, e3, e4, e5⟩ := Hq (h.ga k A hk) cl m
 have tb : (YE A cl m).tb = A.tb := o.kp.tb
 have newK : ∀ y ∈ YM A cl m, ∃ j : Nat, cl = j /\ j < A.tb.length := fun y hy => e3 (fun e => by rw [e] at hy; simp at hy)
 have hnot : ∀ y ∈ YM A cl m, ∀ p ∈ W.held, ¬ (p.k = k /\ p.cls = cl /\ p.addr = y) := by
  rintro y hy p hp ⟨a1, a2, a3⟩
  obtain ⟨j, rfl, _⟩ := newK y hy
  obtain ⟨c, _, _, ht, _⟩ := h.cls hp a2 (by rw [a1]; exact hk)
  rw [a3] at ht
  exact e4 y hy (by rw [Int.toNat_natCast]; exact ht)
 refine h.step hk (o.st (h.ow k A hk)) ?_ (fun p hp e => ?_) (fun p hne => ?_) (fun j y hy => ?_) fun r hr => ?_
 ·rw [List.map_append, List.nodup_append]
  refine ⟨h.hk, ?_, fun a ha b hb e => ?_⟩
  ·rw [List.map_map]
   exact List.Pairwise.map (R := (· ≠ ·)) _ (fun a b hab e => hab (by simpa [Pc.key] using e)) e2
  ·subst e
   obtain ⟨p, hp, rfl⟩ := List.mem_map.1 ha
   obtain ⟨q, hq, e⟩ := List.mem_map.1 hb
   obtain ⟨y, hy, rfl⟩ := List.mem_map.1 hq
   simp only [Pc.key, Prod.mk.injEq] at e
   exact hnot y hy p hp ⟨e.1.symm, e.2.1.symm, e.2.2.symm⟩
 ·rcases List.mem_append.1 hp with hp | hp
  ·exact (h.hd hk hp e).to tb o.runs (fun j y hj => (e5 j y).2 (.inl hj)) fun j y => by unfold InT; rw [e1]
  ·obtain ⟨y, hy, rfl⟩ := List.mem_map.1 hp
   obtain ⟨j, rfl, hj⟩ := newK y hy
   refine .inr ⟨j, A.tb[j], rfl, by rw [tb]; exact List.getElem?_eq_getElem hj, ?_, (e5 j y).2 (.inr ⟨(Int.toNat_natCast j).symm, y, hy, rfl⟩), ?_⟩
   ·show szOf W.tb (j : Int) = _
    unfold szOf
    rw [Int.toNat_natCast, ← h.tb k A hk, List.getElem?_eq_getElem hj]; rfl
   ·constructor
    ·intro hx; cases hx
    ·rintro ⟨t, ht, hx⟩
     rw [e1] at ht
     obtain ⟨c, ss, t', hc, ht'⟩ := (h.ga k A hk).cl hj
     rw [ht] at ht'; cases ht'
     exact (e4 y hy (by rw [Int.toNat_natCast]; exact (Qv hc).2 ((h.ga k A hk).trt j c ss t hc ht _ hx))).elim
 ·rw [List.mem_append]
  constructor
  ·rintro (hp | hp)
   ·exact hp
   ·obtain ⟨y, _, rfl⟩ := List.mem_map.1 hp; exact (hne rfl).elim
  ·exact .inl
 ·rcases (e5 j y).1 hy with hy | ⟨rfl, x, hx, rfl⟩
  ·obtain ⟨p, hp, q⟩ := h.ht k A hk j y hy
   exact ⟨p, List.mem_append_left _ hp, q⟩
  ·obtain ⟨j, rfl, _⟩ := newK x hx
   exact ⟨_, List.mem_append_right _ (List.mem_map.2 ⟨x, hx, rfl⟩), rfl, by simp, rfl⟩
 ·rw [o.runs] at hr
  obtain ⟨p, hp, q⟩ := h.hr k A hk r hr
  exact ⟨p, List.mem_append_left _ hp, q⟩
theorem WI.drp (h : WI W) {cl : Int} {l : List Int} (ho : ownW W.held k cl l = true) : Kr W.held k cl l = W.held.filter fun p => !isOf k cl l p :=
 WbG l h.hk (Ka.1 ho).1 (Ka.1 ho).2
theorem WI.toC (h : WI W) (hk : W.ars[k]? = some A) {cl : Int} {l : List Int} (ho : ownW W.held k cl l = true) : WI (W.put k (YF A cl l) W.sp (if Zn A cl l = 0 then Kr W.held k cl l else W.held)) := by
 have ga := h.ga k A hk
 obtain ⟨o, e1, e2, e3⟩ := Ui ga (k := cl) (xs := l) fun h0 x hx => by
  obtain ⟨j, c, ss, rfl, _⟩ := Vf ga h0
  rw [Int.toNat_natCast]; exact h.own1 hk ho rfl x hx
 by_cases h0 : Zn A cl l = 0
 ·rw [if_pos h0, h.drp ho]
  obtain ⟨j, c, ss, rfl, hc, hA⟩ := Vf ga h0
  have e2 := e2 h0
  rw [Int.toNat_natCast] at e2
  refine h.step hk (o.st (h.ow k A hk)) (Q9 h.hk _) (fun p hp e => ?_) (fun p hne => ?_) (fun i y hy => ?_) fun r hr => ?_
  ·have hp' := List.mem_filter.1 hp
   have hno : isOf k (j : Int) l p = false := by simpa using hp'.2
   rcases h.hd hk hp'.1 e with ⟨h1, h2, r, hr, h3⟩ | ⟨i, d, h1, h2, h3, h4, h5⟩
   ·exact .inl ⟨h1, h2, r, by rw [o.runs]; exact hr, h3⟩
   ·refine .inr ⟨i, d, h1, by rw [o.kp.tb]; exact h2, h3, (e2 i _).2 ⟨h4, fun ⟨a, b⟩ => ?_⟩, by unfold InT at h5 ⊢; rw [e1]; exact h5⟩
    have : isOf k (j : Int) l p = true := Y7.2 ⟨e, by rw [h1, a], b⟩
    rw [hno] at this; cases this
  ·rw [List.mem_filter]
   have : isOf k (j : Int) l p = false := by
    apply Bool.eq_false_iff.2; intro hx; exact hne (Y7.1 hx).1
   rw [this]; simp
  ·obtain ⟨hy1, hy2⟩ := (e2 i y).1 hy
   obtain ⟨p, hp, a1, a2, a3⟩ := h.ht k A hk i y hy1
   refine ⟨p, List.mem_filter.2 ⟨hp, ?_⟩, a1, a2, a3⟩
   have : isOf k (j : Int) l p = false := by
    apply Bool.eq_false_iff.2; intro hx
    obtain ⟨_, b2, b3⟩ := Y7.1 hx
    exact hy2 ⟨by omega, by rw [← a3]; exact b3⟩
   rw [this]; rfl
  ·rw [o.runs] at hr
   obtain ⟨p, hp, a1, a2, a3⟩ := h.hr k A hk r hr
   refine ⟨p, List.mem_filter.2 ⟨hp, ?_⟩, a1, a2, a3⟩
   have : isOf k (j : Int) l p = false := by
    apply Bool.eq_false_iff.2; intro hx
    have := (Y7.1 hx).2.1; omega
   rw [this]; rfl
 ·rw [if_neg h0, e3 h0]; exact Um hk h
theorem WI.move (h : WI W) (hk : W.ars[k]? = some A) {B : AR} {j : Nat} {l : List Int} {m : Bool} (o : Ob A B) (e1 : ∀ i y, TkA B i y ↔ TkA A i y) (e2 : ∀ i y, InT B i y ↔ if i = j /\ y ∈ l then m = true else InT A i y) : WI (W.put k B W.sp (Qm W.held k (j : Int) l m)) := by
 refine h.step hk (o.st (h.ow k A hk)) (by rw [WbS]; exact h.hk) (fun p hp e => ?_) (fun p hne => ?_) (fun i y hy => ?_) fun r hr => ?_
 ·obtain ⟨q, hq, rfl⟩ := Va.1 hp
  have hqk : q.k = k := by
   split at e <;> exact e
  rcases h.hd hk hq hqk with ⟨h1, h2, r, hr, h3⟩ | ⟨i, c, h1, h2, h3, h4, h5⟩
  ·have : isOf k (j : Int) l q = false := by
    apply Bool.eq_false_iff.2; intro hx
    have := (Y7.1 hx).2.1; omega
   rw [this]
   exact .inl ⟨h1, h2, r, by rw [o.runs]; exact hr, h3⟩
  ·by_cases hx : isOf k (j : Int) l q = true
   ·rw [if_pos hx]
    obtain ⟨_, b2, b3⟩ := Y7.1 hx
    have hij : i = j := by omega
    refine .inr ⟨i, c, h1, by rw [o.kp.tb]; exact h2, h3, (e1 _ _).2 h4, ?_⟩
    show m = true ↔ InT B i (q.addr : Int)
    rw [e2, if_pos ⟨hij, b3⟩]
   ·rw [if_neg hx]
    refine .inr ⟨i, c, h1, by rw [o.kp.tb]; exact h2, h3, (e1 _ _).2 h4, ?_⟩
    rw [e2, if_neg fun hy => hx (Y7.2 ⟨hqk, by rw [h1, hy.1], hy.2⟩)]
    exact h5
 ·rw [Va]
  constructor
  ·rintro ⟨q, hq, rfl⟩
   have : isOf k (j : Int) l q = false := by
    apply Bool.eq_false_iff.2; intro hx
    rw [if_pos hx] at hne
    exact hne (Y7.1 hx).1
   rw [this]; exact hq
  ·intro hp
   refine ⟨p, hp, ?_⟩
   have : isOf k (j : Int) l p = false := by
    apply Bool.eq_false_iff.2; intro hx; exact hne (Y7.1 hx).1
   rw [this]; rfl
 ·obtain ⟨p, hp, a1, a2, a3⟩ := h.ht k A hk i y ((e1 i y).1 hy)
  refine ⟨_, Va.2 ⟨p, hp, rfl⟩, ?_, ?_, ?_⟩
  ·split <;> exact a1
  ·split <;> exact a2
  ·split <;> exact a3
 ·rw [o.runs] at hr
  obtain ⟨p, hp, a1, a2, a3⟩ := h.hr k A hk r hr
  refine ⟨_, Va.2 ⟨p, hp, rfl⟩, ?_, ?_, ?_⟩
  ·split <;> exact a1
  ·split <;> exact a2
  ·split <;> exact a3
theorem Wdy {held : List Pc} {k : Nat} {cls : Int} {m : Bool} : Qm held k cls [] m = held := by
 unfold Qm
 have : ∀ p, isOf k cls [] p = false := fun p => by simp [isOf]
 simp [this]
theorem WI.fromT (h : WI W) (hk : W.ars[k]? = some A) (cl : Int) : WI (W.put k (Y4 A cl) W.sp (Qm W.held k cl (YP A cl) false)) := by
 obtain ⟨o, e1, e2, e3, e4, e5⟩ := Wao (h.ga k A hk) cl
 by_cases hv : YP A cl = []
 ·rw [hv, Wdy]
  have e6 : ∀ j y, InT (Y4 A cl) j y ↔ InT A j y := fun j y => by rw [e5, hv]; simp
  refine h.step hk (o.st (h.ow k A hk)) h.hk (fun p hp e => (h.hd hk hp e).to o.kp.tb o.runs (fun j y => (e1 j y).2) e6) (fun _ _ => Iff.rfl) (fun j y hy => h.ht k A hk j y ((e1 j y).1 hy)) fun r hr => h.hr k A hk r (by rw [← o.runs]; exact hr)
 ·obtain ⟨j, rfl, _⟩ := e4 hv
  rw [Int.toNat_natCast] at e5
  exact h.move hk o e1 fun i y => by
   rw [e5]
   split
   ·rename_i hx; simp [hx]
   ·rename_i hx; simp [hx]
theorem WI.toT (h : WI W) (hk : W.ars[k]? = some A) {cl : Int} {l : List Int} (ho : ownW W.held k cl l = true) : WI (W.put k (QA A cl l) W.sp (if KQ A cl l then Qm W.held k cl l true else W.held)) := by
 by_cases hv : KQ A cl l = true
 ·have hck : ∃ j : Nat, cl = j := by
   have hE : Vu A cl l = 0 := by
    unfold KQ at hv
    simp only [Bool.and_eq_true, decide_eq_true_eq] at hv
    exact hv.1
   have hck : A.ck cl = true := by
    unfold Vu at hE
    split at hE
    ·assumption
    ·cases hE
   obtain ⟨j, hj, _⟩ := U4.1 hck
   exact ⟨j, hj⟩
  obtain ⟨j, rfl⟩ := hck
  obtain ⟨o, e1, e2, _⟩ := WgK (h.ga k A hk) (j : Int) (xs := l) (Ka.1 ho).2 (by rw [Int.toNat_natCast]; exact h.own1 hk ho rfl)
  obtain ⟨_, _, e2⟩ := e2 hv
  rw [Int.toNat_natCast] at e2
  rw [hv, if_pos rfl]
  exact h.move hk o e1 fun i y => by
   rw [e2]
   split
   ·rename_i hx; simp [hx]
   ·rename_i hx; simp [hx]
 ·have hv : KQ A cl l = false := by simpa using hv
  have e : QA A cl l = A := by unfold QA; rw [hv]; rfl
  rw [hv, e]; exact Um hk h
theorem WI.takeP (h : WI W) (hk : W.ars[k]? = some A) (m a : Int) : WI (W.put k (YO A W.sp m a).1 (YO A W.sp m a).2 (if ZS A W.sp m a = 0 then W.held ++ [⟨k, -1, Q1 A W.sp m a * 256, m.toNat * 256, false⟩] else W.held)) := by
 rcases QE (h.ga k A hk) (h.ow k A hk) m a with ⟨e, hE, _⟩ | ⟨x, A1, sp1, hp, hE, hV, e, htk, hor, s, et, ek⟩
 ·rw [if_neg hE, e]; exact Um hk h
 ·rw [if_pos hE, hV]
  have eR : (YO A W.sp m a).1.runs = A.runs ++ [(x, m.toNat)] := by rw [e]
  have hnew : ∀ r ∈ A.runs, r.1 ≠ x := by
   have hd := s.ga.rdis
   rw [eR] at hd
   intro r hr e2
   have h1 := (List.pairwise_append.1 hd).2.2 r hr (x, m.toNat) (by simp)
   have h2 := (h.ga k A hk).rpos r hr
   have h3 := s.ga.rpos (x, m.toNat) (by rw [eR]; simp)
   simp only at h1 h3
   omega
  refine h.step hk s ?_ (fun p hp e => ?_) (fun p hne => ?_) (fun j y hy => ?_) fun r hr => ?_
  ·rw [List.map_append, List.nodup_append]
   refine ⟨h.hk, by simp, fun b hb d hd e2 => ?_⟩
   subst e2
   obtain ⟨p, hp, rfl⟩ := List.mem_map.1 hb
   simp only [List.map_cons, List.map_nil, List.mem_singleton, Pc.key, Prod.mk.injEq] at hd
   obtain ⟨_, r, hr, h3, _⟩ := h.run hp hd.2.1 (A := A) (by rw [hd.1]; exact hk)
   exact hnew r hr (by omega)
  ·rcases List.mem_append.1 hp with hp | hp
   ·rcases h.hd hk hp e with ⟨h1, h2, r, hr, h3⟩ | ⟨j, c, h1, h2, h3, h4, h5⟩
    ·exact .inl ⟨h1, h2, r, by rw [eR]; exact List.mem_append_left _ hr, h3⟩
    ·exact .inr ⟨j, c, h1, by rw [s.tb]; exact h2, h3, (ek _ _).2 h4, by unfold InT at h5 ⊢; rw [et]; exact h5⟩
   ·simp only [List.mem_singleton] at hp
    subst hp
    exact .inl ⟨rfl, rfl, (x, m.toNat), by rw [eR]; simp, rfl, rfl⟩
  ·rw [List.mem_append]
   constructor
   ·rintro (hp | hp)
    ·exact hp
    ·simp only [List.mem_singleton] at hp; subst hp; exact (hne rfl).elim
   ·exact .inl
  ·obtain ⟨p, hp, q⟩ := h.ht k A hk j y ((ek j y).1 hy)
   exact ⟨p, List.mem_append_left _ hp, q⟩
  ·rw [eR] at hr
   rcases List.mem_append.1 hr with hr | hr
   ·obtain ⟨p, hp, q⟩ := h.hr k A hk r hr
    exact ⟨p, List.mem_append_left _ hp, q⟩
   ·simp only [List.mem_singleton] at hr; subst hr
    exact ⟨_, List.mem_append_right _ (List.mem_singleton.2 rfl), rfl, rfl, rfl⟩
theorem WI.giveOwn (h : WI W) (hk : W.ars[k]? = some A) {r : Nat × Nat} (hr : r ∈ A.runs) : ownW W.held k (-1) [(r.1 : Int) * 256] = true := by
 refine Ka.2 ⟨fun x hx => ?_, by simp⟩
 simp only [List.mem_singleton] at hx; subst hx
 obtain ⟨p, hp, a1, a2, a3⟩ := h.hr k A hk r hr
 exact ⟨p, hp, Un.2 ⟨a1, a2, by omega, (h.run hp a2 (by rw [a1]; exact hk)).1⟩⟩
theorem WI.giveP (h : WI W) (hk : W.ars[k]? = some A) (x : Int) : WI (W.put k (ZR A x) W.sp (if ZP A x = 0 then Kr W.held k (-1) [x * 256] else W.held)) := by
 have ga := h.ga k A hk
 obtain ⟨⟨kp, g⟩, et, ek, e1, e2⟩ := Wap ga x
 by_cases h0 : ZP A x = 0
 ·rw [if_pos h0]
  obtain ⟨r, hr, rfl, eR⟩ := e2 h0
  rw [h.drp (h.giveOwn hk hr)]
  have hof : ∀ p : Pc, isOf k (-1) [(r.1 : Int) * 256] p = true ↔ p.k = k /\ p.cls = -1 /\ p.addr = r.1 * 256 := fun p => by
   rw [Y7]; simp only [List.mem_singleton]
   constructor
   ·rintro ⟨a, b, c⟩; exact ⟨a, b, by omega⟩
   ·rintro ⟨a, b, c⟩; exact ⟨a, b, by omega⟩
  refine h.step hk (St.kp g (h.ow k A hk) kp) (Q9 h.hk _) (fun p hp e => ?_) (fun p hne => ?_) (fun i y hy => ?_) fun q hq => ?_
  ·have hp' := List.mem_filter.1 hp
   have hno : ¬ isOf k (-1) [(r.1 : Int) * 256] p = true := by simpa using hp'.2
   rw [hof] at hno
   rcases h.hd hk hp'.1 e with ⟨h1, h2, q, hq, h3⟩ | ⟨j, c, h1, h2, h3, h4, h5⟩
   ·refine .inl ⟨h1, h2, q, ?_, h3⟩
    rw [eR, List.mem_filter]
    refine ⟨hq, ?_⟩
    have : q ≠ r := by rintro rfl; exact hno ⟨e, h1, h3.1⟩
    simpa using this
   ·exact .inr ⟨j, c, h1, by rw [kp.tb]; exact h2, h3, (ek _ _).2 h4, by unfold InT at h5 ⊢; rw [et]; exact h5⟩
  ·rw [List.mem_filter]
   have : isOf k (-1) [(r.1 : Int) * 256] p = false := by
    apply Bool.eq_false_iff.2; intro hx; exact hne (Y7.1 hx).1
   rw [this]; simp
  ·obtain ⟨p, hp, a1, a2, a3⟩ := h.ht k A hk i y ((ek i y).1 hy)
   refine ⟨p, List.mem_filter.2 ⟨hp, ?_⟩, a1, a2, a3⟩
   have : isOf k (-1) [(r.1 : Int) * 256] p = false := by
    apply Bool.eq_false_iff.2; intro hx
    have := ((hof p).1 hx).2.1; omega
   rw [this]; rfl
  ·rw [eR, List.mem_filter] at hq
   obtain ⟨p, hp, a1, a2, a3⟩ := h.hr k A hk q hq.1
   refine ⟨p, List.mem_filter.2 ⟨hp, ?_⟩, a1, a2, a3⟩
   have : isOf k (-1) [(r.1 : Int) * 256] p = false := by
    apply Bool.eq_false_iff.2; intro hx
    have h3 := ((hof p).1 hx).2.2
    have h4 := ga.rpos q hq.1
    have h5 := ga.rpos r hr
    have : q = r := ga.runs_uniq hq.1 hr (x := q.1) (by omega) (by omega) (by omega) (by omega)
    subst this
    simp at hq
   rw [this]; rfl
 ·rw [if_neg h0, e1 h0]; exact Um hk h
theorem WI.tick (h : WI W) (hk : W.ars[k]? = some A) : WI (W.put k (KP A) W.sp (WaA (W.ars.set k (KP A)) W.held)) := by
 have ga := h.ga k A hk
 have t := WbB ga
 have hkl := (List.getElem?_eq_some_iff.1 hk).1
 have self : (W.ars.set k (KP A))[k]? = some (KP A) := List.getElem?_set_self hkl
 have keep : ∀ p ∈ W.held, p ∈ WaA (W.ars.set k (KP A)) W.held ↔ (p.k = k -> ∀ j : Nat, p.cls = j -> TkA (KP A) j (p.addr : Int)) := by
  intro p hp
  unfold WaA
  rw [List.mem_filter]
  simp only [hp, true_and, Bool.or_eq_true, Bool.not_eq_true']
  by_cases hpk : p.k = k
  ·rw [hpk, self]
   simp only [true_implies]
   rcases h.hd hk hp hpk with ⟨h1, h2, r, hr, h3⟩ | ⟨j, c, h1, h2, h3, h4, h5⟩
   ·exact ⟨fun _ j hj => by omega, fun _ => .inl h2⟩
   ·constructor
    ·intro hx i hi
     obtain rfl : i = j := by omega
     rcases hx with hx | hx
     ·refine (t.tk i _).2 ⟨h4, fun hin => ?_⟩
      rw [h5.2 hin] at hx; cases hx
     ·rcases (Us t.ob.ga).1 hx with ⟨j', hj'⟩ | ⟨r, hr, e⟩
      ·obtain ⟨y, e, hf⟩ := ((t.tk j' _).1 hj').1.find ga
       obtain ⟨y', e', hf'⟩ := h4.find ga
       rw [hf] at hf'
       have : j' = i := by
        have := congrArg Prod.fst (Option.some.inj hf'); simp only at this; omega
       rw [← this]; exact hj'
      ·rw [t.ob.runs] at hr
       have := ga.rpos r hr
       have h6 := G6 ga hr (x := r.1 * 256) (Nat.le_refl _) (by omega)
       obtain ⟨y', e', hf'⟩ := h4.find ga
       rw [e, h6] at hf'
       have := congrArg Prod.fst (Option.some.inj hf'); simp only at this; omega
    ·intro hx
     by_cases hm : p.moved = true
     ·exact .inr ((Us t.ob.ga).2 (.inl ⟨j, hx j h1⟩))
     ·exact .inl (by simpa using hm)
  ·constructor
   ·intro _ hx; exact (hpk hx).elim
   ·intro _
    obtain ⟨C, hC, hh⟩ := h.hf p hp
    rw [List.getElem?_set_ne (Ne.symm hpk), hC]
    rcases hh with ⟨h1, h2, _⟩ | ⟨j, c, _, _, _, h4, _⟩
    ·exact .inl h2
    ·exact .inr ((Us (h.ga _ C hC)).2 (.inl ⟨j, h4⟩))
 have sub : ∀ p, p ∈ WaA (W.ars.set k (KP A)) W.held -> p ∈ W.held := fun p hp => (List.mem_filter.1 hp).1
 refine h.step hk (t.ob.st (h.ow k A hk)) (Q9 h.hk _) (fun p hp e => ?_) (fun p hne => ⟨sub p, fun hp => (keep p hp).2 fun e => (hne e).elim⟩) (fun j y hy => ?_) fun r hr => ?_
 ·have hk2 := (keep p (sub p hp)).1 hp e
  rcases h.hd hk (sub p hp) e with ⟨h1, h2, r, hr, h3⟩ | ⟨j, c, h1, h2, h3, h4, h5⟩
  ·exact .inl ⟨h1, h2, r, by rw [t.ob.runs]; exact hr, h3⟩
  ·have hj := hk2 j h1
   refine .inr ⟨j, c, h1, by rw [t.ob.kp.tb]; exact h2, h3, hj, ?_⟩
   rw [h5]
   exact ⟨((t.tk j _).1 hj).2, t.sub j _⟩
 ·obtain ⟨p, hp, a1, a2, a3⟩ := h.ht k A hk j y ((t.tk j y).1 hy).1
  refine ⟨p, (keep p hp).2 fun _ i hi => ?_, a1, a2, a3⟩
  obtain rfl : i = j := by omega
  rw [a3]; exact hy
 ·rw [t.ob.runs] at hr
  obtain ⟨p, hp, a1, a2, a3⟩ := h.hr k A hk r hr
  exact ⟨p, (keep p hp).2 fun _ i hi => by omega, a1, a2, a3⟩
theorem WI.page (h : WI W) {p : Pc} (hp : p ∈ W.held) (hk : W.ars[p.k]? = some A) {x : Nat} (h1 : p.addr <= x) (h2 : x < p.addr + p.size) : A.f (x / 256) = 1 := by
 have ga := h.ga _ A hk
 rcases h.hd hk hp rfl with ⟨_, _, r, hr, e1, e2⟩ | ⟨j, c, _, hc, e1, ht, _⟩
 ·exact (ga.usedR hr (by omega) (by omega)).1
 ·obtain ⟨c', ss, hcl, htk⟩ := ht
  have : c' = c := Option.some.inj (hcl.1.symm.trans hc)
  subst this
  have hC := ga.cen j c' ss hcl
  obtain ⟨l, s, i, hs, hi, e, _⟩ := (Kn hC).1 htk
  have e' : p.addr = at_ c' s i := Int.ofNat.inj e
  have := VV hC.pos hi (s := s) (x := x) (by omega) (by omega)
  exact (ga.used hcl (List.mem_of_getElem? hs) this.1 this.2).1
theorem WI.write (h : WI W) {x v : Int} (hi : Z9 W.held x = true) : WI { W with sp := Qi W.sp x v } := by
 unfold Z9 at hi
 rw [List.any_eq_true] at hi
 obtain ⟨p, hp, hx⟩ := hi
 simp only [Bool.and_eq_true, decide_eq_true_eq] at hx
 obtain ⟨y, rfl⟩ := Int.eq_ofNat_of_zero_le (show 0 <= x by omega)
 obtain ⟨A, hk, _⟩ := h.hf p hp
 have h1 := h.page hp hk (x := y) (by omega) (by omega)
 have hm := (h.ow _ A hk).own (y / 256) (by omega)
 by_cases hacc : accE W.sp (y : Int) = 0
 ·have e : (Qi W.sp (y : Int) v).st = W.sp.st.set (y / 256) 2 := by
   unfold Qi; rw [if_pos hacc]
   show W.sp.st.set (_ / 32) 2 = _
   rw [Int.toNat_natCast, show y / 8 / 32 = y / 256 by omega]
  have hlt := Wgn hm
  have eg : ∀ q, gf (Qi W.sp (y : Int) v).st q = if q = y / 256 then 2 else gf W.sp.st q := fun q => by
   rw [e]; unfold gf
   simp only [List.getD_eq_getElem?_getD]
   by_cases hq : q = y / 256
   ·subst hq; rw [List.getElem?_set_self hlt, if_pos rfl]; rfl
   ·rw [List.getElem?_set_ne (Ne.symm hq), if_neg hq]
  have hz : ∀ q, gf (Qi W.sp (y : Int) v).st q ≠ 0 ↔ gf W.sp.st q ≠ 0 := fun q => by
   rw [eg]; split
   ·rename_i hq; subst hq; simp [hm]
   ·exact Iff.rfl
  refine ⟨h.ga, fun j C hC => ?_, h.tb, h.low, fun q hq => h.own q ((hz q).1 hq), h.one, h.hk, h.hf, h.ht, h.hr⟩
  have o := h.ow j C hC
  refine ⟨by show (Qi W.sp (y : Int) v).st.length = _; rw [e, List.length_set]; exact o.l, fun q hq => (hz q).2 (o.own q hq), fun q hq => ?_, fun q => ?_⟩
  ·show gf (Qi W.sp (y : Int) v).st q = 1
   rw [eg, if_neg]
   ·exact o.cl q hq
   ·rintro rfl
    have hj : j = p.k := h.one (y / 256) j p.k C A hC hk (by omega) (by omega)
    subst hj
    rw [hk] at hC; cases hC
    omega
  ·show gf (Qi W.sp (y : Int) v).st q <= 2
   rw [eg]; have := o.le q; split <;> omega
 ·have e : Qi W.sp (y : Int) v = W.sp := by unfold Qi; rw [if_neg hacc]
  rw [e]; exact h
theorem Wdw (h : WI W) (hk : W.ars[k]? = some A) (x : Act) : WI (actW W k A x).1 := by
 unfold actW
 by_cases h0 : x.kd = 0
 ·rw [if_pos h0]
  exact h.grow hk _
 rw [if_neg h0]
 by_cases h1 : x.kd = 1
 ·rw [if_pos h1]
  exact h.from hk _ _
 rw [if_neg h1]
 by_cases h2 : x.kd = 2
 ·rw [if_pos h2]
  by_cases ho : ownW W.held k x.cl x.l = true
  ·rw [if_pos ho]; exact h.toC hk ho
  ·rw [if_neg ho]; exact h
 rw [if_neg h2]
 by_cases h3 : x.kd = 3
 ·rw [if_pos h3]
  exact h.fromT hk _
 rw [if_neg h3]
 by_cases h4 : x.kd = 4
 ·rw [if_pos h4]
  by_cases ho : ownW W.held k x.cl x.l = true
  ·rw [if_pos ho]; exact h.toT hk ho
  ·rw [if_neg ho]; exact h
 rw [if_neg h4]
 by_cases h5 : x.kd = 5
 ·rw [if_pos h5]
  exact h.takeP hk _ _
 rw [if_neg h5]
 by_cases h6 : x.kd = 6
 ·rw [if_pos h6]
  exact h.giveP hk _
 rw [if_neg h6]
 by_cases h7 : x.kd = 7
 ·rw [if_pos h7]
  exact h
 rw [if_neg h7]
 by_cases h10 : x.kd = 10
 ·rw [if_pos h10]
  obtain ⟨s, e1, e2, e3⟩ := UI (h.ga k A hk) (h.ow k A hk) x.a
  exact h.stepSame hk s e1 e3 e2
 rw [if_neg h10]
 by_cases h11 : x.kd = 11
 ·rw [if_pos h11]
  have t := H2 (h.ga k A hk) (h.ow k A hk)
  exact h.stepSame hk t.st t.runs (fun j y => by unfold TkA Cl; rw [t.cen, t.st.tb]) t.tra
 rw [if_neg h11]
 by_cases h12 : x.kd = 12
 ·rw [if_pos h12]
  exact h.tick hk
 rw [if_neg h12]
 by_cases h13 : x.kd = 13
 ·rw [if_pos h13]
  by_cases hi : Z9 W.held x.a = true
  ·rw [if_pos hi]; exact h.write hi
  ·rw [if_neg hi]; exact h
 rw [if_neg h13]
 exact h
theorem Wif (h : WI W) (x : Act) : WI (doW W x).1 := by
 unfold doW
 split
 ·rename_i A hA; exact Wdw h hA x
 ·exact h
end Go.Ar
namespace Go.Ar
open Go.Bu (XV YZ Xu cnt)


def al0 : AR × Sp := (newA 64 2 [⟨256, 1, 2⟩], QV 64)
def al1 : AR × Sp := Z0 al0.1 al0.2 0
def al2 : AR × Sp := (YE al1.1 0 3, al1.2)
def al3 : AR × Sp := YO al2.1 al2.2 20 1
def al4 : AR × Sp := (ZR al3.1 32, al3.2)
def al5 : AR × Sp := V6 al4.1 al4.2
def al6 : AR × Sp := (YF al5.1 0 [4096], al5.2)
theorem Wip : Kt al0.1 al0.2 0 = 0 := by decide +kernel
theorem WhY : Zi al1.1 0 3 = 0 /\ YM al1.1 0 3 = [4096] := by decide +kernel
theorem Wa0 : Wga al2.1 = 0 /\ WhV al2.1 = 0 /\ Wf6 al2.1 = 0 /\ V0 al2.1 = 1 /\ VQ al2.1 = 0 /\ cnt al2.1.n al2.1.S = 15 := by decide +kernel
theorem Wh6 : ZS al2.1 al2.2 20 1 = 0 /\ Q1 al2.1 al2.2 20 1 = 32 := by decide +kernel
theorem WhF : ZP al3.1 32 = 0 /\ (∀ r ∈ al3.1.runs, r.1 <= 1000000) := by decide +kernel
theorem Wii : WgU al4.1 = 2 := by decide +kernel
theorem Wio : Zn al5.1 0 [4096] = 0 := by decide +kernel
theorem WhQ : WgU al6.1 = 1 /\ Qx (V6 al6.1 al6.2).1 16 = false := by decide +kernel
end Go.Ar
namespace Go.Proofs
open Go.Vc

set_option maxRecDepth 100000
def Xk.hint : Hn := .seq (.o 1) (.seq (.seq (.o 1) (.block (.loop [(3, .one (.i .i64))] (.seq (.seq (.o 4) (.cond (.leaf) (.leaf))) (.seq (.block (.seq (.o 7) (.cond (.seq (.o 1) (.leaf)) (.leaf)))) (.o 3)))))) (.seq (.o 4) (.leaf)))
def Xk.vc (l : Sl) (U : Hp) (R : Bool -> Hp -> Prop) : Prop :=
 Xn [(.i .i64)] (fun I => I 0 U) fun J (i : Int) v =>
 If (decide (i < ((l.len : Nat) : Int))) (Ix l.a l.len i 6 fun a12 =>
 LdS (a12.add 5) v fun t14 =>
 If (decide (((t14.len : Nat) : Int) > 40)) (R true v)
 (Ar .i64 (i + 1) fun i1 =>
 J i1 v))
 (R (decide (((l.len : Nat) : Int) > 40)) v)
theorem Xk.of_vc {l U R} (hv : Xk.vc l U R) : Xk.call l U R :=
 Wa Tryz.func14 (x := Xk.hint) (Eq.mpr (by kernel_rfl) hv)
def Wv.hint : Hn := .seq (.o 1) (.seq (.o 6) (.seq (.o 9) (.seq (.seq (.reg (.seq [.op, .op, .op, .grd false 2 [.op, .op]])) (.cond (.seq (.o 1) (.leaf)) (.leaf))) (.seq (.o 3) (.seq (.o 7) (.seq (.o 15) (.seq (.o 7) (.seq (.o 3) (.seq (.o 3) (.seq (.o 4) (.seq (.o 3) (.seq (.reg (.seq [.op, .op, .op, .grd true 3 [.op, .op, .op], .op, .grd true 2 [.op, .op], .op, .grd true 2 [.op, .op], .op, .grd true 2 [.op, .op], .op, .grd true 2 [.op, .op], .op, .grd true 2 [.op, .op], .op, .grd true 2 [.op, .op], .op, .grd true 2 [.op, .op], .op, .grd true 2 [.op, .op], .op, .grd true 2 [.op, .op], .op, .grd true 2 [.op, .op], .op, .grd true 2 [.op, .op], .op, .grd true 2 [.op, .op], .op, .grd true 2 [.op, .op], .op, .grd true 3 [.op, .op, .op], .op])) (.leaf)))))))))))))
def Wv.vc (U : Hp) (R : Bool -> Hp -> Prop) : Prop :=
 ZB.call 64 U fun t21 t211 v =>
 Nw (.cells #[.int .i64 256, .int .i64 1, .int .i64 2] 51 (0, 0)) v fun n26 v1 =>
 ZC.call ⟨(some n26), 1, 1⟩ t21 2 v1 fun t28 t281 v2 =>
 JnB (fun r v3 =>
 If r (R false v3)
 (XF.call t28 0 v3 fun b v4 =>
 Wu.call t28 0 3 v4 fun t41 t411 v5 =>
 Xp.call t28 v5 fun t46 t461 t462 t463 t464 t465 v6 =>
 WW.call t28 20 1 v6 fun t55 t551 v7 =>
 WX.call t28 32 v7 fun c v8 =>
 XC.call t28 v8 fun t v9 =>
 Nw (.cells #[.int .i64 4096] 3 (0, 0)) v9 fun n63 v10 =>
 Wz.call t28 0 ⟨(some n63), 1, 1⟩ v10 fun d v11 =>
 XC.call t28 v11 fun u v12 =>
 JnB (fun r1 v13 =>
 JnB (fun r2 v14 =>
 JnB (fun r3 v15 =>
 JnB (fun r4 v16 =>
 JnB (fun r5 v17 =>
 JnB (fun r6 v18 =>
 JnB (fun r7 v19 =>
 JnB (fun r8 v20 =>
 JnB (fun r9 v21 =>
 JnB (fun r10 v22 =>
 JnB (fun r11 v23 =>
 JnB (fun r12 v24 =>
 JnB (fun r13 v25 =>
 JnB (fun r14 v26 =>
 JnB (fun r15 v27 =>
 R r15 v27) fun J15 =>
 If r14 (Xm.call t28 16 v26 fun t128 v28 =>
 J15 (!t128) v28)
 (J15 false v26)) fun J14 =>
 If r13 (J14 (u == 1) v25)
 (J14 false v25)) fun J13 =>
 If r12 (J13 (d == 0) v24)
 (J13 false v24)) fun J12 =>
 If r11 (J12 (t == 2) v23)
 (J12 false v23)) fun J11 =>
 If r10 (J11 (c == 0) v22)
 (J11 false v22)) fun J10 =>
 If r9 (J10 (t551 == 0) v21)
 (J10 false v21)) fun J9 =>
 If r8 (J9 (t55 == 32) v20)
 (J9 false v20)) fun J8 =>
 If r7 (J8 (t465 == 15) v19)
 (J8 false v19)) fun J7 =>
 If r6 (J7 (t464 == 0) v18)
 (J7 false v18)) fun J6 =>
 If r5 (J6 (t463 == 1) v17)
 (J6 false v17)) fun J5 =>
 If r4 (J5 (t462 == 0) v16)
 (J5 false v16)) fun J4 =>
 If r3 (J4 (t461 == 0) v15)
 (J4 false v15)) fun J3 =>
 If r2 (J3 (t46 == 0) v14)
 (J3 false v14)) fun J2 =>
 If r1 (J2 (t411 == 0) v13)
 (J2 false v13)) fun J1 =>
 If (b == 0) (Nw (.cells #[.int .i64 4096] 3 (0, 0)) v12 fun n71 v29 =>
 XO.call t41 ⟨(some n71), 1, 1⟩ v29 fun t72 v30 =>
 J1 t72 v30)
 (J1 false v12))) fun J =>
 If (t281 != 0) (J true v2)
 (J t28.isNone v2)
theorem Wv.of_vc {U R} (hv : Wv.vc U R) : Wv.call U R :=
 Wa Tryz.func15 (x := Wv.hint) (Eq.mpr (by kernel_rfl) hv)
def W8.hint : Hn := .seq (.o 2) (.seq (.seq (.o 3) (.cond (.seq (.o 2) (.leaf)) (.leaf))) (.seq (.o 11) (.seq (.seq (.o 2) (.cond (.seq (.o 2) (.leaf)) (.leaf))) (.seq (.o 5) (.seq (.seq (.o 1) (.block (.loop [(15, .one (.i .i64))] (.seq (.seq (.o 4) (.cond (.leaf) (.leaf))) (.seq (.block (.seq (.o 11) (.seq (.seq (.o 2) (.cond (.seq (.o 2) (.leaf)) (.leaf))) (.o 11)))) (.o 3)))))) (.seq (.seq (.o 1) (.block (.loop [(18, .one (.i .i64))] (.seq (.seq (.o 4) (.cond (.leaf) (.leaf))) (.seq (.block (.o 6)) (.o 3)))))) (.seq (.o 3) (.leaf))))))))
def W8.vc (table : Sl) (pages : Int) (many : Int) (room : Int) (l : Sl) (U : Hp) (R : Option Addr -> Bool -> Hp -> Prop) : Prop :=
 If (decide (((table.len : Nat) : Int) > 100)) (R none false U)
 (Ar .i64 pages fun t24 =>
 Nz 12 <|
 Ar .i64 ((t24.tmod 12) + 2) fun t26 =>
 Ar .i64 (16 * t26) fun t27 =>
 ZB.call t27 U fun t28 t281 v =>
 If (t281 != 0) (R none false v)
 (Nw (.cells #[.pointer t28, .slice none 0 0, .slice table.a table.len table.cap, .slice none 0 0] 34 (0, 0)) v fun n36 v1 =>
 Xn [(.i .i64)] (fun I => I 0 v1) fun J (i : Int) v2 =>
 XR.call many v2 fun t39 v3 =>
 If (decide (i < t39)) (Ar .i64 room fun t47 =>
 Nz 9 <|
 ZC.call table t28 (t47.tmod 9) v3 fun t49 t491 v4 =>
 If (t491 != 0) (R none false v4)
 (NilP (some n36) fun a56 =>
 LdS (a56.add 1) v4 fun t58 =>
 Nw (.cells #[.pointer t49] 36 (0, 0)) v4 fun n60 v5 =>
 App t58 1 8 36 [.pointer none] ⟨(some n60), 1, 1⟩ v5 fun t61 v6 =>
 NilP (some n36) fun a62 =>
 St1 (a62.add 1) (.slice t61.a t61.len t61.cap) v6 fun v7 =>
 Ar .i64 (i + 1) fun i1 =>
 J i1 v7))
 (Xn [(.i .i64)] (fun I1 => I1 0 v3) fun J1 (i2 : Int) v8 =>
 If (decide (i2 < ((l.len : Nat) : Int))) (Ix l.a l.len i2 6 fun a73 =>
 LdI .i64 (a73.add 0) v8 fun t74 =>
 LdI .i64 (a73.add 1) v8 fun t741 =>
 LdI .i64 (a73.add 2) v8 fun t742 =>
 LdI .i64 (a73.add 3) v8 fun t743 =>
 LdI .i64 (a73.add 4) v8 fun t744 =>
 LdS (a73.add 5) v8 fun t745 =>
 WM.call (some n36) t74 t741 t742 t743 t744 t745 v8 fun t75 v9 =>
 Ar .i64 (i2 + 1) fun i3 =>
 J1 i3 v9)
 (R (some n36) true v8))))
theorem W8.of_vc {table pages many room l U R} (hv : W8.vc table pages many room l U R) : W8.call table pages many room l U R :=
 Wa Tryz.func16 (x := W8.hint) (Eq.mpr (by kernel_rfl) hv)
def Wq.hint : Hn := .seq (.o 2) (.seq (.oq 21) (.leaf))
def Wq.vc (vw : Option Addr) (vx : Int) (vx1 : Int) (vx2 : Int) (vx3 : Int) (vx4 : Int) (vx5 : Sl) (U : Hp) (R : Int -> Hp -> Prop) : Prop :=
 Nw (.cells #[.int .i64 vx, .int .i64 vx1, .int .i64 vx2, .int .i64 vx3, .int .i64 vx4, .slice vx5.a vx5.len vx5.cap] 44 (0, 0)) U fun n3 v =>
 LdI .i64 (n3.add 1) v fun t6 =>
 NilP vw fun a8 =>
 LdS (a8.add 1) v fun t10 =>
 Nz ((t10.len : Nat) : Int) <|
 NilP vw fun a14 =>
 LdS (a14.add 1) v fun t16 =>
 Ar .i64 ((t6.tmod ((t10.len : Nat) : Int)) + ((t16.len : Nat) : Int)) fun t18 =>
 NilP vw fun a20 =>
 LdS (a20.add 1) v fun t22 =>
 Nz ((t22.len : Nat) : Int) <|
 R (t18.tmod ((t22.len : Nat) : Int)) v
theorem Wq.of_vc {vw vx vx1 vx2 vx3 vx4 vx5 U R} (hv : Wq.vc vw vx vx1 vx2 vx3 vx4 vx5 U R) : Wq.call vw vx vx1 vx2 vx3 vx4 vx5 U R :=
 Wa Tryz.func20 (x := Wq.hint) (Eq.mpr (by kernel_rfl) hv)
def WF.hint : Hn := .seq (.o 2) (.seq (.seq (.o 1) (.block (.loop [(7, .one (.i .i64))] (.seq (.seq (.o 5) (.cond (.leaf) (.leaf))) (.seq (.block (.seq (.seq (.reg (.tail 9 [.op, .op, .op, .op, .op, .op, .op, .op, .op] [.op, .op])) (.cond (.seq (.o 1) (.leaf)) (.leaf))) (.seq (.o 1) (.block (.loop [(8, .one (.i .i64))] (.seq (.seq (.o 3) (.cond (.leaf) (.leaf))) (.seq (.block (.seq (.oq 11) (.cond (.seq (.o 1) (.leaf)) (.leaf)))) (.o 3)))))))) (.o 3)))))) (.seq (.o 1) (.leaf)))
def WF.vc (vw : Option Addr) (k : Int) (vx : Int) (vx1 : Int) (vx2 : Int) (vx3 : Int) (vx4 : Int) (vx5 : Sl) (U : Hp) (R : Bool -> Hp -> Prop) : Prop :=
 Nw (.cells #[.int .i64 vx, .int .i64 vx1, .int .i64 vx2, .int .i64 vx3, .int .i64 vx4, .slice vx5.a vx5.len vx5.cap] 44 (0, 0)) U fun n5 v =>
 Xn [(.i .i64)] (fun I => I 0 v) fun J (i : Int) v1 =>
 LdS (n5.add 5) v1 fun t11 =>
 If (decide (i < ((t11.len : Nat) : Int))) (LdI .i64 (n5.add 2) v1 fun t19 =>
 LdS (n5.add 5) v1 fun t21 =>
 Ix t21.a t21.len i 1 fun a23 =>
 LdI .i64 a23 v1 fun t24 =>
 WN.call vw k t19 t24 v1 fun t25 v2 =>
 If (decide (t25 < 0)) (R false v2)
 (Xn [(.i .i64)] (fun I1 => I1 0 v2) fun J1 (j : Int) v3 =>
 If (decide (j < i)) (LdS (n5.add 5) v3 fun t33 =>
 Ix t33.a t33.len i 1 fun a35 =>
 LdI .i64 a35 v3 fun t36 =>
 LdS (n5.add 5) v3 fun t38 =>
 Ix t38.a t38.len j 1 fun a40 =>
 LdI .i64 a40 v3 fun t41 =>
 If (t36 == t41) (R false v3)
 (Ar .i64 (j + 1) fun j1 =>
 J1 j1 v3))
 (Ar .i64 (i + 1) fun i1 =>
 J i1 v3)))
 (R true v1)
theorem WF.of_vc {vw k vx vx1 vx2 vx3 vx4 vx5 U R} (hv : WF.vc vw k vx vx1 vx2 vx3 vx4 vx5 U R) : WF.call vw k vx vx1 vx2 vx3 vx4 vx5 U R :=
 Wa Tryz.func21 (x := WF.hint) (Eq.mpr (by kernel_rfl) hv)
def Xg.hint : Hn := .seq (.o 1) (.seq (.o 1) (.seq (.seq (.o 1) (.block (.loop [(3, .one .s), (4, .one (.i .i64))] (.seq (.seq (.o 5) (.cond (.leaf) (.leaf))) (.seq (.block (.seq (.o 8) (.o 5))) (.o 3)))))) (.seq (.o 2) (.leaf))))
def Xg.vc (s : Option Addr) (U : Hp) (R : Sl -> Hp -> Prop) : Prop :=
 Xn [.s, (.i .i64)] (fun I => I ⟨none, 0, 0⟩ 0 U) fun J (l : Sl) (n : Int) v =>
 WO.call s v fun t9 v1 =>
 Ar .i64 (t9 * 256) fun t10 =>
 If (decide (n < t10)) (Ys.call s n v1 fun t17 t171 v2 =>
 Nw (.cells #[.int .i64 t17] 3 (0, 0)) v2 fun n22 v3 =>
 App l 1 8 3 [.int .i64 0] ⟨(some n22), 1, 1⟩ v3 fun l1 v4 =>
 Ar .i64 (n + 8) fun n1 =>
 J l1 n1 v4)
 (R l v1)
theorem Xg.of_vc {s U R} (hv : Xg.vc s U R) : Xg.call s U R :=
 Wa Tryz.func35 (x := Xg.hint) (Eq.mpr (by kernel_rfl) hv)
def XR.hint : Hn := .seq (.o 1) (.seq (.o 5) (.leaf))
def XR.vc (many : Int) (U : Hp) (R : Int -> Hp -> Prop) : Prop :=
 Ar .i64 many fun t4 =>
 Nz 3 <|
 Ar .i64 ((t4.tmod 3) + 1) fun t6 =>
 R t6 U
theorem XR.of_vc {many U R} (hv : XR.vc many U R) : XR.call many U R :=
 Wa Tryz.func42 (x := XR.hint) (Eq.mpr (by kernel_rfl) hv)
def WM.hint : Hn := .seq (.o 2) (.seq (.o 4) (.seq (.o 8) (.seq (.o 1) (.seq (.seq (.o 2) (.block (.seq (.o 2) (.cond (.o 5) (.seq (.o 2) (.cond (.seq (.o 11) (.seq (.o 2) (.seq (.o 1) (.block (.loop [(10, .one (.i .i64))] (.seq (.seq (.o 4) (.cond (.leaf) (.leaf))) (.seq (.block (.reg (.held true [26] (.take 0 (.take 1 (.take 2 (.take 3 (.take 4 (.take 5 (.take 6 (.take 7 (.take 8 (.take 9 (.take 10 (.take 11 (.take 12 (.take 13 (.take 14 (.take 15 (.take 16 (.take 17 (.take 18 (.take 19 (.take 20 (.take 21 (.all [(22, .all [(23, .take 24 (.take 25 (.all [(26, .done)])))])])))))))))))))))))))))))))) (.o 3)))))))) (.seq (.o 2) (.cond (.seq (.seq (.o 5) (.cond (.seq (.o 1) (.leaf)) (.leaf))) (.seq (.o 7) (.seq (.o 2) (.cond (.o 7) (.leaf))))) (.seq (.o 2) (.cond (.seq (.o 9) (.seq (.o 2) (.o 6))) (.seq (.o 2) (.cond (.seq (.seq (.o 5) (.cond (.seq (.o 1) (.leaf)) (.leaf))) (.seq (.o 11) (.seq (.o 2) (.seq (.o 1) (.cond (.o 7) (.leaf)))))) (.seq (.o 2) (.cond (.seq (.o 11) (.seq (.o 2) (.seq (.o 2) (.cond (.reg (.held true [16] (.take 0 (.take 1 (.take 2 (.take 3 (.take 4 (.take 5 (.take 6 (.take 7 (.take 8 (.take 9 (.take 10 (.take 11 (.all [(12, .all [(13, .take 14 (.take 15 (.all [(16, .done)])))])]))))))))))))))) (.leaf))))) (.seq (.o 2) (.cond (.seq (.o 5) (.seq (.o 2) (.cond (.o 7) (.leaf)))) (.o 5))))))))))))))))) (.seq (.o 2) (.leaf))))))
def WM.vc (vw : Option Addr) (vx : Int) (vx1 : Int) (vx2 : Int) (vx3 : Int) (vx4 : Int) (vx5 : Sl) (U : Hp) (R : Int -> Hp -> Prop) : Prop :=
 Nw (.cells #[.int .i64 vx, .int .i64 vx1, .int .i64 vx2, .int .i64 vx3, .int .i64 vx4, .slice vx5.a vx5.len vx5.cap] 44 (0, 0)) U fun n3 v =>
 LdI .i64 (n3.add 0) v fun t18 =>
 LdI .i64 (n3.add 1) v fun t181 =>
 LdI .i64 (n3.add 2) v fun t182 =>
 LdI .i64 (n3.add 3) v fun t183 =>
 LdI .i64 (n3.add 4) v fun t184 =>
 LdS (n3.add 5) v fun t185 =>
 Wq.call vw t18 t181 t182 t183 t184 t185 v fun k v1 =>
 NilP vw fun a21 =>
 LdS (a21.add 1) v1 fun t23 =>
 Ix t23.a t23.len k 1 fun a25 =>
 LdP a25 v1 fun a =>
 LdI .i64 (n3.add 0) v1 fun t28 =>
 If (t28 == 0) (LdI .i64 (n3.add 2) v1 fun t37 =>
 XF.call a t37 v1 fun ve v2 =>
 R ve v2)
 (If (t28 == 1) (LdI .i64 (n3.add 2) v1 fun t44 =>
 LdI .i64 (n3.add 3) v1 fun t46 =>
 Wu.call a t44 t46 v1 fun t47 t471 v3 =>
 Xn [(.i .i64)] (fun I => I 0 v3) fun J (i : Int) v4 =>
 If (decide (i < ((t47.len : Nat) : Int))) (Held v4 fun S =>
 NilP vw fun a59 =>
 LdH S .s (a59.add 3) fun (t61 : Sl) =>
 LdH S (.i .i64) (n3.add 2) fun (t64 : Int) =>
 Ix t47.a t47.len i 1 fun a67 =>
 LdH S (.i .i64) a67 fun (t68 : Int) =>
 NilP vw fun a70 =>
 LdH S .s (a70.add 2) fun (t72 : Sl) =>
 LdH S (.i .i64) (n3.add 2) fun (t74 : Int) =>
 Ix t72.a t72.len t74 3 fun a75 =>
 LdH S (.i .i64) (a75.add 0) fun (t77 : Int) =>
 Nw (.cells #[.int .i64 k, .int .i64 t64, .int .i64 t68, .int .i64 t77, .bool false] 39 (0, 0)) v4 fun n79 v5 =>
 And (S v5) <|
 App t61 5 40 39 [.int .i64 0, .int .i64 0, .int .i64 0, .int .i64 0, .bool false] ⟨(some n79), 1, 1⟩ v5 fun t80 v6 =>
 And (S v6) <|
 NilP vw fun a81 =>
 St1 (a81.add 3) (.slice t80.a t80.len t80.cap) v6 fun v7 =>
 Ar .i64 (i + 1) fun i1 =>
 J i1 v7)
 (R t471 v4))
 (If (t28 == 2) (LdI .i64 (n3.add 0) v1 fun t87 =>
 LdI .i64 (n3.add 1) v1 fun t871 =>
 LdI .i64 (n3.add 2) v1 fun t872 =>
 LdI .i64 (n3.add 3) v1 fun t873 =>
 LdI .i64 (n3.add 4) v1 fun t874 =>
 LdS (n3.add 5) v1 fun t875 =>
 WF.call vw k t87 t871 t872 t873 t874 t875 v1 fun t88 v8 =>
 If (!t88) (R 0 v8)
 (LdI .i64 (n3.add 2) v8 fun t92 =>
 LdS (n3.add 5) v8 fun t94 =>
 Wz.call a t92 t94 v8 fun ve1 v9 =>
 If (ve1 == 0) (LdI .i64 (n3.add 2) v9 fun t101 =>
 LdS (n3.add 5) v9 fun t103 =>
 WC.call vw k t101 t103 v9 fun v10 =>
 R ve1 v10)
 (R ve1 v9)))
 (If (t28 == 3) (LdI .i64 (n3.add 2) v1 fun t110 =>
 WB.call a t110 v1 fun t111 t1111 v11 =>
 LdI .i64 (n3.add 2) v11 fun t118 =>
 Ws.call vw k t118 t111 false v11 fun v12 =>
 R t1111 v12)
 (If (t28 == 4) (LdI .i64 (n3.add 0) v1 fun t125 =>
 LdI .i64 (n3.add 1) v1 fun t1251 =>
 LdI .i64 (n3.add 2) v1 fun t1252 =>
 LdI .i64 (n3.add 3) v1 fun t1253 =>
 LdI .i64 (n3.add 4) v1 fun t1254 =>
 LdS (n3.add 5) v1 fun t1255 =>
 WF.call vw k t125 t1251 t1252 t1253 t1254 t1255 v1 fun t126 v13 =>
 If (!t126) (R 0 v13)
 (LdI .i64 (n3.add 2) v13 fun t131 =>
 LdS (n3.add 5) v13 fun t133 =>
 W4.call a t131 t133 v13 fun t134 t1341 v14 =>
 If t134 (LdI .i64 (n3.add 2) v14 fun t142 =>
 LdS (n3.add 5) v14 fun t144 =>
 Ws.call vw k t142 t144 true v14 fun v15 =>
 R t1341 v15)
 (R t1341 v14)))
 (If (t28 == 5) (LdI .i64 (n3.add 3) v1 fun t151 =>
 LdI .i64 (n3.add 4) v1 fun t153 =>
 WW.call a t151 t153 v1 fun t154 t1541 v16 =>
 If (t1541 == 0) (Held v16 fun S1 =>
 NilP vw fun a162 =>
 LdH S1 .s (a162.add 3) fun (t164 : Sl) =>
 Ar .i64 (t154 * 256) fun t167 =>
 LdH S1 (.i .i64) (n3.add 3) fun (t169 : Int) =>
 Ar .i64 (t169 * 256) fun t170 =>
 Nw (.cells #[.int .i64 k, .int .i64 (-1), .int .i64 t167, .int .i64 t170, .bool false] 39 (0, 0)) v16 fun n172 v17 =>
 And (S1 v17) <|
 App t164 5 40 39 [.int .i64 0, .int .i64 0, .int .i64 0, .int .i64 0, .bool false] ⟨(some n172), 1, 1⟩ v17 fun t173 v18 =>
 And (S1 v18) <|
 NilP vw fun a174 =>
 St1 (a174.add 3) (.slice t173.a t173.len t173.cap) v18 fun v19 =>
 R t1541 v19)
 (R t1541 v16))
 (If (t28 == 6) (LdI .i64 (n3.add 3) v1 fun t180 =>
 WX.call a t180 v1 fun ve2 v20 =>
 If (ve2 == 0) (LdI .i64 (n3.add 3) v20 fun t187 =>
 Ar .i64 (t187 * 256) fun t188 =>
 Nw (.cells #[.int .i64 t188] 3 (0, 0)) v20 fun n189 v21 =>
 WC.call vw k (-1) ⟨(some n189), 1, 1⟩ v21 fun v22 =>
 R ve2 v22)
 (R ve2 v20))
 (LdI .i64 (n3.add 0) v1 fun t31 =>
 LdI .i64 (n3.add 1) v1 fun t311 =>
 LdI .i64 (n3.add 2) v1 fun t312 =>
 LdI .i64 (n3.add 3) v1 fun t313 =>
 LdI .i64 (n3.add 4) v1 fun t314 =>
 LdS (n3.add 5) v1 fun t315 =>
 WL.call vw a t31 t311 t312 t313 t314 t315 v1 fun ve3 v23 =>
 R ve3 v23)))))))
theorem WM.of_vc {vw vx vx1 vx2 vx3 vx4 vx5 U R} (hv : WM.vc vw vx vx1 vx2 vx3 vx4 vx5 U R) : WM.call vw vx vx1 vx2 vx3 vx4 vx5 U R :=
 Wa Tryz.func49 (x := WM.hint) (Eq.mpr (by kernel_rfl) hv)
def WN.hint : Hn := .seq (.o 1) (.seq (.seq (.o 1) (.block (.loop [(9, .one (.i .i64))] (.seq (.seq (.o 7) (.cond (.leaf) (.leaf))) (.seq (.block (.seq (.reg (.seq [.op, .op, .op, .op, .op, .op, .op, .op, .op, .op, .op, .grd true 10 [.op, .op, .op, .op, .op, .op, .op, .op, .op, .op], .op, .grd true 10 [.op, .op, .op, .op, .op, .op, .op, .op, .op, .op], .op, .grd true 9 [.op, .op, .op, .op, .op, .op, .op, .op, .op]])) (.cond (.seq (.o 2) (.leaf)) (.leaf)))) (.o 3)))))) (.seq (.o 1) (.leaf)))
def WN.vc (vw : Option Addr) (k : Int) (vclass : Int) (addr : Int) (U : Hp) (R : Int -> Hp -> Prop) : Prop :=
 Xn [(.i .i64)] (fun I => I 0 U) fun J (i : Int) v =>
 NilP vw fun a12 =>
 LdS (a12.add 3) v fun t14 =>
 If (decide (i < ((t14.len : Nat) : Int))) (NilP vw fun a20 =>
 LdS (a20.add 3) v fun t22 =>
 Ix t22.a t22.len i 5 fun a24 =>
 LdI .i64 (a24.add 0) v fun t26 =>
 JnB (fun r v1 =>
 JnB (fun r1 v2 =>
 JnB (fun r2 v3 =>
 If r2 (R i v3)
 (Ar .i64 (i + 1) fun i1 =>
 J i1 v3)) fun J3 =>
 If r1 (NilP vw fun a55 =>
 LdS (a55.add 3) v2 fun t57 =>
 Ix t57.a t57.len i 5 fun a59 =>
 LdB (a59.add 4) v2 fun t61 =>
 J3 (!t61) v2)
 (J3 false v2)) fun J2 =>
 If r (NilP vw fun a43 =>
 LdS (a43.add 3) v1 fun t45 =>
 Ix t45.a t45.len i 5 fun a47 =>
 LdI .i64 (a47.add 2) v1 fun t49 =>
 J2 (t49 == addr) v1)
 (J2 false v1)) fun J1 =>
 If (t26 == k) (NilP vw fun a31 =>
 LdS (a31.add 3) v fun t33 =>
 Ix t33.a t33.len i 5 fun a35 =>
 LdI .i64 (a35.add 1) v fun t37 =>
 J1 (t37 == vclass) v)
 (J1 false v))
 (R (-1) v)
theorem WN.of_vc {vw k vclass addr U R} (hv : WN.vc vw k vclass addr U R) : WN.call vw k vclass addr U R :=
 Wa Tryz.func63 (x := WN.hint) (Eq.mpr (by kernel_rfl) hv)
def WC.hint : Hn := .seq (.o 1) (.block (.loop [(8, .one (.i .i64))] (.seq (.seq (.o 4) (.cond (.leaf) (.leaf))) (.seq (.block (.seq (.o 9) (.seq (.seq (.o 2) (.cond (.leaf) (.leaf))) (.seq (.o 1) (.seq (.o 9) (.o 13)))))) (.o 3)))))
def WC.vc (vw : Option Addr) (k : Int) (vclass : Int) (l : Sl) (U : Hp) (R : Hp -> Prop) : Prop :=
 Xn [(.i .i64)] (fun I => I 0 U) fun J (i : Int) v =>
 If (decide (i < ((l.len : Nat) : Int))) (Ix l.a l.len i 1 fun a22 =>
 LdI .i64 a22 v fun t23 =>
 WN.call vw k vclass t23 v fun vat v1 =>
 If (decide (vat < 0)) (Ar .i64 (i + 1) fun i1 =>
 J i1 v1)
 (NilP vw fun a29 =>
 LdS (a29.add 3) v1 fun t31 =>
 SlcL t31 5 0 vat (t31.cap : Nat) fun t33 =>
 App ⟨none, 0, 0⟩ 5 40 39 [.int .i64 0, .int .i64 0, .int .i64 0, .int .i64 0, .bool false] t33 v1 fun left v2 =>
 NilP vw fun a38 =>
 LdS (a38.add 3) v2 fun t40 =>
 Ar .i64 (vat + 1) fun t42 =>
 SlcL t40 5 t42 (t40.len : Nat) (t40.cap : Nat) fun t43 =>
 App left 5 40 39 [.int .i64 0, .int .i64 0, .int .i64 0, .int .i64 0, .bool false] t43 v2 fun t44 v3 =>
 NilP vw fun a45 =>
 St1 (a45.add 3) (.slice t44.a t44.len t44.cap) v3 fun v4 =>
 Ar .i64 (i + 1) fun i2 =>
 J i2 v4))
 (R v)
theorem WC.of_vc {vw k vclass l U R} (hv : WC.vc vw k vclass l U R) : WC.call vw k vclass l U R :=
 Wa Tryz.func127 (x := WC.hint) (Eq.mpr (by kernel_rfl) hv)
def Ws.hint : Hn := .seq (.o 1) (.block (.loop [(10, .one (.i .i64))] (.seq (.seq (.o 7) (.cond (.leaf) (.leaf))) (.seq (.block (.seq (.o 1) (.block (.loop [(11, .one (.i .i64))] (.seq (.seq (.o 4) (.cond (.leaf) (.leaf))) (.seq (.block (.seq (.reg (.quiet [.op, .op, .op, .op, .op, .op, .op, .op, .op, .op, .op, .grd true 10 [.op, .op, .op, .op, .op, .op, .op, .op, .op, .op], .op, .grd true 13 [.op, .op, .op, .op, .op, .op, .op, .op, .op, .op, .op, .op, .op]])) (.cond (.o 9) (.leaf)))) (.o 3))))))) (.o 3)))))
def Ws.vc (vw : Option Addr) (k : Int) (vclass : Int) (l : Sl) (moved : Bool) (U : Hp) (R : Hp -> Prop) : Prop :=
 Xn [(.i .i64)] (fun I => I 0 U) fun J (i : Int) v =>
 NilP vw fun a14 =>
 LdS (a14.add 3) v fun t16 =>
 If (decide (i < ((t16.len : Nat) : Int))) (Xn [(.i .i64)] (fun I1 => I1 0 v) fun J1 (j : Int) v1 =>
 If (decide (j < ((l.len : Nat) : Int))) (NilP vw fun a28 =>
 LdS (a28.add 3) v1 fun t30 =>
 Ix t30.a t30.len i 5 fun a32 =>
 LdI .i64 (a32.add 0) v1 fun t34 =>
 JnB (fun r v2 =>
 JnB (fun r1 v3 =>
 If r1 (NilP vw fun a65 =>
 LdS (a65.add 3) v3 fun t67 =>
 Ix t67.a t67.len i 5 fun a70 =>
 St1 (a70.add 4) (.bool moved) v3 fun v4 =>
 Ar .i64 (j + 1) fun j1 =>
 J1 j1 v4)
 (Ar .i64 (j + 1) fun j2 =>
 J1 j2 v3)) fun J3 =>
 If r (NilP vw fun a51 =>
 LdS (a51.add 3) v2 fun t53 =>
 Ix t53.a t53.len i 5 fun a55 =>
 LdI .i64 (a55.add 2) v2 fun t57 =>
 Ix l.a l.len j 1 fun a60 =>
 LdI .i64 a60 v2 fun t61 =>
 J3 (t57 == t61) v2)
 (J3 false v2)) fun J2 =>
 If (t34 == k) (NilP vw fun a39 =>
 LdS (a39.add 3) v1 fun t41 =>
 Ix t41.a t41.len i 5 fun a43 =>
 LdI .i64 (a43.add 1) v1 fun t45 =>
 J2 (t45 == vclass) v1)
 (J2 false v1))
 (Ar .i64 (i + 1) fun i1 =>
 J i1 v1))
 (R v)
theorem Ws.of_vc {vw k vclass l moved U R} (hv : Ws.vc vw k vclass l moved U R) : Ws.call vw k vclass l moved U R :=
 Wa Tryz.func128 (x := Ws.hint) (Eq.mpr (by kernel_rfl) hv)
def WL.hint : Hn := .seq (.o 2) (.seq (.o 1) (.seq (.seq (.o 2) (.block (.seq (.o 2) (.cond (.o 9) (.seq (.o 2) (.cond (.o 4) (.seq (.o 2) (.cond (.o 4) (.seq (.o 2) (.cond (.o 8) (.seq (.o 2) (.cond (.o 2) (.seq (.o 2) (.cond (.seq (.o 2) (.o 2)) (.seq (.o 2) (.cond (.seq (.o 4) (.cond (.reg (.tail 8 [.op, .op, .op, .op, .op, .op, .op, .op] [.op, .op])) (.leaf))) (.leaf))))))))))))))))) (.seq (.o 2) (.leaf))))
def WL.vc (vw : Option Addr) (a : Option Addr) (vx : Int) (vx1 : Int) (vx2 : Int) (vx3 : Int) (vx4 : Int) (vx5 : Sl) (U : Hp) (R : Int -> Hp -> Prop) : Prop :=
 Nw (.cells #[.int .i64 vx, .int .i64 vx1, .int .i64 vx2, .int .i64 vx3, .int .i64 vx4, .slice vx5.a vx5.len vx5.cap] 44 (0, 0)) U fun n5 v =>
 LdI .i64 (n5.add 0) v fun t9 =>
 If (t9 == 7) (LdI .i64 (n5.add 3) v fun t15 =>
 XZ.call a t15 v fun t16 t161 t162 v1 =>
 R t162 v1)
 (If (t9 == 8) (LdI .i64 (n5.add 3) v fun t24 =>
 Xi.call a t24 v fun t25 v2 =>
 R 0 v2)
 (If (t9 == 9) (LdI .i64 (n5.add 3) v fun t30 =>
 Xm.call a t30 v fun t31 v3 =>
 R 0 v3)
 (If (t9 == 10) (LdI .i64 (n5.add 3) v fun t37 =>
 W5.call a t37 v fun t38 t381 v4 =>
 R t381 v4)
 (If (t9 == 11) (XC.call a v fun t44 v5 =>
 R 0 v5)
 (If (t9 == 12) (Yq.call a v fun v6 =>
 WK.call vw v6 fun v7 =>
 R 0 v7)
 (If (t9 == 13) (LdI .i64 (n5.add 3) v fun t55 =>
 Wx.call vw t55 v fun t56 v8 =>
 If t56 (NilP vw fun a58 =>
 LdP (a58.add 0) v8 fun t60 =>
 LdI .i64 (n5.add 3) v8 fun t62 =>
 LdI .i64 (n5.add 4) v8 fun t64 =>
 X5.call t60 t62 t64 v8 fun ve v9 =>
 R ve v9)
 (R 0 v8))
 (R 0 v)))))))
theorem WL.of_vc {vw a vx vx1 vx2 vx3 vx4 vx5 U R} (hv : WL.vc vw a vx vx1 vx2 vx3 vx4 vx5 U R) : WL.call vw a vx vx1 vx2 vx3 vx4 vx5 U R :=
 Wa Tryz.func129 (x := WL.hint) (Eq.mpr (by kernel_rfl) hv)
def WK.hint : Hn := .seq (.o 1) (.seq (.seq (.o 1) (.block (.loop [(2, .one .s), (3, .one (.i .i64))] (.seq (.seq (.o 7) (.cond (.leaf) (.leaf))) (.seq (.block (.seq (.o 9) (.seq (.reg (.heldJ true [] [(36, .one .b)] (.take 0 (.take 1 (.take 2 (.take 3 (.split 24 (.take 4 (.take 5 (.take 6 (.take 7 (.take 8 (.take 9 (.take 10 (.take 11 (.take 12 (.take 13 (.take 14 (.take 15 (.done))))))))))))) (.take 4 (.take 5 (.take 6 (.take 7 (.take 8 (.take 9 (.take 10 (.take 11 (.take 12 (.take 13 (.all [(14, .take 15 (.done))])))))))))))))))))) (.cond (.o 5) (.leaf))))) (.o 3)))))) (.o 5))
def WK.vc (vw : Option Addr) (U : Hp) (R : Hp -> Prop) : Prop :=
 Xn [.s, (.i .i64)] (fun I => I ⟨none, 0, 0⟩ 0 U) fun J (left : Sl) (i : Int) v =>
 NilP vw fun a7 =>
 LdS (a7.add 3) v fun t9 =>
 If (decide (i < ((t9.len : Nat) : Int))) (NilP vw fun a15 =>
 LdS (a15.add 3) v fun t17 =>
 Ix t17.a t17.len i 5 fun a19 =>
 LdI .i64 (a19.add 0) v fun t20 =>
 LdI .i64 (a19.add 1) v fun t201 =>
 LdI .i64 (a19.add 2) v fun t202 =>
 LdI .i64 (a19.add 3) v fun t203 =>
 LdB (a19.add 4) v fun t204 =>
 Nw (.cells #[.int .i64 0, .int .i64 0, .int .i64 0, .int .i64 0, .bool false] 39 (0, 0)) v fun n4 v1 =>
 St1 (n4.add 0) (.int .i64 t20) v1 fun v2 =>
 St1 (n4.add 1) (.int .i64 t201) v2 fun v3 =>
 St1 (n4.add 2) (.int .i64 t202) v3 fun v4 =>
 St1 (n4.add 3) (.int .i64 t203) v4 fun v5 =>
 St1 (n4.add 4) (.bool t204) v5 fun v6 =>
 Jn [.b] (fun (t36 : Bool) v7 =>
 If t36 (LdI .i64 (n4.add 0) v7 fun t38 =>
 LdI .i64 (n4.add 1) v7 fun t381 =>
 LdI .i64 (n4.add 2) v7 fun t382 =>
 LdI .i64 (n4.add 3) v7 fun t383 =>
 LdB (n4.add 4) v7 fun t384 =>
 Nw (.cells #[.int .i64 t38, .int .i64 t381, .int .i64 t382, .int .i64 t383, .bool t384] 39 (0, 0)) v7 fun n39 v8 =>
 App left 5 40 39 [.int .i64 0, .int .i64 0, .int .i64 0, .int .i64 0, .bool false] ⟨(some n39), 1, 1⟩ v8 fun left1 v9 =>
 Ar .i64 (i + 1) fun i1 =>
 J left1 i1 v9)
 (Ar .i64 (i + 1) fun i2 =>
 J left i2 v7)) fun J1 =>
 Held v6 fun S =>
 LdH S .b (n4.add 4) fun (t22 : Bool) =>
 If (!t22) (J1 true v6)
 (NilP vw fun a26 =>
 LdH S .s (a26.add 1) fun (t28 : Sl) =>
 LdH S (.i .i64) (n4.add 0) fun (t30 : Int) =>
 Ix t28.a t28.len t30 1 fun a31 =>
 LdH S .p a31 fun (t32 : Option Addr) =>
 LdH S (.i .i64) (n4.add 2) fun (t34 : Int) =>
 Xi.call t32 t34 v6 fun t35 v10 =>
 And (S v10) <|
 J1 t35 v10))
 (NilP vw fun a43 =>
 St1 (a43.add 3) (.slice left.a left.len left.cap) v fun v11 =>
 R v11)
theorem WK.of_vc {vw U R} (hv : WK.vc vw U R) : WK.call vw U R :=
 Wa Tryz.func201 (x := WK.hint) (Eq.mpr (by kernel_rfl) hv)
def Wx.hint : Hn := .seq (.o 1) (.seq (.seq (.o 1) (.block (.loop [(5, .one (.i .i64))] (.seq (.seq (.o 7) (.cond (.leaf) (.leaf))) (.seq (.block (.seq (.reg (.quiet [.op, .op, .op, .op, .op, .op, .op, .op, .op, .op, .op, .grd true 19 [.op, .op, .op, .op, .op, .op, .op, .op, .op, .op, .op, .op, .op, .op, .op, .op, .op, .op, .op]])) (.cond (.seq (.o 1) (.leaf)) (.leaf)))) (.o 3)))))) (.seq (.o 1) (.leaf)))
def Wx.vc (vw : Option Addr) (addr : Int) (U : Hp) (R : Bool -> Hp -> Prop) : Prop :=
 Xn [(.i .i64)] (fun I => I 0 U) fun J (i : Int) v =>
 NilP vw fun a8 =>
 LdS (a8.add 3) v fun t10 =>
 If (decide (i < ((t10.len : Nat) : Int))) (NilP vw fun a17 =>
 LdS (a17.add 3) v fun t19 =>
 Ix t19.a t19.len i 5 fun a21 =>
 LdI .i64 (a21.add 2) v fun t23 =>
 JnB (fun r v1 =>
 If r (R true v1)
 (Ar .i64 (i + 1) fun i1 =>
 J i1 v1)) fun J1 =>
 If (decide (addr ≥ t23)) (NilP vw fun a28 =>
 LdS (a28.add 3) v fun t30 =>
 Ix t30.a t30.len i 5 fun a32 =>
 LdI .i64 (a32.add 2) v fun t34 =>
 Ar .i64 (addr - t34) fun t35 =>
 NilP vw fun a37 =>
 LdS (a37.add 3) v fun t39 =>
 Ix t39.a t39.len i 5 fun a41 =>
 LdI .i64 (a41.add 3) v fun t43 =>
 J1 (decide (t35 < t43)) v)
 (J1 false v))
 (R false v)
theorem Wx.of_vc {vw addr U R} (hv : Wx.vc vw addr U R) : Wx.call vw addr U R :=
 Wa Tryz.func202 (x := Wx.hint) (Eq.mpr (by kernel_rfl) hv)
end Go.Proofs
namespace Go.Proofs
open Go.Vc

set_option maxRecDepth 100000
def W6.hint : Hn := .seq (.o 1) (.seq (.seq (.reg (.seq [.op, .op, .op, .op, .grd false 3 [.op, .op, .op]])) (.cond (.seq (.o 1) (.leaf)) (.leaf))) (.seq (.seq (.o 1) (.block (.loop [(3, .one (.i .i64))] (.seq (.seq (.o 4) (.cond (.leaf) (.leaf))) (.seq (.block (.seq (.reg (.heldJ true [4] [(41, .one .b)] (.take 0 (.take 1 (.take 2 (.take 3 (.all [(4, .take 5 (.take 6 (.split 24 (.take 7 (.take 8 (.take 9 (.take 10 (.take 11 (.take 12 (.take 13 (.take 14 (.take 15 (.take 16 (.take 17 (.take 18 (.take 19 (.take 20 (.take 21 (.take 22 (.take 23 (.done)))))))))))))))))) (.take 7 (.take 8 (.take 9 (.split 27 (.take 10 (.take 11 (.take 12 (.take 13 (.take 14 (.take 16 (.take 17 (.take 18 (.take 19 (.all [(15, .all [(20, .take 21 (.take 22 (.take 23 (.done))))]), (20, .all [(15, .take 21 (.take 22 (.take 23 (.done))))])])))))))))) (.take 10 (.take 11 (.take 12 (.take 13 (.take 14 (.take 15 (.take 16 (.take 17 (.take 18 (.take 19 (.take 20 (.take 21 (.take 22 (.take 23 (.done))))))))))))))))))))))]))))))) (.cond (.seq (.o 1) (.leaf)) (.leaf)))) (.o 3)))))) (.seq (.o 1) (.leaf))))
def W6.vc (table : Sl) (U : Hp) (R : Bool -> Hp -> Prop) : Prop :=
 JnB (fun r v =>
 If r (R false v)
 (Xn [(.i .i64)] (fun I => I 0 v) fun J1 (i : Int) v1 =>
 If (decide (i < ((table.len : Nat) : Int))) (Jn [.b] (fun (t41 : Bool) v2 =>
 If t41 (R false v2)
 (Ar .i64 (i + 1) fun i1 =>
 J1 i1 v2)) fun J2 =>
 Held v1 fun S =>
 Ix table.a table.len i 3 fun a20 =>
 LdH S (.i .i64) (a20.add 0) fun (t21 : Int) =>
 LdH S (.i .i64) (a20.add 1) fun (t211 : Int) =>
 LdH S (.i .i64) (a20.add 2) fun (t212 : Int) =>
 Xx.call t21 t211 t212 v1 fun t22 v3 =>
 If (!t22) (J2 true v3)
 (If (decide (i > 0)) (Ar .i64 (i - 1) fun t30 =>
 Ix table.a table.len t30 3 fun a31 =>
 Ix table.a table.len i 3 fun a36 =>
 (LdI .i64 (a31.add 0) v3 fun t33 =>
 LdI .i64 (a36.add 0) v3 fun t38 =>
 J2 (decide (t33 ≥ t38)) v3) ∧
 (LdI .i64 (a36.add 0) v3 fun t381 =>
 LdI .i64 (a31.add 0) v3 fun t331 =>
 J2 (decide (t331 ≥ t381)) v3))
 (J2 false v3)))
 (R true v1))) fun J =>
 If (decide (((table.len : Nat) : Int) < 1)) (J true U)
 (J (decide (((table.len : Nat) : Int) > 40)) U)
theorem W6.of_vc {table U R} (hv : W6.vc table U R) : W6.call table U R :=
 Wa Tryz.func17 (x := W6.hint) (Eq.mpr (by kernel_rfl) hv)
def XO.hint : Hn := .seq (.o 1) (.seq (.seq (.o 5) (.cond (.seq (.o 1) (.leaf)) (.leaf))) (.seq (.seq (.o 1) (.block (.loop [(5, .one (.i .i64))] (.seq (.seq (.o 4) (.cond (.leaf) (.leaf))) (.seq (.block (.seq (.oq 9) (.cond (.seq (.o 1) (.leaf)) (.leaf)))) (.o 3)))))) (.seq (.o 1) (.leaf))))
def XO.vc (a : Sl) (b : Sl) (U : Hp) (R : Bool -> Hp -> Prop) : Prop :=
 If (((a.len : Nat) : Int) != ((b.len : Nat) : Int)) (R false U)
 (Xn [(.i .i64)] (fun I => I 0 U) fun J (i : Int) v =>
 If (decide (i < ((a.len : Nat) : Int))) (Ix a.a a.len i 1 fun a19 =>
 LdI .i64 a19 v fun t20 =>
 Ix b.a b.len i 1 fun a23 =>
 LdI .i64 a23 v fun t24 =>
 If (t20 != t24) (R false v)
 (Ar .i64 (i + 1) fun i1 =>
 J i1 v))
 (R true v))
theorem XO.of_vc {a b U R} (hv : XO.vc a b U R) : XO.call a b U R :=
 Wa Tryz.func24 (x := XO.hint) (Eq.mpr (by kernel_rfl) hv)
def Xx.hint : Hn := .seq (.o 2) (.seq (.reg (.seq [.op, .op, .op, .op, .grd true 3 [.op, .op, .op], .op, .grd true 4 [.op, .op, .op, .op], .op, .grd true 3 [.op, .op, .op], .op, .grd true 3 [.op, .op, .op], .op, .grd true 6 [.op, .op, .op, .op, .op, .op], .op, .grd true 3 [.op, .op, .op], .op, .grd true 3 [.op, .op, .op], .op])) (.leaf))
def Xx.vc (c : Int) (c1 : Int) (c2 : Int) (U : Hp) (R : Bool -> Hp -> Prop) : Prop :=
 Nw (.cells #[.int .i64 c, .int .i64 c1, .int .i64 c2] 51 (0, 0)) U fun n1 v =>
 LdI .i64 (n1.add 0) v fun t4 =>
 JnB (fun r v1 =>
 JnB (fun r1 v2 =>
 JnB (fun r2 v3 =>
 JnB (fun r3 v4 =>
 JnB (fun r4 v5 =>
 JnB (fun r5 v6 =>
 JnB (fun r6 v7 =>
 R r6 v7) fun J6 =>
 If r5 (LdI .i64 (n1.add 2) v6 fun t42 =>
 J6 (decide (t42 <= 32)) v6)
 (J6 false v6)) fun J5 =>
 If r4 (LdI .i64 (n1.add 2) v5 fun t37 =>
 J5 (decide (t37 ≥ 1)) v5)
 (J5 false v5)) fun J4 =>
 If r3 (LdI .i64 (n1.add 1) v4 fun t29 =>
 Ar .i64 (t29 * 256) fun t30 =>
 LdI .i64 (n1.add 0) v4 fun t32 =>
 J4 (decide (t30 ≥ t32)) v4)
 (J4 false v4)) fun J3 =>
 If r2 (LdI .i64 (n1.add 1) v3 fun t24 =>
 J3 (decide (t24 <= 4)) v3)
 (J3 false v3)) fun J2 =>
 If r1 (LdI .i64 (n1.add 1) v2 fun t19 =>
 J2 (decide (t19 ≥ 1)) v2)
 (J2 false v2)) fun J1 =>
 If r (LdI .i64 (n1.add 0) v1 fun t13 =>
 Nz 8 <|
 J1 ((t13.tmod 8) == 0) v1)
 (J1 false v1)) fun J =>
 If (decide (t4 ≥ 8)) (LdI .i64 (n1.add 0) v fun t8 =>
 J (decide (t8 <= 512)) v)
 (J false v)
theorem Xx.of_vc {c c1 c2 U R} (hv : Xx.vc c c1 c2 U R) : Xx.call c c1 c2 U R :=
 Wa Tryz.func56 (x := Xx.hint) (Eq.mpr (by kernel_rfl) hv)
end Go.Proofs
namespace Go.Ar
open Go Go.Vc Go.Proofs
open Go.Bu (XV YZ Xu cnt)


variable {U : Hp} {F H : Rg} {A : AR} {sp : Sp} {Y : Lay} {T : Nat -> Hp -> Rg -> Prop}
theorem WeD {a b : Sl} {xs ys : List Int} {G : Rg} (ha : SlR a 1 (Yu xs) U F) (hb : SlR b 1 (Yu ys) U G) (hl : xs.length <= 1000000000) {R : Bool -> Hp -> Prop} (hR : R (decide (xs = ys)) U) : XO.call a b U R := by
 refine XO.of_vc ?_
 unfold XO.vc
 have la : a.len = xs.length := by have := ha.1; simp [Yu] at this; omega
 have lb : b.len = ys.length := by have := hb.1; simp [Yu] at this; omega
 rw [la, lb, bneN]
 refine iff_ (fun hc => ?_) fun hc => ?_
 ·have hne : xs.length ≠ ys.length := by simpa using hc
  rw [decide_eq_false fun e => hne (by rw [e])] at hR; exact hR
 have he : xs.length = ys.length := by simpa using hc
 refine YY (a := .i .i64) (fun (t : Int) v => ∃ i : Nat, t = (i : Int) /\ i <= xs.length /\ v = U /\ xs.take i = ys.take i) (fun t _ => xs.length - t.toNat) ⟨0, rfl, by omega, rfl, rfl⟩ ?_
 rintro t v ⟨i, rfl, hi, rfl, htk⟩
 refine ifD (fun hlt => ?_) fun hge => ?_
 ·have hi' : i < xs.length := by omega
  have hx : xs[i]? = some xs[i] := List.getElem?_eq_getElem hi'
  have hy : ys[i]? = some (ys[i]'(by omega)) := List.getElem?_eq_getElem _
  generalize xs[i] = x at hx
  generalize ys[i]'(by omega) = y at hy
  rw [← la, ← lb]
  refine ha.ixI hx (hb.ixI hy (iff_ (fun hne => ?_) fun heq => ?_))
  ·have hn : x ≠ y := by simpa using hne
   rw [decide_eq_false] at hR
   ·exact hR
   ·intro e; rw [e, hy] at hx; exact hn (Option.some.inj hx).symm
  ·have hxy : x = y := by simpa using heq
   refine arN (m := i + 1) (by omega) (by omega) ⟨⟨i + 1, rfl, by omega, rfl, ?_⟩, by omega⟩
   rw [List.take_add_one, List.take_add_one, htk, hx, hy, hxy]
 ·have : i = xs.length := by omega
  subst this
  rw [List.take_length, he, List.take_length] at htk
  rw [decide_eq_true htk] at hR; exact hR
def Far (F H I : Rg) : Prop := ∀ b, I b -> ¬ F b /\ ¬ H b
theorem Far.fits {I F' H' : Rg} (h : Far F H I) (hf : Fits U F H F' H') (hI : ∀ b, I b -> b < U.size) : Far F' H' I := fun b hb => ⟨fun hx => by
 rcases hf.1 b hx with h1 | h1
 ·exact (h b hb).1 h1
 ·have := hI b hb; omega, fun hx => (h b hb).2 (hf.2 b hx)⟩
theorem Far.keep {I : Rg} {s : Sl} {n : Nat} {vs : List Value} (h : Far F H I) {σ' : Hp} (e : Ext (Both F H) U σ') (hs : SlR s n vs U I) : SlR s n vs σ' I := (SlR.loc _ _ _).keep hs e fun b _ hb hc => by
 rcases hc with hc | hc
 ·exact (h b hb).1 hc
 ·exact (h b hb).2 hc
theorem QN {A' : AR} (h1 : A'.tb = A.tb) (h2 : A'.room = A.room) (h3 : A'.tra = A.tra) : traT A' Y = traT A Y := by
 funext k; unfold traT; rw [h1, h2, h3]
theorem Wee : al2.1.tb = al0.1.tb /\ al2.1.room = al0.1.room /\ al2.1.tra = al0.1.tra := by decide +kernel
theorem WaU (g : Gl U) : Off fun b => U.size <= b := fun b hb => by
 have h1 := ZG g.c0; have h2 := ZG g.u0
 exact ⟨by omega, by omega⟩
attribute [local irreducible] Z0 YE YO ZR V6 YF newA
theorem H0 (g : Gl U) {R : Bool -> Hp -> Prop} (hR : ∀ σ', Ext0 U σ' -> R true σ') : Wv.call U R := by
 refine Wv.of_vc ?_
 unfold Wv.vc
 refine G5 (n := 64) (by omega) (by omega) fun v hs e hp hS => ?_
 refine nw (cs := [.int .i64 256, .int .i64 1, .int .i64 2]) fun v1 z1 e1 b1 => ?_
 have hz0 := e.1
 have hz1 := b1.lt
 have hact : Acts v1 ⟨some ⟨v.size, 0, none⟩, 1, 1⟩ [(256, 1, 2)] := by
  refine ⟨rfl, fun i x y z hi => ?_⟩
  match i, hi with
  | 0, hi => cases hi; exact ⟨v.size, 0, rfl, b1.lt, by rw [b1.cell]; rfl, by rw [b1.cell]; rfl, by rw [b1.cell]; rfl⟩
 have hS1 := hS.keep0 e1
 have hne : newE [(256, 1, 2)] (QV 64).st.length 2 = 0 := by decide +kernel
 refine WdI hact hS1 2 (fun hn => absurd hne hn) fun _ v2 Y e2 hYh hA0 => ?_
 have hA : AHY v2 (fun b => v1.size <= b) Y al0.1 (traT al0.1 Y) := hA0
 have g2 := ((g.keep0 e).keep0 e1).keep0 e2
 have hW0 : W2 v2 (fun b => v1.size <= b) (Cut (fun b => U.size <= b) v1) Y al0.1 (traT al0.1 Y) al0.2 := by
  refine ⟨hA, ?_, fun b hb hc => by have := hc.2; omega, g2, ?_, ?_⟩
  ·rw [hYh]; exact Lcl.keep0 SpH3.loc (Lcl.cut SpH3.loc hS1) e2
  ·exact WaU ((g.keep0 e).keep0 e1)
  ·exact (WaU g).sub fun b hb => hb.1
 refine JnB.intro (ifF rfl (ifF rfl ?_))
 have ext0 : ∀ {F H : Rg} {a b : Hp}, Ext0 U a -> (∀ b, F b -> U.size <= b) -> (∀ b, H b -> U.size <= b) -> Ext (Both F H) a b -> Ext0 U b := fun ea h1 h2 eb => Ext.fresh ea eb fun b hb => by
  rcases hb with hb | hb
  ·exact h1 b hb
  ·exact h2 b hb
 have e02 : Ext0 U v2 := Ext.trans (Ext.trans e e1) e2
 refine Wbv hW0 0 fun v3 F1 H1 hf1 ex1 hW1 => ?_
 have f1 : (∀ b, F1 b -> U.size <= b) /\ ∀ b, H1 b -> U.size <= b := ⟨fun b hb => by
  rcases hf1.1 b hb with h | h
  ·have h : v1.size <= b := h; omega
  ·have := e02.1; omega, fun b hb => (hf1.2 b hb).1⟩
 have e03 : Ext0 U v3 := ext0 e02 (fun b hb => by have hb : v1.size <= b := hb; omega) (fun b hb => hb.1) ex1
 have hW1c := hW1.cut
 refine KU hW1c.a 0 3 fun s v4 ex2 hrow hA2 => ?_
 have hW2 : W2 v4 (Cut F1 v3) (Cut H1 v3) Y al2.1 (traT al0.1 Y) al2.2 := hW1c.arena ex2 (hA2.mono fun b _ hb => hb.1)
 have e04 : Ext0 U v4 := Ext.fresh e03 ex2 fun b hb => f1.1 b hb.1
 have hrow : RowR s 1 (ints (YM al1.1 0 3)) v4 (fun b => v3.size <= b) := hrow
 rw [WhY.2] at hrow
 have hs4 : SlR s 1 (Yu [4096]) v4 (fun b => v3.size <= b /\ b < v4.size) := V2 (SlR.loc _ _ _) hrow.slR
 have far2 : Far (Cut F1 v3) (Cut H1 v3) (fun b => v3.size <= b /\ b < v4.size) := fun b hb => ⟨fun h => by have := h.2; omega, fun h => by have := h.2; omega⟩
 have hAT : AHY v4 (Cut F1 v3) Y al2.1 (traT al2.1 Y) := by rw [QN Wee.1 Wee.2.1 Wee.2.2]; exact hW2.a
 refine HC hAT (by rw [Wa0.2.2.2.2.1]; omega) fun v5 e5 => ?_
 have hW2' := hW2.keep0 e5
 have e05 := Ext.trans e04 e5
 have hs5 := (SlR.loc _ _ _).keep0 hs4 e5
 have hsz5 := e5.1
 refine Vg hW2' 20 1 fun v6 F3 H3 hf3 ex6 hW3 => ?_
 have hW3 : W2 v6 F3 H3 Y al3.1 (traT al0.1 Y) al3.2 := hW3
 have f3 : (∀ b, F3 b -> U.size <= b) /\ ∀ b, H3 b -> U.size <= b := ⟨fun b hb => by
  rcases hf3.1 b hb with h | h
  ·exact f1.1 b h.1
  ·have := e05.1; omega, fun b hb => f1.2 b (hf3.2 b hb).1⟩
 have far3 := far2.fits hf3 fun b hb => by omega
 have hs6 := far2.keep ex6 hs5
 have e06 : Ext0 U v6 := ext0 e05 (fun b hb => f1.1 b hb.1) (fun b hb => f1.2 b hb.1) ex6
 refine VW hW3.a 32 WhF.2 fun v7 ex7 hA4 => ?_
 have hW4 : W2 v7 (Grow F3 v6) (Cut H3 v6) Y al4.1 (traT al0.1 Y) al4.2 := hW3.arenaG ex7 hA4
 have hs7 := far3.keep (ex7.sub fun b hb => .inl hb) hs6
 have e07 : Ext0 U v7 := Ext.fresh e06 ex7 fun b hb => f3.1 b hb
 have sz6 := ex6.1
 have f4 : (∀ b, Grow F3 v6 b -> U.size <= b) /\ ∀ b, Cut H3 v6 b -> U.size <= b := ⟨fun b hb => by
  rcases hb with h | h
  ·exact f3.1 b h
  ·have := e06.1; omega, fun b hb => f3.2 b hb.1⟩
 have far4 : Far (Grow F3 v6) (Cut H3 v6) (fun b => v3.size <= b /\ b < v4.size) := fun b hb => ⟨fun h => by
  rcases h with h | h
  ·exact (far3 b hb).1 h
  ·omega, fun h => (far3 b hb).2 h.1⟩
 refine Gp hW4 fun v8 ex8 hW5 => ?_
 have hW5 : W2 v8 (Cut (Grow F3 v6) v7) (Cut (Cut H3 v6) v7) Y al5.1 (traT al0.1 Y) al5.2 := hW5
 have hs8 := far4.keep ex8 hs7
 have e08 : Ext0 U v8 := ext0 e07 f4.1 f4.2 ex8
 have far5 : Far (Cut (Grow F3 v6) v7) (Cut (Cut H3 v6) v7) (fun b => v3.size <= b /\ b < v4.size) := fun b hb => ⟨fun h => (far4 b hb).1 h.1, fun h => (far4 b hb).2 h.1⟩
 refine nw (cs := [.int .i64 4096]) fun v9 z9 e9 b9 => ?_
 have sz8 := ex8.1
 have hW5' := hW5.keep0 e9
 have hs9 := (SlR.loc _ _ _).keep0 hs8 e9
 have e09 := Ext.trans e08 e9
 have hbx : SlR ⟨some ⟨v8.size, 0, none⟩, 1, 1⟩ 1 (Yu [4096]) v9 (· = v8.size) := ⟨rfl, .inr ⟨_, 0, _, rfl, rfl, b9.q, fun j hj => by rw [Nat.zero_add]; rfl⟩⟩
 refine KH hW5'.a 0 (xs := [4096]) (by intro x hx; simp at hx; subst hx; unfold I63; omega) (by simp) (Nat.le_refl _) (.inl ⟨_, hbx, fun b _ hb hf => by subst hb; have := hf.2; omega⟩) fun v10 ex10 hA6 => ?_
 have hW6 : W2 v10 (Grow (Cut (Grow F3 v6) v7) v9) (Cut (Cut (Cut H3 v6) v7) v9) Y al6.1 (traT al0.1 Y) al6.2 := hW5'.arenaG ex10 hA6
 have hs10 := far5.keep (ex10.sub fun b hb => .inl hb) hs9
 have f5 : (∀ b, Cut (Grow F3 v6) v7 b -> U.size <= b) /\ ∀ b, Cut (Cut H3 v6) v7 b -> U.size <= b := ⟨fun b hb => f4.1 b hb.1, fun b hb => f4.2 b hb.1⟩
 have e010 : Ext0 U v10 := Ext.fresh e09 ex10 f5.1
 have far6 : Far (Grow (Cut (Grow F3 v6) v7) v9) (Cut (Cut (Cut H3 v6) v7) v9) (fun b => v3.size <= b /\ b < v4.size) := fun b hb => ⟨fun h => by
  rcases h with h | h
  ·exact (far5 b hb).1 h
  ·have := e9.1; have := ex7.1; omega, fun h => (far5 b hb).2 h.1⟩
 refine Gp hW6 fun v11 ex11 hW7 => ?_
 have hs11 := far6.keep ex11 hs10
 have e011 : Ext0 U v11 := ext0 e010 (fun b hb => by
  rcases hb with h | h
  ·exact f5.1 b h
  ·have := e09.1; omega) (fun b hb => f5.2 b hb.1) ex11
 have x1 : Kt al0.1 al0.2 0 = 0 := Wip
 refine JnB.intro (ifT (by rw [x1]; rfl) (nw (cs := [.int .i64 4096]) fun v12 z12 e12 b12 => ?_))
 have hbx2 : SlR ⟨some ⟨v11.size, 0, none⟩, 1, 1⟩ 1 (Yu [4096]) v12 (· = v11.size) := ⟨rfl, .inr ⟨_, 0, _, rfl, rfl, b12.q, fun j hj => by rw [Nat.zero_add]; rfl⟩⟩
 refine WeD ((SlR.loc _ _ _).keep0 hs11 e12) hbx2 (by simp) ?_
 have e012 := Ext.trans e011 e12
 have c1 : Zi al1.1 0 3 = 0 := WhY.1
 refine JnB.intro (ifT rfl (JnB.intro (ifT (by show (Zi al1.1 0 3 == 0) = true; rw [c1]; rfl) ?_)))
 refine JnB.intro (ifT (by rw [Wa0.1]; rfl) (JnB.intro (ifT (by rw [Wa0.2.1]; rfl) (JnB.intro (ifT (by rw [Wa0.2.2.1]; rfl) (JnB.intro (ifT (by rw [Wa0.2.2.2.1]; rfl) (JnB.intro (ifT (by rw [Wa0.2.2.2.2.1]; rfl) (JnB.intro (ifT (by rw [Wa0.2.2.2.2.2]; rfl) ?_)))))))))))
 have y1 : Q1 al2.1 al2.2 20 1 = 32 := Wh6.2
 have y2 : ZS al2.1 al2.2 20 1 = 0 := Wh6.1
 refine JnB.intro (ifT (by rw [y1]; rfl) (JnB.intro (ifT (by rw [y2]; rfl) (JnB.intro (ifT (by rw [WhF.1]; rfl) (JnB.intro (ifT (by rw [Wii]; rfl) (JnB.intro (ifT (by show (Zn al5.1 0 [4096] == 0) = true; rw [Wio]; rfl) (JnB.intro (ifT (by rw [WhQ.1]; rfl) ?_)))))))))))
 refine Ga (hW7.keep0 e12).a 16 ?_
 have o1 : Qx (V6 al6.1 al6.2).1 16 = false := WhQ.2
 rw [o1]
 exact hR v12 e012
end Go.Ar
namespace Go.Ar
open Go Go.Vc Go.Proofs
open Go.Bu (XV YZ Xu cnt)


inductive LbW where
 | hd | sp | arow | held
 | ar (k : Nat)
 deriving DecidableEq
structure LayW where
 w : Nat
 hs : Nat
 arow : Sl
 held : Sl
 table : Sl
 ys : List Lay
def hdW (L : LayW) : List Value := [.pointer (some ⟨L.hs, 0, none⟩), .slice L.arow.a L.arow.len L.arow.cap, .slice L.table.a L.table.len L.table.cap, .slice L.held.a L.held.len L.held.cap]
def pc1 (p : Pc) : List Value := [.int .i64 (p.k : Int), .int .i64 p.cls, .int .i64 (p.addr : Int), .int .i64 (p.size : Int), .bool p.moved]
def pcV (l : List Pc) : List Value := l.flatMap pc1
theorem Qt (l : List Pc) : (pcV l).length = l.length * 5 := by
 induction l with
 | nil => rfl
 | cons x l ih =>
  have e : pcV (x :: l) = pc1 x ++ pcV l := rfl
  have e5 : (pc1 x).length = 5 := rfl
  rw [e, List.length_append, ih, e5, List.length_cons]; omega
theorem VB (a b : List Pc) : pcV (a ++ b) = pcV a ++ pcV b := by simp [pcV]
theorem H7 (p : Pc) : pcV [p] = pc1 p := by simp [pcV]
theorem Wa5 {l : List Pc} {i : Nat} {p : Pc} (h : l[i]? = some p) {d : Nat} (hd : d < 5) : (pcV l)[5 * i + d]? = (pc1 p)[d]? := by
 induction l generalizing i with
 | nil => simp at h
 | cons x l ih =>
  have e : pcV (x :: l) = pc1 x ++ pcV l := rfl
  have e5 : (pc1 x).length = 5 := rfl
  rw [e]
  cases i with
  | zero =>
   simp at h; subst h
   rw [List.getElem?_append_left (by omega)]; congr 1; omega
  | succ i =>
   rw [List.getElem?_append_right (by omega), e5, show 5 * (i + 1) + d - 5 = 5 * i + d by omega]
   exact ih (by simpa using h)
theorem Wfc (l : List Pc) (n : Nat) : pcV (l.take n) = (pcV l).take (n * 5) := by
 induction l generalizing n with
 | nil => simp [pcV]
 | cons x l ih =>
  have e : pcV (x :: l) = pc1 x ++ pcV l := rfl
  have e5 : (pc1 x).length = 5 := rfl
  cases n with
  | zero => simp [pcV]
  | succ n =>
   rw [List.take_succ_cons, e]
   have e' : pcV (x :: l.take n) = pc1 x ++ pcV (l.take n) := rfl
   rw [e', ih, List.take_append, List.take_of_length_le (l := pc1 x) (by omega), e5, show (n + 1) * 5 - 5 = n * 5 by omega]
theorem WeM (l : List Pc) (n : Nat) : pcV (l.drop n) = (pcV l).drop (n * 5) := by
 induction l generalizing n with
 | nil => simp [pcV]
 | cons x l ih =>
  have e : pcV (x :: l) = pc1 x ++ pcV l := rfl
  have e5 : (pc1 x).length = 5 := rfl
  cases n with
  | zero => simp
  | succ n =>
   rw [List.drop_succ_cons, e, ih, List.drop_append, List.drop_of_length_le (l := pc1 x) (by omega), e5, show (n + 1) * 5 - 5 = n * 5 by omega, List.nil_append]
theorem Ur {l : List Pc} : ∀ v ∈ pcV l, one1 v = true := by
 intro v hv
 obtain ⟨p, _, hp⟩ := List.mem_flatMap.1 hv
 simp only [pc1, List.mem_cons, List.not_mem_nil, or_false] at hp
 rcases hp with rfl | rfl | rfl | rfl | rfl <;> rfl
def ArR (y : Option Lay) (a : Option AR) : Hp -> Rg -> Prop := fun U F => match y, a with
 | some Y, some A => AHY U F Y A (traT A Y)
 | _, _ => True
theorem ArR.loc (y : Option Lay) (a : Option AR) : Lcl (ArR y a) := by
 intro U σ' F G h hz hs
 unfold ArR at *
 split at h
 ·exact AHY.loc _ _ _ _ h hz hs
 ·trivial
def CW (W : Wd) (L : LayW) (cs : List Value) : LbW -> Hp -> Rg -> Prop
 | .hd => BlkR L.w cs
 | .sp => fun U F => SpH3 U F L.hs W.sp
 | .arow => RowR L.arow 1 (ptrV (L.ys.map (·.p)))
 | .held => RowR L.held 5 (pcV W.held)
 | .ar k => ArR L.ys[k]? W.ars[k]?
theorem CW.loc {W : Wd} {L : LayW} {cs : List Value} : ∀ i, Lcl (CW W L cs i)
 | .hd => BlkR.loc _ _
 | .sp => SpH3.loc
 | .arow => RowR.loc _ _ _
 | .held => RowR.loc _ _ _
 | .ar k => ArR.loc _ _
structure WH (U : Hp) (F : Rg) (L : LayW) (W : Wd) : Prop where
 len : L.ys.length = W.ars.length
 hs : ∀ Y ∈ L.ys, Y.hs = L.hs
 sep : Sep (CW W L (hdW L)) U F
 g : Gl U
 gd : Gd U
 o : Off F
 o2 : ¬ F 2
variable {U : Hp} {F : Rg} {L : LayW} {W : Wd}
theorem WH.keep0 (h : WH U F L W) {σ' : Hp} (e : Ext0 U σ') : WH σ' F L W := ⟨h.len, h.hs, (Sep.loc CW.loc).keep0 h.sep e, h.g.keep0 e, h.gd.keep0 e, h.o, h.o2⟩
theorem WH.mono (h : WH U F L W) {G : Rg} (hs : ∀ b, b < U.size -> F b -> G b) (o : Off G) (o2 : ¬ G 2) : WH U G L W := ⟨h.len, h.hs, (Sep.loc CW.loc).mono h.sep hs, h.g, h.gd, o, o2⟩
theorem WH.cut (h : WH U F L W) : WH U (Cut F U) L W := h.mono (fun b hb hf => ⟨hf, hb⟩) (h.o.sub fun b hb => hb.1) fun hb => h.o2 hb.1
theorem Wca (g : Gd U) : 2 < U.size := ZG g.d0
theorem WH.growO2 (h : WH U F L W) : ¬ Grow F U 2 := fun hb => by
 rcases hb with hb | hb
 ·exact h.o2 hb
 ·have := Wca h.gd; omega
theorem WH.hd (h : WH U F L W) : Blk U L.w (hdW L) := by obtain ⟨G, hG, hb⟩ := h.sep.get .hd; exact hb.2
theorem WH.held (h : WH U F L W) : RowR L.held 5 (pcV W.held) U F := by
 obtain ⟨G, hG, hb⟩ := h.sep.get .held
 exact (RowR.loc _ _ _).mono hb fun b _ hb => hG b hb
theorem WH.heldL (h : WH U F L W) : L.held.len = W.held.length := by have := h.held.1; rw [Qt] at this; omega
theorem WH.arow (h : WH U F L W) : RowR L.arow 1 (ptrV (L.ys.map (·.p))) U F := by
 obtain ⟨G, hG, hb⟩ := h.sep.get .arow
 exact (RowR.loc _ _ _).mono hb fun b _ hb => hG b hb
theorem WH.arowL (h : WH U F L W) : L.arow.len = W.ars.length := by
 have := h.arow.1
 have := h.len
 simp [ptrV] at *; omega
theorem WH.sp (h : WH U F L W) : SpH3 U F L.hs W.sp := by
 obtain ⟨G, hG, hb⟩ := h.sep.get .sp
 exact Lcl.mono SpH3.loc hb fun b _ hb => hG b hb
theorem WH.ar (h : WH U F L W) {k : Nat} {A : AR} (hk : W.ars[k]? = some A) : ∃ Y, L.ys[k]? = some Y /\ Y.hs = L.hs /\ AHY U F Y A (traT A Y) := by
 have hl := (List.getElem?_eq_some_iff.1 hk).1
 have hy : L.ys[k]? = some (L.ys[k]'(by rw [h.len]; exact hl)) := List.getElem?_eq_getElem _
 obtain ⟨G, hG, hb⟩ := h.sep.get (.ar k)
 simp only [CW, hk, hy, ArR] at hb
 exact ⟨_, hy, h.hs _ (List.mem_of_getElem? hy), hb.mono fun b _ hb => hG b hb⟩
theorem WH.rA (h : WH U F L W) {k : Nat} {Y : Lay} (hy : L.ys[k]? = some Y) {K : Option Addr -> Prop} (hK : K (some ⟨Y.p, 0, none⟩)) : Ix L.arow.a L.arow.len (k : Int) 1 fun a => LdP a U K :=
 WcI h.arow.slR (by simp [hy]) hK
theorem Vj {s : Sl} {l : List Pc} (h : SlR s 5 (pcV l) U F) {i d : Nat} {p : Pc} {x : Int} (hp : l[i]? = some p) (hd : d < 5) (hx : (pc1 p)[d]? = some (.int .i64 x)) {K : Int -> Prop} (hK : K x) : Ix s.a s.len (i : Int) 5 fun a => LdI .i64 (a.add d) U K := by
 have hi := (List.getElem?_eq_some_iff.1 hp).1
 obtain ⟨b, o, ha, hc⟩ := h.cell ((Wa5 hp hd).trans hx)
 have hl := h.1
 rw [Qt] at hl
 rw [ha]
 refine ix (by omega) (by omega) ?_
 rw [add_lit, add_lit]
 exact ldI (by rw [show o + (i : Int).toNat * 5 + d = o + (5 * i + d) by omega]; exact hc) hK
theorem WhC {s : Sl} {l : List Pc} (h : SlR s 5 (pcV l) U F) {i : Nat} {p : Pc} (hp : l[i]? = some p) {K : Bool -> Prop} (hK : K p.moved) : Ix s.a s.len (i : Int) 5 fun a => LdB (a.add 4) U K := by
 have hi := (List.getElem?_eq_some_iff.1 hp).1
 obtain ⟨b, o, ha, hc⟩ := h.cell (v := .bool p.moved) ((Wa5 hp (d := 4) (by omega)).trans rfl)
 have hl := h.1
 rw [Qt] at hl
 rw [ha]
 refine ix (by omega) (by omega) ?_
 rw [add_lit, add_lit]
 exact ldB (by rw [show o + (i : Int).toNat * 5 + 4 = o + (5 * i + 4) by omega]; exact hc) hK
theorem WfW {s : Sl} {l : List Pc} (h : SlR s 5 (pcV l) U F) {i : Nat} {p : Pc} (hp : l[i]? = some p) {K : Int -> Int -> Int -> Int -> Bool -> Prop} (hK : K p.k p.cls p.addr p.size p.moved) :
 Ix s.a s.len (i : Int) 5 fun a => LdI .i64 (a.add 0) U fun x0 => LdI .i64 (a.add 1) U fun x1 => LdI .i64 (a.add 2) U fun x2 => LdI .i64 (a.add 3) U fun x3 => LdB (a.add 4) U fun x4 => K x0 x1 x2 x3 x4 := by
 have hi := (List.getElem?_eq_some_iff.1 hp).1
 have hl := h.1
 rw [Qt] at hl
 have g : ∀ d, d < 5 -> ∀ v, (pc1 p)[d]? = some v -> ∃ b o, s.a = some ⟨b, o, none⟩ /\ cell U ⟨b, o + (5 * i + d), none⟩ = some v := fun d hd v hv => h.cell ((Wa5 hp hd).trans hv)
 obtain ⟨b, o, ha, h0⟩ := g 0 (by omega) _ rfl
 obtain ⟨b1, o1, ha1, h1⟩ := g 1 (by omega) _ rfl
 obtain ⟨b2, o2, ha2, h2⟩ := g 2 (by omega) _ rfl
 obtain ⟨b3, o3, ha3, h3⟩ := g 3 (by omega) _ rfl
 obtain ⟨b4, o4, ha4, h4⟩ := g 4 (by omega) _ rfl
 rw [ha] at ha1 ha2 ha3 ha4
 cases ha1; cases ha2; cases ha3; cases ha4
 rw [ha]
 refine ix (by omega) (by omega) ?_
 simp only [add_lit]
 have e : ∀ d, o + (i : Int).toNat * 5 + d = o + (5 * i + d) := fun d => by omega
 exact ldI (by rw [e]; exact h0) (ldI (by rw [e]; exact h1) (ldI (by rw [e]; exact h2) (ldI (by rw [e]; exact h3) (ldB (by rw [e]; exact h4) hK))))
def atI (held : List Pc) (k : Nat) (cls x : Int) : Int := match atW held k cls x with
 | some i => (i : Int)
 | none => -1
theorem Wfl {held : List Pc} {k : Nat} {cls x : Int} {i : Nat} (h : ∀ j p, j < i -> held[j]? = some p -> isAt k cls x p = false) {p : Pc} (hp : held[i]? = some p) (ht : isAt k cls x p = true) : atW held k cls x = some i := by
 obtain ⟨hi, rfl⟩ := List.getElem?_eq_some_iff.1 hp
 exact List.findIdx?_eq_some_iff_getElem.2 ⟨hi, ht, fun j hj => by rw [h j _ hj (List.getElem?_eq_getElem (by omega))]; simp⟩
theorem WeJ {held : List Pc} {k : Nat} {cls x : Int} (h : ∀ (j : Nat) p, j < held.length -> held[j]? = some p -> isAt k cls x p = false) : atW held k cls x = none := by
 unfold atW
 rw [List.findIdx?_eq_none_iff]
 intro p hp
 obtain ⟨j, hj⟩ := List.getElem?_of_mem hp
 exact h j p (List.getElem?_eq_some_iff.1 hj).1 hj
theorem WhM (h : WH U F L W) (k : Nat) (cls x : Int) (hlen : W.held.length <= 1000000000) {R : Int -> Hp -> Prop} (hR : R (atI W.held k cls x) U) : WN.call (some ⟨L.w, 0, none⟩) (k : Int) cls x U R := by
 refine WN.of_vc ?_
 unfold WN.vc
 have hb := h.hd
 have hs := h.held.slR
 have hl := h.heldL
 refine YY (a := .i .i64) (fun (t : Int) v => ∃ i : Nat, t = (i : Int) /\ i <= W.held.length /\ v = U /\ ∀ j p, j < i -> W.held[j]? = some p -> isAt k cls x p = false) (fun t _ => W.held.length - t.toNat) ⟨0, rfl, by omega, rfl, fun j p hj => by omega⟩ ?_
 rintro t v ⟨i, rfl, hi, rfl, hno⟩
 refine nilP (hb.rS rfl (ifD (fun hlt => ?_) fun hge => ?_))
 ·simp only at hlt
  have hi' : i < W.held.length := by omega
  have hp : W.held[i]? = some W.held[i] := List.getElem?_eq_getElem hi'
  generalize W.held[i] = p at hp
  have next : isAt k cls x p = false -> Ar .i64 ((i : Int) + 1) fun i1 => (∃ j : Nat, i1 = (j : Int) /\ j <= W.held.length /\ v = v /\ ∀ l q, l < j -> W.held[l]? = some q -> isAt k cls x q = false) /\ W.held.length - i1.toNat < W.held.length - (i : Int).toNat := fun hf =>
   arN (m := i + 1) (by omega) (by omega) ⟨⟨i + 1, rfl, by omega, rfl, fun l q hl' hq => by
    by_cases e : l = i
    ·subst e; rw [hp] at hq; cases hq; exact hf
    ·exact hno l q (by omega) hq⟩, by omega⟩
  refine nilP (hb.rS rfl (Vj hs hp (d := 0) (by omega) rfl (JnB.intro ?_)))
  have fin : ∀ (r : Bool), r = isAt k cls x p -> If r (R (i : Int) v) (Ar .i64 ((i : Int) + 1) fun i1 => (∃ j : Nat, i1 = (j : Int) /\ j <= W.held.length /\ v = v /\ ∀ l q, l < j -> W.held[l]? = some q -> isAt k cls x q = false) /\ W.held.length - i1.toNat < W.held.length - (i : Int).toNat) := by
   intro r hr
   subst hr
   refine iff_ (fun ht => ?_) fun hf => next hf
   have := Wfl hno hp ht
   unfold atI at hR; rw [this] at hR; exact hR
  have ek : ((p.k : Int) == (k : Int)) = (p.k == k) := beqN _ _
  rw [ek]
  refine iff_ (fun h1 => nilP (hb.rS rfl (Vj hs hp (d := 1) (by omega) rfl (JnB.intro ?_)))) fun h1 => JnB.intro (iff_ (fun h2 => by cases h2) fun _ => JnB.intro (iff_ (fun h3 => by cases h3) fun _ => fin _ (by unfold isAt; rw [h1]; rfl)))
  refine iff_ (fun h2 => nilP (hb.rS rfl (Vj hs hp (d := 2) (by omega) rfl (JnB.intro ?_)))) fun h2 => JnB.intro (iff_ (fun h3 => by cases h3) fun _ => fin _ (by unfold isAt; rw [h1, h2]; rfl))
  refine iff_ (fun h3 => nilP (hb.rS rfl (WhC hs hp ?_))) fun h3 => fin _ (by unfold isAt; rw [h1, h2, h3]; rfl)
  exact fin _ (by unfold isAt; rw [h1, h2, h3]; rfl)
 ·have hii : i = W.held.length := by simp only at hge; omega
  subst hii
  have := WeJ hno
  unfold atI at hR; rw [this] at hR; exact hR
theorem Wdz {held : List Pc} {k : Nat} {cls x : Int} : decide (atI held k cls x < 0) = !(atW held k cls x).isSome := by
 unfold atI
 cases atW held k cls x with
 | none => rfl
 | some i => simp
theorem Wf5 (h : WH U F L W) (k : Nat) (x0 x1 x2 x3 x4 : Int) {sl : Sl} {l : List Int} {X : Rg} (hs : SlR sl 1 (Yu l) U X) (hlen : W.held.length <= 1000000000) (hll : l.length <= 1000000) {R : Bool -> Hp -> Prop} (hR : ∀ σ', Ext0 U σ' -> R (ownW W.held k x2 l) σ') :
 WF.call (some ⟨L.w, 0, none⟩) (k : Int) x0 x1 x2 x3 x4 sl U R := by
 refine WF.of_vc ?_
 unfold WF.vc
 have hsl : sl.len = l.length := by have := hs.1; simp [Yu] at this; omega
 refine nw (cs := [.int .i64 x0, .int .i64 x1, .int .i64 x2, .int .i64 x3, .int .i64 x4, .slice sl.a sl.len sl.cap]) fun v hz e hb => ?_
 have h := h.keep0 e
 have hs := (SlR.loc _ _ _).keep0 hs e
 refine YY (a := .i .i64) (fun (t : Int) w => ∃ i : Nat, t = (i : Int) /\ i <= l.length /\ w = v /\ ownW W.held k x2 (l.take i) = true) (fun t _ => l.length - t.toNat) ⟨0, rfl, by omega, rfl, by simp [ownW]⟩ ?_
 rintro t w ⟨i, rfl, hi, rfl, hown⟩
 refine hb.rS rfl (ifD (fun hlt => ?_) fun hge => ?_)
 ·simp only at hlt
  have hi' : i < l.length := by omega
  have hx : l[i]? = some l[i] := List.getElem?_eq_getElem hi'
  generalize l[i] = x at hx
  refine hb.rI rfl (hb.rS rfl (hs.ixI hx (WhM h k x2 x hlen ?_)))
  rw [Wdz]
  have htake : l.take (i + 1) = l.take i ++ [x] := by rw [List.take_add_one, hx]; rfl
  have hm : x ∈ l := List.mem_of_getElem? hx
  refine iff_ (fun hn => ?_) fun hn => ?_
  ·have : ownW W.held k x2 l = false := by
    apply Bool.eq_false_iff.2; intro ho
    unfold ownW at ho
    rw [Bool.and_eq_true, List.all_eq_true] at ho
    rw [ho.1 x hm] at hn; cases hn
   have := this ▸ hR w e; exact this
  ·have hsome : (atW W.held k x2 x).isSome = true := by simpa using hn
   refine YY (a := .i .i64) (fun (t : Int) w' => ∃ j : Nat, t = (j : Int) /\ j <= i /\ w' = w /\ x ∉ l.take j) (fun t _ => i - t.toNat) ⟨0, rfl, by omega, rfl, by simp⟩ ?_
   rintro t w' ⟨j, rfl, hj, rfl, hnot⟩
   refine ifD (fun hlt2 => ?_) fun hge2 => ?_
   ·have hj' : j < l.length := by omega
    have hy : l[j]? = some l[j] := List.getElem?_eq_getElem hj'
    generalize l[j] = y at hy
    refine hb.rS rfl (hs.ixI hx (hb.rS rfl (hs.ixI hy (iff_ (fun he => ?_) fun he => ?_))))
    ·have hxy : x = y := by simpa using he
     have : ownW W.held k x2 l = false := by
      apply Bool.eq_false_iff.2; intro ho
      have hnd := (Ka.1 ho).2
      obtain ⟨hi1, e1⟩ := List.getElem?_eq_some_iff.1 hx
      obtain ⟨hj1, e2⟩ := List.getElem?_eq_some_iff.1 hy
      have := List.pairwise_iff_getElem.1 hnd j i hj1 hi1 (by omega)
      exact this (by rw [e1, e2, hxy])
     have := this ▸ hR w' e; exact this
    ·have hxy : x ≠ y := by simpa using he
     refine arN (m := j + 1) (by omega) (by omega) ⟨⟨j + 1, rfl, by omega, rfl, ?_⟩, by omega⟩
     rw [List.take_add_one, hy]
     simp only [Option.toList, List.mem_append, List.mem_singleton, not_or]
     exact ⟨hnot, hxy⟩
   ·have hji : j = i := by omega
    subst hji
    refine arN (m := j + 1) (by omega) (by omega) ⟨⟨j + 1, rfl, by omega, rfl, ?_⟩, by omega⟩
    rw [htake]
    rw [Ka] at hown ⊢
    refine ⟨fun z hz => ?_, List.nodup_append.2 ⟨hown.2, by simp, fun a ha b hb e => ?_⟩⟩
    ·rcases List.mem_append.1 hz with hz | hz
     ·exact hown.1 z hz
     ·simp only [List.mem_singleton] at hz; subst hz
      unfold atW at hsome
      rw [List.findIdx?_isSome, List.any_eq_true] at hsome
      exact hsome
    ·simp only [List.mem_singleton] at hb; subst hb; subst e; exact hnot ha
 ·have hii : i = l.length := by simp only at hge; omega
  subst hii
  rw [List.take_length] at hown
  have := hown ▸ hR w e; exact this
end Go.Ar
namespace Go.Ar
open Go Go.Vc Go.Proofs
open Go.Bu (XV YZ Xu cnt)


variable {U : Hp} {F : Rg} {L : LayW} {W : Wd}
theorem Wgh {cs : List Value} {k : Nat} {A : AR} : ∀ j, j ≠ LbW.ar k -> CW { W with ars := W.ars.set k A } L cs j = CW W L cs j := by
 intro j hj
 cases j <;> try rfl
 rename_i m
 have hm : m ≠ k := fun e => hj (by rw [e])
 show ArR _ (W.ars.set k A)[m]? = _
 rw [List.getElem?_set_ne (Ne.symm hm)]; rfl
theorem Wie {cs : List Value} {sp : Sp} : ∀ j, j ≠ LbW.sp -> CW { W with sp := sp } L cs j = CW W L cs j := by
 intro j hj
 cases j <;> first | rfl | exact absurd rfl hj
theorem WH.re (h : WH U F L W) {σ' : Hp} {W' : Wd} {L' : LayW} {G : Rg} (e : Ext F U σ') (hl : L'.ys.length = W'.ars.length) (hh : ∀ Y ∈ L'.ys, Y.hs = L'.hs) (hs : Sep (CW W' L' (hdW L')) σ' G) (o : Off G) (o2 : ¬ G 2) : WH σ' G L' W' :=
 ⟨hl, hh, hs, h.g.keep e h.o, h.gd.keep e h.o2, o, o2⟩
theorem WH.oG (h : WH U F L W) : Off (Grow F U) := h.o.grow h.g
theorem WH.stepA (h : WH U F L W) {k : Nat} {A : AR} (hk : W.ars[k]? = some A) : ∃ (Y : Lay) (G : Rg), L.ys[k]? = some Y /\ Y.hs = L.hs /\ (∀ b, G b -> F b) /\ AHY U G Y A (traT A Y) /\ ∀ (σ' : Hp) (A' : AR) (F' : Rg), Ext G U σ' -> (∀ b, F' b -> Grow G U b) -> AHY σ' F' Y A' (traT A' Y) →
 Ext F U σ' /\ WH σ' (fun b => F b /\ b < U.size /\ ¬ G b ∨ F' b) L { W with ars := W.ars.set k A' } := by
 have hl := (List.getElem?_eq_some_iff.1 hk).1
 have hy : L.ys[k]? = some (L.ys[k]'(by rw [h.len]; exact hl)) := List.getElem?_eq_getElem _
 generalize (L.ys[k]'(by rw [h.len]; exact hl)) = Y at hy
 obtain ⟨G, hG, hi, hput⟩ := h.sep.step CW.loc (.ar k)
 simp only [CW, hk, hy, ArR] at hi
 refine ⟨Y, G, hy, h.hs _ (List.mem_of_getElem? hy), hG, hi, fun σ' A' F' e hF' hA => ?_⟩
 have e' := e.sub hG
 refine ⟨e', h.re e' (by simp [h.len]) h.hs (hput σ' (CW { W with ars := W.ars.set k A' } L (hdW L)) F' Wgh e hF' ?_ (CW.loc _)) (h.oG.sub fun b hb => ?_) fun hb => h.growO2 ?_⟩
 ·show ArR L.ys[k]? (W.ars.set k A')[k]? σ' F'
  rw [hy, List.getElem?_set_self hl]; exact hA
 ·rcases hb with hb | hb
  ·exact .inl hb.1
  ·exact (hF' b hb).imp (hG b) id
 ·rcases hb with hb | hb
  ·exact .inl hb.1
  ·exact (hF' _ hb).imp (hG _) id
theorem WH.stepAS (h : WH U F L W) {k : Nat} {A : AR} (hk : W.ars[k]? = some A) : ∃ (Y : Lay) (G H : Rg), L.ys[k]? = some Y /\ Y.hs = L.hs /\ W2 U G H Y A (traT A Y) W.sp /\ ∀ (σ' : Hp) (A' : AR) (sp' : Sp) (F' H' : Rg), Ext (Both G H) U σ' -> Fits U G H F' H' -> W2 σ' F' H' Y A' (traT A' Y) sp' →
 Ext F U σ' /\ WH σ' (Grow F U) L { W with sp := sp', ars := W.ars.set k A' } := by
 have hl := (List.getElem?_eq_some_iff.1 hk).1
 have hy : L.ys[k]? = some (L.ys[k]'(by rw [h.len]; exact hl)) := List.getElem?_eq_getElem _
 generalize (L.ys[k]'(by rw [h.len]; exact hl)) = Y at hy
 obtain ⟨G, H, hG, hH, hd, hi, hj, hput⟩ := h.sep.step2 CW.loc (.ar k) .sp (by intro e; cases e)
 simp only [CW, hk, hy, ArR] at hi
 have hj : SpH3 U H L.hs W.sp := hj
 have hhs := h.hs _ (List.mem_of_getElem? hy)
 refine ⟨Y, G, H, hy, hhs, ⟨hi, by rw [hhs]; exact hj, hd, h.g, h.o.sub hG, h.o.sub hH⟩, fun σ' A' sp' F' H' e hf hW => ?_⟩
 have e' : Ext F U σ' := e.sub fun b hb => by
  rcases hb with hb | hb
  ·exact hG b hb
  ·exact hH b hb
 have hF' : ∀ b, F' b -> (G b ∨ H b) ∨ U.size <= b := fun b hb => (hf.1 b hb).imp .inl id
 have hH' : ∀ b, H' b -> (G b ∨ H b) ∨ U.size <= b := fun b hb => .inl (.inr (hf.2 b hb))
 have hs := hput σ' (CW { W with sp := sp', ars := W.ars.set k A' } L (hdW L)) F' H' (fun j h1 h2 => ?_) e hF' hH' hW.d ?_ ?_ CW.loc
 ·refine ⟨e', h.re e' (by simp [h.len]) h.hs ((Sep.loc CW.loc).mono hs fun b _ hb => ?_) h.oG h.growO2⟩
  rcases hb with hb | hb | hb
  ·exact .inl hb.1
  ·exact (hF' b hb).imp (fun hx => hx.elim (hG b) (hH b)) id
  ·exact .inl (hH b (hf.2 b hb))
 ·have a1 := Wgh (W := { W with sp := sp' }) (L := L) (cs := hdW L) (A := A') j h1
  exact a1.trans (Wie j h2)
 ·show ArR L.ys[k]? (W.ars.set k A')[k]? σ' F'
  rw [hy, List.getElem?_set_self hl]; exact hW.a
 ·show SpH3 σ' H' L.hs sp'
  rw [← hhs]; exact hW.s
theorem WH.stepS (h : WH U F L W) : ∃ G : Rg, (∀ b, G b -> F b) /\ SpH3 U G L.hs W.sp /\ Off G /\ ∀ (σ' : Hp) (sp' : Sp), Ext G U σ' -> SpH3 σ' (Grow G U) L.hs sp' -> Ext F U σ' /\ WH σ' (Grow F U) L { W with sp := sp' } := by
 obtain ⟨G, hG, hi, hput⟩ := h.sep.step CW.loc .sp
 refine ⟨G, hG, hi, h.o.sub hG, fun σ' sp' e hs => ?_⟩
 have e' := e.sub hG
 refine ⟨e', h.re e' h.len h.hs ((Sep.loc CW.loc).mono (hput σ' (CW { W with sp := sp' } L (hdW L)) (Grow G U) Wie e (fun b hb => hb) hs (CW.loc _)) fun b _ hb => QM hG (fun b hb => hb) b hb) h.oG h.growO2⟩
theorem Wer {cs : List Value} {s : Sl} {l : List Pc} : ∀ j, j ≠ LbW.held -> CW { W with held := l } { L with held := s } cs j = CW W L cs j := by
 intro j hj
 cases j <;> first | rfl | exact absurd rfl hj
theorem WbC {cs : List Value} {ty : Nat} (h : Sep (CW W L cs) U F) (hlen : W.held.length <= 1000000000) {p : Pc} {vb : Nat} (hb : Blk U vb (pc1 p)) (hvb : ¬ F vb) {K : Sl -> Hp -> Prop}
 (hK : ∀ s' σ', Ext F U σ' -> Sep (CW { W with held := W.held ++ [p] } { L with held := s' } cs) σ' (Grow F U) -> K s' σ') : App L.held 5 40 ty [.int .i64 0, .int .i64 0, .int .i64 0, .int .i64 0, .bool false] ⟨some ⟨vb, 0, none⟩, 1, 1⟩ U K := by
 obtain ⟨G, hG, hi, _, hput⟩ := h.stepD CW.loc .held
 have hi : RowR L.held 5 (pcV W.held) U G := hi
 have hlc : L.held.len = W.held.length := by have := hi.1; rw [Qt] at this; omega
 refine hi.app (ys := pc1 p) rfl rfl ?_ (fun v hv => Ur (l := [p]) v (by rw [H7]; exact hv)) (by simp only; omega) (by simp only; omega) Nat.zero_lt_one fun s' σ' hl' e hr => hK s' σ' (e.sub hG) ?_
 ·intro j u hu
  rw [add_lit, Nat.zero_add, hb.cell]; exact hu
 refine (Sep.loc CW.loc).mono (hput σ' (CW { W with held := W.held ++ [p] } { L with held := s' } cs) (Grow G U) Wer e (fun b hb => hb) ?_ (CW.loc _)) fun b _ hb => QM hG (fun b hb => hb) b hb
 show RowR s' 5 (pcV (W.held ++ [p])) σ' (Grow G U)
 rw [VB, H7]; exact hr
theorem Wf4 {cs : List Value} (h : Sep (CW W L cs) U F) {i : Nat} {v : Value} (hi : i < cs.length) {K : Hp -> Prop} (hK : ∀ σ', Ext F U σ' -> Sep (CW W L (cs.set i v)) σ' F -> K σ') : St1 (Addr.add ⟨L.w, 0, none⟩ i) v U K := by
 obtain ⟨G, hG, hp, _, hput⟩ := h.stepD CW.loc .hd
 have hp : BlkR L.w cs U G := hp
 refine hp.2.s1 (by omega) fun σ' o b => hK σ' (o.ext.sub fun b hb => by subst hb; exact hG _ hp.1) ?_
 rw [Nat.zero_add] at b
 refine (Sep.loc CW.loc).mono (hput σ' (CW W L (cs.set i v)) G (fun j hj => ?_) (o.ext.sub fun b hb => by subst hb; exact hp.1) (fun b hb => .inl hb) ⟨hp.1, b⟩ (CW.loc _)) fun b _ hb => Kk hG (fun b hb => hb) b hb
 cases j <;> first | rfl | exact absurd rfl hj
theorem WfQ (L : LayW) (s : Sl) : (hdW L).set 3 (.slice s.a s.len s.cap) = hdW { L with held := s } := rfl
theorem WH.putHeld (h : WH U F L W) {s : Sl} {l : List Pc} {Q : Rg} (hr : RowR s 5 (pcV l) U Q) (hQ : ∀ b, Q b -> ¬ F b) (oQ : Off Q) (oQ2 : ¬ Q 2) {K : Hp -> Prop}
 (hK : ∀ σ', Ext F U σ' -> WH σ' (fun b => F b ∨ Q b) { L with held := s } { W with held := l } -> K σ') : St1 (Addr.add ⟨L.w, 0, none⟩ 3) (.slice s.a s.len s.cap) U K := by
 have h1 : Sep (CW { W with held := l } { L with held := s } (hdW L)) U fun b => F b ∨ Q b := h.sep.put CW.loc .held hQ Wer hr (CW.loc _)
 have o : Off fun b => F b ∨ Q b := fun b hb => hb.elim (h.o b) (oQ b)
 have o2 : ¬ (F 2 ∨ Q 2) := fun hb => hb.elim h.o2 oQ2
 obtain ⟨G, hG, hp, _, hput⟩ := h1.stepD CW.loc .hd
 have hp : BlkR L.w (hdW L) U G := hp
 have hw : F L.w := by
  obtain ⟨G', hG', hb⟩ := h.sep.get .hd
  exact hG' _ hb.1
 refine hp.2.s1 (o := 0) (i := 3) (by simp [hdW]) fun σ' oo b => ?_
 have e : Ext F U σ' := oo.ext.sub fun b hb => by subst hb; exact hw
 refine hK σ' e (h.re e h.len h.hs ((Sep.loc CW.loc).mono (hput σ' (CW { W with held := l } { L with held := s } (hdW { L with held := s })) G (fun j hj => ?_) (oo.ext.sub fun b hb => by subst hb; exact hp.1) (fun b hb => .inl hb) ⟨hp.1, ?_⟩ (CW.loc _)) fun b _ hb => Kk hG (fun b hb => hb) b hb) o o2)
 ·cases j <;> first | rfl | exact absurd rfl hj
 ·rw [Nat.zero_add, WfQ] at b; exact b
theorem WdP (h : WH U F L W) (x : Int) (hx : I63 x) (hlen : W.held.length <= 1000000000) {R : Bool -> Hp -> Prop} (hR : R (Z9 W.held x) U) : Wx.call (some ⟨L.w, 0, none⟩) x U R := by
 refine Wx.of_vc ?_
 unfold Wx.vc
 have hb := h.hd
 have hs := h.held.slR
 have hl := h.heldL
 refine YY (a := .i .i64) (fun (t : Int) v => ∃ i : Nat, t = (i : Int) /\ i <= W.held.length /\ v = U /\ Z9 (W.held.take i) x = false) (fun t _ => W.held.length - t.toNat) ⟨0, rfl, by omega, rfl, rfl⟩ ?_
 rintro t v ⟨i, rfl, hi, rfl, hno⟩
 refine nilP (hb.rS rfl (ifD (fun hlt => ?_) fun hge => ?_))
 ·simp only at hlt
  have hi' : i < W.held.length := by omega
  have hp : W.held[i]? = some W.held[i] := List.getElem?_eq_getElem hi'
  generalize W.held[i] = p at hp
  have htake : W.held.take (i + 1) = W.held.take i ++ [p] := by rw [List.take_add_one, hp]; rfl
  have fin : ∀ (r : Bool), r = (decide ((p.addr : Int) <= x) && decide (x - (p.addr : Int) < (p.size : Int))) -> If r (R true v) (Ar .i64 ((i : Int) + 1) fun i1 => (∃ j : Nat, i1 = (j : Int) /\ j <= W.held.length /\ v = v /\ Z9 (W.held.take j) x = false) /\ W.held.length - i1.toNat < W.held.length - (i : Int).toNat) := by
   intro r hr
   subst hr
   refine iff_ (fun ht => ?_) fun hf => arN (m := i + 1) (by omega) (by omega) ⟨⟨i + 1, rfl, by omega, rfl, ?_⟩, by omega⟩
   ·have : Z9 W.held x = true := by
     unfold Z9; rw [List.any_eq_true]; exact ⟨p, List.mem_of_getElem? hp, ht⟩
    rw [this] at hR; exact hR
   ·rw [htake]
    unfold Z9 at hno ⊢
    rw [List.any_append, hno]; simpa using hf
  refine nilP (hb.rS rfl (Vj hs hp (d := 2) (by omega) rfl (JnB.intro (ifD (fun h1 => ?_) fun h1 => ?_))))
  ·refine nilP (hb.rS rfl (Vj hs hp (d := 2) (by omega) rfl (ar (by unfold I63 at hx; omega) (by unfold I63 at hx; omega) (nilP (hb.rS rfl (Vj hs hp (d := 3) (by omega) rfl ?_))))))
   exact fin _ (by rw [decide_eq_true (show (p.addr : Int) <= x from h1), Bool.true_and])
  ·exact fin _ (by rw [decide_eq_false (show ¬ (p.addr : Int) <= x from h1), Bool.false_and])
 ·have hii : i = W.held.length := by simp only at hge; omega
  subst hii
  rw [List.take_length] at hno
  rw [hno] at hR; exact hR
def CWq (W : Wd) (L : LayW) (cs : List Value) (k : Nat) (Q : Hp -> Rg -> Prop) : LbW -> Hp -> Rg -> Prop := fun i U F => CW W L cs i U F /\ (i = .ar k -> Q U F)
theorem CWq.loc {cs : List Value} {k : Nat} {Q : Hp -> Rg -> Prop} (hQ : Lcl Q) (i : LbW) : Lcl (CWq W L cs k Q i) := fun U σ' F G h hz hs => ⟨CW.loc i _ _ _ _ h.1 hz hs, fun e => hQ _ _ _ _ (h.2 e) hz hs⟩
theorem CWq.out {cs : List Value} {k : Nat} {Q : Hp -> Rg -> Prop} (h : Sep (CWq W L cs k Q) U F) : Sep (CW W L cs) U F := by
 obtain ⟨ρ, h⟩ := h; exact ⟨ρ, fun i => (h i).1⟩
theorem WgL {l : List Pc} {i : Nat} {p q : Pc} (h : l[i]? = some p) (e : q = { p with moved := q.moved }) : (pcV l).set (5 * i + 4) (.bool q.moved) = pcV (l.set i q) := by
 induction l generalizing i with
 | nil => simp at h
 | cons x l ih =>
  have e1 : pcV (x :: l) = pc1 x ++ pcV l := rfl
  have e5 : (pc1 x).length = 5 := rfl
  cases i with
  | zero =>
   simp at h; subst h
   have e2 : pcV ((x :: l).set 0 q) = pc1 q ++ pcV l := rfl
   rw [e1, e2, List.set_append_left _ _ (by omega), e]; rfl
  | succ i =>
   have e2 : pcV ((x :: l).set (i + 1) q) = pc1 x ++ pcV (l.set i q) := rfl
   rw [e1, e2, List.set_append_right _ _ (by omega), e5, show 5 * (i + 1) + 4 - 5 = 5 * i + 4 by omega, ih (by simpa using h)]
def mv1 (k : Nat) (cls : Int) (l : List Int) (m : Bool) (p : Pc) : Pc := if isOf k cls l p then { p with moved := m } else p
theorem Wg5 (k : Nat) (cls : Int) (l : List Int) (m : Bool) (p : Pc) : (mv1 k cls l m p).k = p.k /\ (mv1 k cls l m p).cls = p.cls /\ (mv1 k cls l m p).addr = p.addr /\ (mv1 k cls l m p).size = p.size := by
 unfold mv1; split <;> exact ⟨rfl, rfl, rfl, rfl⟩
def mvAt (held : List Pc) (k : Nat) (cls : Int) (l : List Int) (m : Bool) (i : Nat) (q : List Pc) : List Pc := Qm (held.take i) k cls l m ++ (q ++ held.drop (i + 1))
theorem WcX {held : List Pc} {k : Nat} {cls : Int} {l : List Int} {m : Bool} : (Qm held k cls l m).length = held.length := by unfold Qm; rw [List.length_map]
theorem Wdf {k0 : Nat} {Q : Hp -> Rg -> Prop} (hQ : Lcl Q) (h : Sep (CWq W L (hdW L) k0 Q) U F) (k : Nat) (cls : Int) {sl : Sl} {l : List Int} (m : Bool) (hsl : sl.len = l.length) (hll : l.length <= 1000000000) (hlen : W.held.length <= 1000000000)
 (rd : ∀ v held', Ext F U v -> Sep (CWq { W with held := held' } L (hdW L) k0 Q) v F -> ∃ X, SlR sl 1 (Yu l) v X) {R : Hp -> Prop}
 (hR : ∀ σ', Ext F U σ' -> Sep (CWq { W with held := Qm W.held k cls l m } L (hdW L) k0 Q) σ' F -> R σ') : Ws.call (some ⟨L.w, 0, none⟩) (k : Int) cls sl m U R := by
 refine Ws.of_vc ?_
 unfold Ws.vc
 have hdr : ∀ {v : Hp} {hl : List Pc}, Sep (CWq { W with held := hl } L (hdW L) k0 Q) v F -> Blk v L.w (hdW L) := fun hv => by
  obtain ⟨G, _, hb, _⟩ := hv.get .hd; exact hb.2
 have hrow : ∀ {v : Hp} {hl : List Pc}, Sep (CWq { W with held := hl } L (hdW L) k0 Q) v F -> RowR L.held 5 (pcV hl) v F := fun hv => by
  obtain ⟨G, hG, hb, _⟩ := hv.get .held; exact (RowR.loc _ _ _).mono hb fun b _ hb => hG b hb
 have hlh : L.held.len = W.held.length := by
  have h0 : Sep (CWq { W with held := W.held } L (hdW L) k0 Q) U F := h
  have := (hrow h0).1; rw [Qt] at this; omega
 refine YY (a := .i .i64) (fun (t : Int) v => ∃ i : Nat, t = (i : Int) /\ i <= W.held.length /\ Ext F U v /\ Sep (CWq { W with held := Qm (W.held.take i) k cls l m ++ W.held.drop i } L (hdW L) k0 Q) v F) (fun t _ => W.held.length - t.toNat)
  ⟨0, rfl, by omega, Ext.refl _ _, by simpa [Qm] using h⟩ ?_
 rintro t v ⟨i, rfl, hi, ev, hv⟩
 refine nilP ((hdr hv).rS rfl (ifD (fun hlt => ?_) fun hge => ?_))
 ·simp only at hlt
  have hi' : i < W.held.length := by omega
  have hp : W.held[i]? = some W.held[i] := List.getElem?_eq_getElem hi'
  generalize hpe : W.held[i] = p at hp
  have hdrop : W.held.drop i = p :: W.held.drop (i + 1) := by rw [List.drop_eq_getElem_cons hi', hpe]
  have htake : W.held.take (i + 1) = W.held.take i ++ [p] := by rw [List.take_add_one, hp]; rfl
  have mvn : ∀ q : Pc, mv1 k cls [] m q = q := fun q => by simp [mv1, isOf]
  refine YY (a := .i .i64) (fun (t : Int) w => ∃ j : Nat, t = (j : Int) /\ j <= l.length /\ Ext F U w /\ Sep (CWq { W with held := mvAt W.held k cls l m i [mv1 k cls (l.take j) m p] } L (hdW L) k0 Q) w F) (fun t _ => l.length - t.toNat)
   ⟨0, rfl, by omega, ev, by rw [List.take_zero, mvn]; unfold mvAt; rw [List.singleton_append, ← hdrop]; exact hv⟩ ?_
  rintro t w ⟨j, rfl, hj, ew, hw⟩
  refine ifD (fun hlt2 => ?_) fun hge2 => ?_
  ·have hj' : j < l.length := by omega
   have hy : l[j]? = some l[j] := List.getElem?_eq_getElem hj'
   generalize l[j] = y at hy
   have htl : l.take (j + 1) = l.take j ++ [y] := by rw [List.take_add_one, hy]; rfl
   obtain ⟨X, hs⟩ := rd w _ ew hw
   have hmk := Wg5 k cls (l.take j) m p
   have hml : (Qm (W.held.take i) k cls l m).length = i := by rw [WcX, List.length_take]; omega
   have hat : (mvAt W.held k cls l m i [mv1 k cls (l.take j) m p])[i]? = some (mv1 k cls (l.take j) m p) := by
    unfold mvAt
    rw [List.getElem?_append_right (by omega), hml, Nat.sub_self]; rfl
   have hr := (hrow hw).slR
   have eNo : isOf k cls [y] p = false -> mv1 k cls (l.take (j + 1)) m p = mv1 k cls (l.take j) m p := fun hf => by
    have : isOf k cls (l.take (j + 1)) p = isOf k cls (l.take j) p := by
     rw [Bool.eq_iff_iff, Y7, Y7, htl, List.mem_append]
     constructor
     ·rintro ⟨a, b, c | c⟩
      ·exact ⟨a, b, c⟩
      ·have : isOf k cls [y] p = true := Y7.2 ⟨a, b, c⟩
       rw [hf] at this; cases this
     ·rintro ⟨a, b, c⟩; exact ⟨a, b, .inl c⟩
    unfold mv1; rw [this]
   have eYes : isOf k cls [y] p = true -> mv1 k cls (l.take (j + 1)) m p = { mv1 k cls (l.take j) m p with moved := m } := fun ht => by
    have ht' := Y7.1 ht
    have : isOf k cls (l.take (j + 1)) p = true := Y7.2 ⟨ht'.1, ht'.2.1, by rw [htl]; exact List.mem_append_right _ ht'.2.2⟩
    unfold mv1; rw [if_pos this]; split <;> rfl
   have skip : isOf k cls [y] p = false -> Ar .i64 ((j : Int) + 1) fun j1 => (∃ n : Nat, j1 = (n : Int) /\ n <= l.length /\ Ext F U w /\ Sep (CWq { W with held := mvAt W.held k cls l m i [mv1 k cls (l.take n) m p] } L (hdW L) k0 Q) w F) /\ l.length - j1.toNat < l.length - (j : Int).toNat := fun hf =>
    arN (m := j + 1) (by omega) (by omega) ⟨⟨j + 1, rfl, by omega, ew, by rw [eNo hf]; exact hw⟩, by omega⟩
   have ek : (((mv1 k cls (l.take j) m p).k : Int) == (k : Int)) = (p.k == k) := by rw [hmk.1]; exact beqN _ _
   refine nilP ((hdr hw).rS rfl (Vj hr hat (d := 0) (by omega) rfl (JnB.intro ?_)))
   rw [ek]
   refine iff_ (fun h1 => nilP ((hdr hw).rS rfl (Vj hr hat (d := 1) (by omega) rfl (JnB.intro ?_)))) fun h1 => JnB.intro (iff_ (fun h2 => by cases h2) fun _ => iff_ (fun h3 => by cases h3) fun _ => skip (by unfold isOf; rw [h1]; rfl))
   rw [hmk.2.1]
   refine iff_ (fun h2 => nilP ((hdr hw).rS rfl (Vj hr hat (d := 2) (by omega) rfl ?_))) fun h2 => iff_ (fun h3 => by cases h3) fun _ => skip (by unfold isOf; rw [h1, h2]; rfl)
   rw [hmk.2.2.1]
   refine hs.ixI hy (iff_ (fun h3 => ?_) fun h3 => skip ?_)
   ·have hof : isOf k cls [y] p = true := by
     have : (p.addr : Int) = y := by simpa using h3
     exact Y7.2 ⟨by simpa using h1, by simpa using h2, by simp [this]⟩
    refine nilP ((hdr hw).rS rfl ?_)
    obtain ⟨G, hG, hi2, _, hput⟩ := hw.stepD (CWq.loc hQ) .held
    have hi2' : RowR L.held 5 (pcV (mvAt W.held k cls l m i [mv1 k cls (l.take j) m p])) w G := hi2.1
    have hl5 : (pcV (mvAt W.held k cls l m i [mv1 k cls (l.take j) m p])).length = W.held.length * 5 := by
     have := hi2'.1; rw [this, hlh]
    have hne : ∃ b, L.held.a = some ⟨b, 0, none⟩ := by
     rcases hi2'.2 with ⟨h0, _⟩ | ⟨b, _, _, ha, _⟩
     ·omega
     ·exact ⟨b, ha⟩
    obtain ⟨b, hba⟩ := hne
    show Ix L.held.a L.held.len (i : Int) 5 _
    rw [hba]
    refine ix (by omega) (by omega) ?_
    refine hi2'.st (j := 5 * i + 4) (by omega) (v := .bool m) (fun b' hb' => ?_) fun w' e' hr' => ?_
    ·rw [hba] at hb'; cases hb'
     rw [add_lit, add_lit]; simp
    ·have ew' := ew.trans (e'.sub hG)
     refine arN (m := j + 1) (by omega) (by omega) ⟨⟨j + 1, rfl, by omega, ew', ?_⟩, by omega⟩
     refine (Sep.loc (CWq.loc hQ)).mono (hput w' (CWq { W with held := mvAt W.held k cls l m i [mv1 k cls (l.take (j + 1)) m p] } L (hdW L) k0 Q) G (fun n hn => ?_) e' (fun b hb => .inl hb) ⟨?_, fun hn => by cases hn⟩ (CWq.loc hQ _)) fun b _ hb => Kk hG (fun b hb => hb) b hb
     ·cases n <;> first | rfl | exact absurd rfl hn
     ·show RowR L.held 5 (pcV (mvAt W.held k cls l m i [mv1 k cls (l.take (j + 1)) m p])) w' G
      have es : (mvAt W.held k cls l m i [mv1 k cls (l.take j) m p]).set i { mv1 k cls (l.take j) m p with moved := m } = mvAt W.held k cls l m i [{ mv1 k cls (l.take j) m p with moved := m }] := by
       unfold mvAt
       rw [List.set_append_right _ _ (by omega), hml, Nat.sub_self]; rfl
      have := WgL (q := { mv1 k cls (l.take j) m p with moved := m }) hat rfl
      rw [es] at this
      rw [eYes hof, ← this]; exact hr'
   ·apply Bool.eq_false_iff.2; intro hx
    have := (Y7.1 hx).2.2
    simp only [List.mem_singleton] at this
    rw [this] at h3; simp at h3
  ·have hjj : j = l.length := by omega
   subst hjj
   rw [List.take_length] at hw
   refine arN (m := i + 1) (by omega) (by omega) ⟨⟨i + 1, rfl, by omega, ew, ?_⟩, by omega⟩
   have : Qm (W.held.take (i + 1)) k cls l m ++ W.held.drop (i + 1) = mvAt W.held k cls l m i [mv1 k cls l m p] := by
    unfold mvAt
    rw [htake]
    unfold Qm mv1
    rw [List.map_append, List.append_assoc]; rfl
   rw [this]; exact hw
 ·have hii : i = W.held.length := by simp only at hge; omega
  subst hii
  rw [List.take_length, List.drop_length, List.append_nil] at hv
  exact hR v ev hv
end Go.Ar
namespace Go.Ar
open Go Go.Vc Go.Proofs
open Go.Bu (XV YZ Xu cnt)


variable {U : Hp} {F : Rg} {L : LayW} {W : Wd}
theorem Wbm {F : Rg} {U : Hp} {s x : Sl} {sz bytes e : Nat} {zs xs ys : List Value} {K : Sl -> Hp -> Prop} (ho : RowR s sz xs U F) (hz : zs.length = sz)
 (hy : ys.length = x.len * sz) (hr : Rd U x.a ys) (h1 : ∀ v ∈ ys, one1 v = true) (hb : (s.len + x.len) * bytes <= 2 ^ 46) (hc : s.len + x.len <= 2 ^ 62)
 (hK : ∀ s' h', Ext F U h' -> RowR s' sz (xs ++ ys) h' (Grow F U) -> K s' h') : App s sz bytes e zs x U K := by
 rcases Nat.eq_zero_or_pos x.len with h0 | h0
 ·have hys : ys = [] := by rw [h0, Nat.zero_mul] at hy; exact List.eq_nil_of_length_eq_zero hy
  subst hys
  have hle : s.len <= s.cap := by
   rcases ho.2 with ⟨h1, h2⟩ | ⟨b, cs, _, _, _, h3, _⟩
   ·omega
   ·exact h3
  have fin : ∀ s' : Sl, s'.a = s.a -> s'.len = s.len -> s'.cap = s.cap -> K s' U := fun s' e1 e2 e3 => hK s' U (Ext.refl _ _) (by
   obtain ⟨a, b, c⟩ := s'
   obtain ⟨a', b', c'⟩ := s
   simp only at e1 e2 e3
   subst e1; subst e2; subst e3
   rw [List.append_nil]
   exact (RowR.loc _ _ _).mono ho fun b _ hb => .inl hb)
  refine ⟨xs, [], ho.1, by simp [h0], ho.rd, hr, by simp, hb, hc, fun _ => ?_, fun hn => by omega⟩
  split
  ·rename_i a ha
   exact fin _ rfl (by simp [h0]) rfl
  ·rename_i ha
   exact fin _ ha.symm (by simp [h0]) rfl
 ·exact ho.app hz hy hr h1 hb hc h0 fun s' h' _ e hr' => hK s' h' e hr'
theorem _root_.Go.Vc.RowR.cap_le {s : Sl} {sz : Nat} {xs : List Value} (ho : RowR s sz xs U F) : s.len <= s.cap := by
 rcases ho.2 with ⟨h1, h2⟩ | ⟨b, cs, _, _, _, h3, _⟩
 ·omega
 ·exact h3
theorem _root_.Go.Vc.RowR.part {s : Sl} {sz : Nat} {xs : List Value} (ho : RowR s sz xs U F) {a m : Nat} {c : Nat} (h : m ≠ 0 -> c ≠ a) : Rd U (if c = a then s.a else s.a.map (·.add (a * sz))) ((xs.drop (a * sz)).take (m * sz)) := by
 by_cases h0 : m = 0
 ·subst h0
  rw [Nat.zero_mul, List.take_zero]
  unfold Rd
  split
  ·rfl
  ·intro j v hv; simp at hv
 ·rw [if_neg (h h0)]
  rcases ho.2 with ⟨h1, h2⟩ | ⟨b, cs, _, ha, hb, _, _, ht⟩
  ·have : xs = [] := by have := ho.1; rw [h1, Nat.zero_mul] at this; exact List.eq_nil_of_length_eq_zero this
   subst this
   unfold Rd
   split
   ·simp
   ·intro j v hv; simp at hv
  ·rw [ha]
   intro j v hv
   show cell U (Addr.add (Addr.add ⟨b, 0, none⟩ (a * sz)) j) = some v
   rw [add_lit, add_lit, hb.cell]
   rw [List.getElem?_take] at hv
   split at hv
   ·rw [List.getElem?_drop, ← ht, List.getElem?_take] at hv
    split at hv
    ·rw [show 0 + a * sz + j = a * sz + j by omega]; exact hv
    ·cases hv
   ·cases hv
theorem Wev (h : WH U F L W) (k : Nat) (cls : Int) {sl : Sl} {l : List Int} {X : Rg} (hs : SlR sl 1 (Yu l) U X) (hX : ∀ b, X b -> b < U.size /\ ¬ F b) (hlen : W.held.length <= 1000000000) (hll : l.length <= 1000000)
 {R : Hp -> Prop} (hR : ∀ σ' s', Ext F U σ' -> WH σ' (Grow F U) { L with held := s' } { W with held := Kr W.held k cls l } -> R σ') : WC.call (some ⟨L.w, 0, none⟩) (k : Int) cls sl U R := by
 refine WC.of_vc ?_
 unfold WC.vc
 have hsl : sl.len = l.length := by have := hs.1; simp [Yu] at this; omega
 refine YY (a := .i .i64) (fun (t : Int) v => ∃ i : Nat, t = (i : Int) /\ i <= l.length /\ Ext F U v /\ (Kr W.held k cls (l.take i)).length <= W.held.length /\ ∃ s', WH v (Grow F U) { L with held := s' } { W with held := Kr W.held k cls (l.take i) }) (fun t _ => l.length - t.toNat)
  ⟨0, rfl, by omega, Ext.refl _ _, Nat.le_refl _, L.held, h.mono (fun b _ hb => .inl hb) h.oG h.growO2⟩ ?_
 rintro t v ⟨i, rfl, hi, ev, hle, s', hv⟩
 have hsv : SlR sl 1 (Yu l) v X := (SlR.loc _ _ _).keep hs ev fun b _ hb => (hX b hb).2
 refine ifD (fun hlt => ?_) fun hge => ?_
 ·have hi' : i < l.length := by omega
  have hx : l[i]? = some l[i] := List.getElem?_eq_getElem hi'
  generalize l[i] = x at hx
  have htake : Kr W.held k cls (l.take (i + 1)) = Gy k cls (Kr W.held k cls (l.take i)) x := by
   unfold Kr; rw [List.take_add_one, hx]; simp
  refine hsv.ixI hx (WhM hv k cls x (by show (Kr _ _ _ _).length <= _; omega) ?_)
  generalize hhe : Kr W.held k cls (l.take i) = held at *
  show If (decide (atI held k cls x < 0)) _ _
  rw [Wdz]
  cases hat : atW held k cls x with
  | none =>
   have e1 : Gy k cls held x = held := by unfold Gy; rw [hat]
   refine ifT rfl (arN (m := i + 1) (by omega) (by omega) ⟨⟨i + 1, rfl, by omega, ev, by rw [htake, e1]; exact hle, s', by rw [htake, e1]; exact hv⟩, by omega⟩)
  | some n =>
   have e1 : Gy k cls held x = held.take n ++ held.drop (n + 1) := by unfold Gy; rw [hat]
   obtain ⟨p, hp, _⟩ := WbP hat
   have hn := (List.getElem?_eq_some_iff.1 hp).1
   have eI : atI held k cls x = (n : Int) := by unfold atI; rw [hat]
   have hrow := hv.held
   have hrow : RowR s' 5 (pcV held) v (Grow F U) := hrow
   have hsl' : s'.len = held.length := hv.heldL
   have hcap := hrow.cap_le
   have hgv := WaU hv.g
   have hgd : ¬ v.size <= 2 := by have := Wca hv.gd; omega
   rw [eI]
   refine ifF rfl (nilP (hv.hd.rS rfl ?_))
   refine slc (lo := 0) (hi := n) (mx := s'.cap) (by omega) (by omega) (Nat.le_refl _) ?_
   have r1 := hrow.part (a := 0) (m := n) (c := s'.cap) (by omega)
   simp only [Nat.zero_mul, List.drop_zero] at r1
   refine Wbm (F := fun b => v.size <= b) (RowR.nil _ _ _ _) rfl (ys := (pcV held).take (n * 5)) (by rw [List.length_take, Qt]; simp only; omega) (by simpa using r1) (fun u hu => Ur u (List.mem_of_mem_take hu)) (by simp only; omega) (by simp only; omega) fun left v2 e2 hl2 => ?_
   rw [List.nil_append] at hl2
   have e20 : Ext0 v v2 := e2.mono fun b hb hc => by omega
   have hl2 : RowR left 5 (pcV (held.take n)) v2 fun b => v.size <= b := by
    rw [Wfc]
    exact (RowR.loc _ _ _).mono hl2 fun b _ hb => by
     rcases hb with hb | hb
     ·exact hb
     ·exact hb
   have hv2 := hv.keep0 e20
   refine nilP (hv2.hd.rS rfl (arN (m := n + 1) (by omega) (by omega) ?_))
   refine slc (lo := n + 1) (hi := s'.len) (mx := s'.cap) (by omega) (by omega) (Nat.le_refl _) ?_
   have hrow2 : RowR s' 5 (pcV held) v2 (Grow F U) := hv2.held
   have r2 := hrow2.part (a := n + 1) (m := s'.len - (n + 1)) (c := s'.cap) (by omega)
   have eD : ((pcV held).drop ((n + 1) * 5)).take ((s'.len - (n + 1)) * 5) = pcV (held.drop (n + 1)) := by
    rw [WeM, List.take_of_length_le]
    rw [List.length_drop, Qt]; omega
   rw [eD] at r2
   have hl2len : left.len = n := by have := hl2.1; rw [Qt, List.length_take] at this; omega
   refine Wbm hl2 rfl (ys := pcV (held.drop (n + 1))) (by rw [Qt, List.length_drop]; simp only; omega) r2 Ur (by simp only; omega) (by simp only; omega) fun s3 v3 e3 hl3 => ?_
   rw [← VB] at hl3
   have hsz := e20.1
   have hl3 : RowR s3 5 (pcV (held.take n ++ held.drop (n + 1))) v3 fun b => v.size <= b := (RowR.loc _ _ _).mono hl3 fun b _ hb => by
    rcases hb with hb | hb
    ·exact hb
    ·omega
   have e23 : Ext0 v v3 := Ext.fresh e20 e3 fun b hb => hb
   have hv3' : WH v3 (Cut (Grow F U) v) { L with held := s' } { W with held := held } := hv.cut.keep0 e23
   refine nilP (hv3'.putHeld hl3 (fun b hb hc => by have := hc.2; omega) hgv hgd fun v4 e4 h4 => ?_)
   have ev4 : Ext F U v4 := (ev.trans0 e23).newT e4 fun b hb => hb.1
   refine arN (m := i + 1) (by omega) (by omega) ⟨⟨i + 1, rfl, by omega, ev4, ?_, s3, ?_⟩, by omega⟩
   ·rw [htake, e1, List.length_append, List.length_take, List.length_drop]; omega
   ·rw [htake, e1]
    have hsz0 := ev.1
    exact h4.mono (fun b _ hb => by
     rcases hb with hb | hb
     ·exact hb.1
     ·exact .inr (by omega)) h.oG h.growO2
 ·have hii : i = l.length := by omega
  subst hii
  rw [List.take_length] at hv
  exact hR v s' ev hv
theorem WhK (x : Int) {n : Nat} (hn : 0 < n) : ((x.tmod n) + n).tmod n = x % (n : Int) := by
 have h1 := Int.tmod_lt_of_pos x (show (0 : Int) < n by omega)
 have h2 : -(n : Int) < x.tmod n := by
  have := Int.lt_tmod_of_pos x (show (0 : Int) < n by omega); omega
 rw [Zy (by omega), Int.add_emod_right]
 have h3 := Int.mul_tdiv_add_tmod x n
 conv => rhs; rw [← h3]
 rw [Int.mul_add_emod_self_left]
theorem WcD (x : Int) {n : Nat} (hn : 0 < n) : numW n x < n /\ (numW n x : Int) = x % (n : Int) := by
 unfold numW
 have h1 := Int.emod_nonneg x (show (n : Int) ≠ 0 by omega)
 have h2 := Int.emod_lt_of_pos x (show (0 : Int) < n by omega)
 omega
theorem Wak (h : WH U F L W) (hn : 0 < W.ars.length) (hn2 : W.ars.length <= 1000) (x0 x1 x2 x3 x4 : Int) (x5 : Sl) {R : Int -> Hp -> Prop} (hR : ∀ σ', Ext0 U σ' -> R (numW W.ars.length x1 : Int) σ') : Wq.call (some ⟨L.w, 0, none⟩) x0 x1 x2 x3 x4 x5 U R := by
 refine Wq.of_vc ?_
 unfold Wq.vc
 refine nw (cs := [.int .i64 x0, .int .i64 x1, .int .i64 x2, .int .i64 x3, .int .i64 x4, .slice x5.a x5.len x5.cap]) fun v hz e hb => ?_
 have h := h.keep0 e
 have hl : L.arow.len = W.ars.length := h.arowL
 refine hb.rI rfl (nilP (h.hd.rS rfl (nz ?_ (nilP (h.hd.rS rfl ?_)))))
 ·show ((L.arow.len : Nat) : Int) ≠ 0; omega
 ·show Ar .i64 ((x1.tmod (L.arow.len : Nat)) + (L.arow.len : Nat)) _
  rw [hl]
  have h1 := Int.tmod_lt_of_pos x1 (show (0 : Int) < W.ars.length by omega)
  have h2 := Int.lt_tmod_of_pos x1 (show (0 : Int) < W.ars.length by omega)
  refine ar (by omega) (by omega) (nilP (h.hd.rS rfl (nz ?_ ?_)))
  ·show ((L.arow.len : Nat) : Int) ≠ 0; omega
  ·show R (((x1.tmod (W.ars.length : Nat)) + (W.ars.length : Nat)).tmod ((L.arow.len : Nat) : Int)) v
   rw [hl, WhK x1 hn, ← (WcD x1 hn).2]
   exact hR v e
end Go.Ar
namespace Go.Ar
open Go Go.Vc Go.Proofs
open Go.Bu (XV YZ Xu cnt)


variable {U : Hp} {F : Rg} {L : LayW} {W : Wd}
def Hg (us : List AR) (p : Pc) : Bool := !p.moved || (match us[p.k]? with
 | some A => UD A (p.addr : Int)
 | none => false)
theorem Whn (h : WH U F L W) (hlen : W.held.length <= 1000000) (hA : ∀ p ∈ W.held, ∃ A, W.ars[p.k]? = some A /\ RunsOk A /\ I63 (p.addr : Int)) {R : Hp -> Prop}
 (hR : ∀ σ' s', Ext F U σ' -> WH σ' (Grow F U) { L with held := s' } { W with held := WaA W.ars W.held } -> R σ') : WK.call (some ⟨L.w, 0, none⟩) U R := by
 refine WK.of_vc ?_
 unfold WK.vc
 have hl := h.heldL
 refine Kb (a := .s) (bb := .i .i64) (fun (left : Sl) (t : Int) v => ∃ i : Nat, t = (i : Int) /\ i <= W.held.length /\ Ext0 U v /\ RowR left 5 (pcV ((W.held.take i).filter (Hg W.ars))) v (fun b => U.size <= b)) (fun _ t _ => W.held.length - t.toNat)
  ⟨0, rfl, by omega, Ext.refl _ _, RowR.nil _ _ _ _⟩ ?_
 rintro left t v ⟨i, rfl, hi, ev, hleft⟩
 have hv := h.keep0 ev
 have hz0 := ev.1
 refine nilP (hv.hd.rS rfl (ifD (fun hlt => ?_) fun hge => ?_))
 ·simp only at hlt
  have hi' : i < W.held.length := by omega
  have hp : W.held[i]? = some W.held[i] := List.getElem?_eq_getElem hi'
  generalize W.held[i] = p at hp
  have htake : W.held.take (i + 1) = W.held.take i ++ [p] := by rw [List.take_add_one, hp]; rfl
  obtain ⟨A, hAk, hro, hx63⟩ := hA p (List.mem_of_getElem? hp)
  refine nilP (hv.hd.rS rfl (WfW hv.held.slR hp ?_))
  refine nw (cs := [.int .i64 0, .int .i64 0, .int .i64 0, .int .i64 0, .bool false]) fun v1 z1 e1 b1 => ?_
  refine b1.s1 (o := 0) (i := 0) (by simp) fun v2 o2 b2 => b2.s1 (o := 0) (i := 1) (by simp) fun v3 o3 b3 => b3.s1 (o := 0) (i := 2) (by simp) fun v4 o4 b4 => b4.s1 (o := 0) (i := 3) (by simp) fun v5 o5 b5 => b5.s1 (o := 0) (i := 4) (by simp) fun v6 o6 b6 => ?_
  have b6 : Blk v6 v.size (pc1 p) := b6
  have e16 : Ext (· = v.size) v1 v6 := (((o2.ext.trans o3.ext).trans o4.ext).trans o5.ext).trans o6.ext
  have e6 : Ext0 v v6 := Ext.fresh e1 e16 fun b hb => by omega
  have hleft6 := (RowR.loc _ _ _).keep0 hleft e6
  have h6 := hv.keep0 e6
  have E6 := Ext.trans ev e6
  have z6 := e6.1
  obtain ⟨Y, hy, hYh, hAH⟩ := h6.ar hAk
  refine Jn.intro ?_
  have go : ∀ (r : Bool) (w : Hp), Ext0 v6 w -> r = Hg W.ars p -> If r
   (LdI .i64 (Addr.add ⟨v.size, 0, none⟩ 0) w fun t38 => LdI .i64 (Addr.add ⟨v.size, 0, none⟩ 1) w fun t381 => LdI .i64 (Addr.add ⟨v.size, 0, none⟩ 2) w fun t382 => LdI .i64 (Addr.add ⟨v.size, 0, none⟩ 3) w fun t383 => LdB (Addr.add ⟨v.size, 0, none⟩ 4) w fun t384 =>
    Nw (.cells #[.int .i64 t38, .int .i64 t381, .int .i64 t382, .int .i64 t383, .bool t384] 39 (0, 0)) w fun n39 v8 =>
    App left 5 40 39 [.int .i64 0, .int .i64 0, .int .i64 0, .int .i64 0, .bool false] ⟨(some n39), 1, 1⟩ v8 fun left1 v9 =>
    Ar .i64 ((i : Int) + 1) fun i1 => (∃ j : Nat, i1 = (j : Int) /\ j <= W.held.length /\ Ext0 U v9 /\ RowR left1 5 (pcV ((W.held.take j).filter (Hg W.ars))) v9 (fun b => U.size <= b)) /\ W.held.length - i1.toNat < W.held.length - (i : Int).toNat)
   (Ar .i64 ((i : Int) + 1) fun i2 => (∃ j : Nat, i2 = (j : Int) /\ j <= W.held.length /\ Ext0 U w /\ RowR left 5 (pcV ((W.held.take j).filter (Hg W.ars))) w (fun b => U.size <= b)) /\ W.held.length - i2.toNat < W.held.length - (i : Int).toNat) := by
   intro r w ew hr
   have bw := Ext.blk ew b6 id
   have hlw := (RowR.loc _ _ _).keep0 hleft6 ew
   have Ew := Ext.trans E6 ew
   have hleftlen : left.len = ((W.held.take i).filter (Hg W.ars)).length := by have := hleft.1; rw [Qt] at this; omega
   have hfl : ((W.held.take i).filter (Hg W.ars)).length <= W.held.length := Nat.le_trans (List.length_filter_le _ _) (by rw [List.length_take]; omega)
   refine iff_ (fun ht => ?_) fun hf => ?_
   ·refine bw.rI rfl (bw.rI rfl (bw.rI rfl (bw.rI rfl (bw.rB rfl ?_))))
    have hsw := ew.1
    refine hlw.push (vs := pc1 p) (t := 39) (fun b hb => by omega) rfl rfl (fun u hu => Ur (l := [p]) u (by rw [H7]; exact hu)) (by omega) (by omega) fun s' h' _ e' hr' => ?_
    refine arN (m := i + 1) (by omega) (by omega) ⟨⟨i + 1, rfl, by omega, Ext.fresh Ew e' fun b hb => hb, ?_⟩, by omega⟩
    rw [htake, List.filter_append, VB]
    have : [p].filter (Hg W.ars) = [p] := by rw [List.filter_cons, ← hr, ht]; rfl
    rw [this, H7]; exact hr'
   ·refine arN (m := i + 1) (by omega) (by omega) ⟨⟨i + 1, rfl, by omega, Ew, ?_⟩, by omega⟩
    rw [htake, List.filter_append]
    have : [p].filter (Hg W.ars) = [] := by rw [List.filter_cons, ← hr, hf]; rfl
    rw [this, List.append_nil]; exact hlw
  refine ⟨fun m => Ext0 v6 m, Ext.refl _ _, ⟨p.moved, fun m hm => by rw [add_lit, (Ext.blk hm b6 id).cell]; rfl, ?_⟩⟩
  refine iff_ (fun hm => ?_) fun hm => ?_
  ·exact go true v6 (Ext.refl _ _) (by unfold Hg; rw [hm]; rfl)
  ·have hsl := h6.arow.slR
   have hk := (List.getElem?_eq_some_iff.1 hy).1
   refine nilP ⟨L.arow, fun m hm => by rw [add_lit, (Ext.blk hm h6.hd id).cell]; rfl, ⟨(p.k : Int), fun m hm => by rw [add_lit, (Ext.blk hm b6 id).cell]; rfl, ?_⟩⟩
   refine Wav hsl (k := p.k) (q := Y.p) (by simp [hy]) ⟨(p.addr : Int), fun m hm => by rw [add_lit, (Ext.blk hm b6 id).cell]; rfl, ?_⟩
   refine HI hAH hro _ hx63 fun w ew => ⟨ew, go _ w ew ?_⟩
   unfold Hg; rw [hm, hAk]; rfl
 ·have hii : i = W.held.length := by simp only at hge; omega
  subst hii
  rw [List.take_length] at hleft
  have hg := WaU h.g
  have hgd : ¬ U.size <= 2 := by have := Wca h.gd; omega
  have hv' := h.cut.keep0 ev
  refine nilP (hv'.putHeld hleft (fun b hb hc => by have := hc.2; omega) hg hgd fun v4 e4 h4 => ?_)
  refine hR v4 left ((Ext0.to ev).trans (e4.sub fun b hb => hb.1)) (h4.mono (fun b _ hb => ?_) h.oG h.growO2)
  rcases hb with hb | hb
  ·exact .inl hb.1
  ·exact .inr hb
end Go.Ar
namespace Go.Ar


variable {W : Wd} {k : Nat} {A : AR}
theorem TkA.lt (h : GA A) {j : Nat} {x : Int} (hx : TkA A j x) : ∃ y : Nat, x = y /\ y < 262144 := by
 obtain ⟨c, ss, hc, ht⟩ := hx
 have hC := h.cen j c ss hc
 obtain ⟨l, s, i, hs, hi, rfl, hb⟩ := (Kn hC).1 ht
 have hp := VV hC.pos (s := s) (x := at_ c s i) hi (Nat.le_refl _) (by have := hC.pos; omega)
 have hu := (h.used hc (List.mem_of_getElem? hs) hp.1 hp.2).1
 have := h.pg.lt (p := at_ c s i / 256) (by omega)
 have := h.pg.n2
 exact ⟨_, rfl, by omega⟩
theorem GA.traI (h : GA A) : TraI A := by
 intro t ht xs hxs x hx
 obtain ⟨k, hk⟩ := List.getElem?_of_mem ht
 have hkl : k < A.tb.length := by rw [← h.lt]; exact (List.getElem?_eq_some_iff.1 hk).1
 obtain ⟨c, ss, t', hc, _⟩ := h.cl hkl
 obtain ⟨y, rfl, hy⟩ := TkA.lt h ((Qv hc).2 (h.trt k c ss t hc hk x (List.mem_flatten.2 ⟨xs, hxs, hx⟩)))
 unfold I63; omega
theorem WI.addr_lt (h : WI W) {p : Pc} (hp : p ∈ W.held) : p.addr < 262144 /\ p.addr + p.size <= 270000 := by
 obtain ⟨A, hA, hh⟩ := h.hf p hp
 have ga := h.ga _ A hA
 have hn := ga.pg.n2
 rcases hh with ⟨_, _, r, hr, h1, h2⟩ | ⟨j, c, _, hc, h2, h3, _⟩
 ·have h4 := ga.fit hr
  have h5 := ga.rpos r hr
  omega
 ·obtain ⟨y, e, hy⟩ := h3.lt ga
  obtain ⟨c', ss, hcl, _⟩ := h3
  have : c' = c := Option.some.inj (hcl.1.symm.trans hc)
  subst this
  have hok := (ga.cen j _ ss hcl).ok
  unfold Cls.ok at hok
  omega
theorem Ub : ∀ (N : Nat) (l : List Nat), l.Nodup -> (∀ x ∈ l, x < N) -> l.length <= N
 | 0, l, _, h => by
  cases l with
  | nil => simp
  | cons x l => have := h x (by simp); omega
 | N + 1, l, hn, h => by
  have h1 := Ub N (l.filter (· != N)) (hn.sublist List.filter_sublist) fun x hx => by
   have hx := List.mem_filter.1 hx
   have := h x hx.1
   have : x ≠ N := by simpa using hx.2
   omega
  have h2 := List.length_eq_countP_add_countP (l := l) (p := (· != N))
  have h3 : l.countP (fun a => ¬ (a != N) = true) <= 1 := by
   have e : l.countP (fun a => ¬ (a != N) = true) = l.count N := by
    unfold List.count
    apply List.countP_congr
    intro x _
    simp
   rw [e]; exact List.nodup_iff_count.1 hn N
  rw [List.countP_eq_length_filter] at h2
  omega
theorem WI.apart (h : WI W) {p q : Pc} (hp : p ∈ W.held) (hq : q ∈ W.held) {x : Nat} (p1 : p.addr <= x) (p2 : x < p.addr + p.size) (q1 : q.addr <= x) (q2 : x < q.addr + q.size) : p = q := by
 obtain ⟨A, hA, hh⟩ := h.hf p hp
 obtain ⟨B, hB, hg⟩ := h.hf q hq
 have e1 := h.page hp hA p1 p2
 have e2 := h.page hq hB q1 q2
 have hk : p.k = q.k := h.one (x / 256) p.k q.k A B hA hB (by omega) (by omega)
 rw [← hk, hA] at hB; cases hB
 have ga := h.ga _ A hA
 have htb := ga.tb
 have own : ∀ {r : Pc}, Hd A r -> r.addr <= x -> x < r.addr + r.size -> (r.cls = -1 /\ A.ow (x / 256) = 41 /\ ∃ u ∈ A.runs, r.addr = u.1 * 256 /\ u.1 <= x / 256 /\ x / 256 < u.1 + u.2) ∨
  ∃ (j : Nat) (c : Cls) (ss : List SpA) (l : Nat) (s : SpA) (i : Nat), r.cls = j /\ A.ow (x / 256) = j + 1 /\ Cl A j c ss /\ ss[l]? = some s /\ i < c.n /\ r.addr = at_ c s i /\ r.size = c.size := by
  intro r hr r1 r2
  rcases hr with ⟨c1, _, u, hu, c2, c3⟩ | ⟨j, c, c1, c2, c3, c4, _⟩
  ·exact .inl ⟨c1, (ga.usedR hu (by omega) (by omega)).2, u, hu, c2, by omega, by omega⟩
  ·obtain ⟨c', ss, hcl, ht⟩ := c4
   have : c' = c := Option.some.inj (hcl.1.symm.trans c2)
   subst this
   have hC := ga.cen j c' ss hcl
   obtain ⟨l, s, i, hs, hi, e, _⟩ := (Kn hC).1 ht
   have e' : r.addr = at_ c' s i := Int.ofNat.inj e
   have hpg := VV hC.pos (s := s) (x := x) hi (by omega) (by omega)
   exact .inr ⟨j, c', ss, l, s, i, c1, (ga.used hcl (List.mem_of_getElem? hs) hpg.1 hpg.2).2, hcl, hs, hi, e', c3⟩
 refine h.unique hp hq ?_
 rcases own hh p1 p2 with ⟨a1, a2, u, hu, a3, a4, a5⟩ | ⟨j, c, ss, l, s, i, a1, a2, a3, a4, a5, a6, a7⟩
 ·rcases own hg q1 q2 with ⟨b1, b2, w, hw, b3, b4, b5⟩ | ⟨j', c', ss', l', s', i', b1, b2, b3, b4, b5, b6, b7⟩
  ·have := ga.runs_uniq hu hw a4 a5 b4 b5
   subst this
   unfold Pc.key; rw [hk, a1, b1, a3, b3]
  ·have := b3.lt; omega
 ·rcases own hg q1 q2 with ⟨b1, b2, w, hw, b3, b4, b5⟩ | ⟨j', c', ss', l', s', i', b1, b2, b3, b4, b5, b6, b7⟩
  ·have := a3.lt; omega
  ·have hj : j = j' := by omega
   subst hj
   obtain ⟨rfl, rfl⟩ := a3.eq b3
   have := Kx (ga.cen j c ss a3) a4 b4 a5 b5 (x := x) (by omega) (by omega) (by omega) (by omega)
   unfold Pc.key; rw [hk, a1, b1, a6, b6, this.2.1, this.2.2]
theorem WI.size_pos (h : WI W) {p : Pc} (hp : p ∈ W.held) : 8 <= p.size /\ p.size % 8 = 0 := by
 obtain ⟨A, hA, hh⟩ := h.hf p hp
 have ga := h.ga _ A hA
 rcases hh with ⟨_, _, r, hr, h1, h2⟩ | ⟨j, c, _, hc, h2, h3, _⟩
 ·have h5 := ga.rpos r hr
  omega
 ·obtain ⟨c', ss, hcl, _⟩ := h3
  have : c' = c := Option.some.inj (hcl.1.symm.trans hc)
  subst this
  have hok := (ga.cen j _ ss hcl).ok
  unfold Cls.ok at hok
  omega
theorem WI.len (h : WI W) : W.held.length <= 262144 := by
 have hn : (W.held.map (·.addr)).Nodup := by
  have h1 := List.pairwise_iff_getElem.1 h.hk
  refine List.pairwise_iff_getElem.2 fun i j hi hj hij e => ?_
  have hi' : i < W.held.length := by simpa using hi
  have hj' : j < W.held.length := by simpa using hj
  refine h1 i j (by simpa using hi') (by simpa using hj') hij ?_
  simp only [List.getElem_map] at e ⊢
  have s1 := (h.size_pos (List.getElem_mem hi')).1
  have s2 := (h.size_pos (List.getElem_mem hj')).1
  rw [h.apart (List.getElem_mem hi') (List.getElem_mem hj') (x := W.held[i].addr) (Nat.le_refl _) (by omega) (by omega) (by omega)]
 have := Ub 262144 _ hn fun x hx => by
  obtain ⟨p, hp, rfl⟩ := List.mem_map.1 hx
  exact (h.addr_lt hp).1
 simpa using this
end Go.Ar
namespace Go.Ar
open Go Go.Vc Go.Proofs
open Go.Bu (XV YZ Xu cnt)


variable {U : Hp} {F : Rg} {L : LayW} {W : Wd} {k : Nat} {A : AR}
theorem WI.taken (h : WI W) {p : Pc} (hp : p ∈ W.held) : ∃ A, W.ars[p.k]? = some A /\ RunsOk A /\ I63 (p.addr : Int) := by
 obtain ⟨A, hA, _⟩ := h.hf p hp
 have := (h.addr_lt hp).1
 exact ⟨A, hA, (h.ga _ A hA).runsOk, by unfold I63; omega⟩
structure DoOk (U : Hp) (F : Rg) (L : LayW) (W : Wd) (xs : List (Int × Int × Int)) : Prop where
 h : WH U F L W
 wi : WI W
 n : W.sp.st.length <= 208
 k1 : 1 <= W.ars.length
 k2 : W.ars.length <= 3
 ht : Acts U L.table xs
 htF : ∀ b o, L.table.a = some ⟨b, o, none⟩ -> b < U.size /\ ¬ F b
 tb : W.tb = xs.map ZT
 hv : Zp xs = true
structure ArgL (U : Hp) (F : Rg) (sl : Sl) (l : List Int) : Prop where
 s : ∃ X : Rg, SlR sl 1 (Yu l) U X /\ ∀ b, X b -> b < U.size /\ ¬ F b
 cap : sl.len <= sl.cap
 len : l.length <= 40
 i : ∀ x ∈ l, I63 x
variable {xs : List (Int × Int × Int)}
theorem SlR.below {s : Sl} {vs : List Value} {X : Rg} (h : SlR s 1 vs U X) : SlR s 1 vs U fun b => X b /\ b < U.size := Lcl.cut (SlR.loc _ _ _) h
theorem ArgL.keep0 {sl : Sl} {l : List Int} (h : ArgL U F sl l) {σ' : Hp} (e : Ext0 U σ') : ArgL σ' F sl l := by
 obtain ⟨X, hs, hX⟩ := h.s
 exact ⟨⟨X, (SlR.loc _ _ _).keep0 hs e, fun b hb => ⟨Nat.lt_of_lt_of_le (hX b hb).1 e.1, (hX b hb).2⟩⟩, h.cap, h.len, h.i⟩
theorem ArgL.lenS {sl : Sl} {l : List Int} (h : ArgL U F sl l) : sl.len = l.length := by
 obtain ⟨X, hs, _⟩ := h.s
 have := hs.1; simp [Yu] at this; omega
theorem ArgL.grow {sl : Sl} {l : List Int} (h : ArgL U F sl l) {σ' : Hp} (e : Ext F U σ') : ArgL σ' (Grow F U) sl l := by
 obtain ⟨X, hs, hX⟩ := h.s
 exact ⟨⟨X, (SlR.loc _ _ _).keep hs e fun b _ hb => (hX b hb).2, fun b hb => ⟨Nat.lt_of_lt_of_le (hX b hb).1 e.1, fun hc => by
  rcases hc with hc | hc
  ·exact (hX b hb).2 hc
  ·have := (hX b hb).1; omega⟩⟩, h.cap, h.len, h.i⟩
theorem Zv {U σ' : Hp} {F : Rg} (hz : U.size <= σ'.size) : ∀ b, Grow F σ' b -> Grow F U b := fun b hb => hb.imp id fun h => by omega
theorem WH.back (h : WH U F L W) {σ' : Hp} {G : Rg} {L' : LayW} {W' : Wd} (h' : WH σ' G L' W') (hG : ∀ b, G b -> Grow F U b) : WH σ' (Grow F U) L' W' := h'.mono (fun b _ hb => hG b hb) h.oG h.growO2
theorem Wg8 {x : Act} (hk : W.ars[numW W.ars.length x.ar]? = some A) : doW W x = actW W (numW W.ars.length x.ar) A x := by unfold doW; rw [hk]
theorem do0 (d : DoOk U F L W xs) (hk : W.ars[k]? = some A) (cl : Int) {K : Int -> Hp -> Prop}
 (hR : ∀ σ', Ext F U σ' -> WH σ' (Grow F U) L (W.put k (Z0 A W.sp cl).1 (Z0 A W.sp cl).2 W.held) -> K (Kt A W.sp cl) σ') :
 ∃ Y : Lay, L.ys[k]? = some Y /\ XF.call (some ⟨Y.p, 0, none⟩) cl U K := by
 obtain ⟨Y, G, H, hy, hYh, hW2, put⟩ := d.h.stepAS hk
 refine ⟨Y, hy, Wbv hW2 cl fun v F' H' hf ex hW3 => ?_⟩
 obtain ⟨s, e1, e2, e3, _⟩ := HZ (d.wi.ga k A hk) (d.wi.ow k A hk) cl
 rw [← QN s.tb s.room e2] at hW3
 obtain ⟨e', h'⟩ := put v _ _ F' H' ex hf hW3
 exact hR v e' h'
theorem do1 (d : DoOk U F L W xs) (hk : W.ars[k]? = some A) (cl m : Int) {n3 : Nat} {bx : List Value} (hb3 : Blk U n3 bx) (hn3 : ¬ F n3) (hbx : bx[0 + 2]? = some (.int .i64 cl)) {R : Int -> Hp -> Prop}
 (hR : ∀ σ' s', Ext F U σ' -> WH σ' (Grow F U) { L with held := s' } (W.put k (YE A cl m) W.sp (W.held ++ (YM A cl m).map fun y => ⟨k, cl, y, szOf W.tb cl, false⟩)) -> R (Zi A cl m) σ') :
 ∃ Y : Lay, L.ys[k]? = some Y /\ Wu.call (some ⟨Y.p, 0, none⟩) cl m U fun t47 t471 v3 =>
 Xn [(.i .i64)] (fun I => I 0 v3) fun J (i : Int) v4 =>
 If (decide (i < ((t47.len : Nat) : Int))) (Held v4 fun S =>
  NilP (some ⟨L.w, 0, none⟩) fun a59 =>
  LdH S .s (a59.add 3) fun (t61 : Sl) =>
  LdH S (.i .i64) (Addr.add ⟨n3, 0, none⟩ 2) fun (t64 : Int) =>
  Ix t47.a t47.len i 1 fun a67 =>
  LdH S (.i .i64) a67 fun (t68 : Int) =>
  NilP (some ⟨L.w, 0, none⟩) fun a70 =>
  LdH S .s (a70.add 2) fun (t72 : Sl) =>
  LdH S (.i .i64) (Addr.add ⟨n3, 0, none⟩ 2) fun (t74 : Int) =>
  Ix t72.a t72.len t74 3 fun a75 =>
  LdH S (.i .i64) (a75.add 0) fun (t77 : Int) =>
  Nw (.cells #[.int .i64 (k : Int), .int .i64 t64, .int .i64 t68, .int .i64 t77, .bool false] 39 (0, 0)) v4 fun n79 v5 =>
  And (S v5) <|
  App t61 5 40 39 [.int .i64 0, .int .i64 0, .int .i64 0, .int .i64 0, .bool false] ⟨(some n79), 1, 1⟩ v5 fun t80 v6 =>
  And (S v6) <|
  NilP (some ⟨L.w, 0, none⟩) fun a81 =>
  St1 (a81.add 3) (.slice t80.a t80.len t80.cap) v6 fun v7 =>
  Ar .i64 (i + 1) fun i1 =>
  J i1 v7)
  (R t471 v4) := by
 obtain ⟨Y, G, hy, hYh, hG, hAH, put⟩ := d.h.stepA hk
 refine ⟨Y, hy, KU hAH cl m fun s v ex hrow hA2 => ?_⟩
 obtain ⟨o, f1, f2, f3, f4, f5⟩ := Hq (d.wi.ga k A hk) cl m
 rw [← QN o.kp.tb o.kp.room f1] at hA2
 obtain ⟨e', h'⟩ := put v _ (Cut G U) ex (fun b hb => .inl hb.1) hA2
 have hz := e'.1
 have h1 : WH v (Cut F U) L { W with ars := W.ars.set k (YE A cl m) } := h'.mono (fun b _ hb => by
  rcases hb with hb | hb
  ·exact ⟨hb.1, hb.2.1⟩
  ·exact ⟨hG b hb.1, hb.2⟩) (d.h.o.sub fun b hb => hb.1) fun hb => d.h.o2 hb.1
 generalize hvals : YM A cl m = vals at *
 have hlen : s.len = vals.length := hrow.lenN
 have hs : SlR s 1 (ints vals) v fun b => U.size <= b /\ b < v.size := V2 (SlR.loc _ _ _) hrow.slR
 have hvl : vals.length <= 262144 := by
  have h1 : ∀ x ∈ vals, x < 262144 := fun x hx => by
   obtain ⟨y, e, hy⟩ := TkA.lt o.ga ((f5 cl.toNat (x : Int)).2 (.inr ⟨rfl, x, hx, rfl⟩))
   omega
  exact Ub 262144 vals f2 h1
 have hlW := d.wi.len
 have hcls : vals ≠ [] -> ∃ (j : Nat) (c : Cls), cl = j /\ xs[j]? = some ((c.size : Int), (c.pages : Int), (c.batch : Int)) /\ szOf W.tb cl = c.size := fun hne => by
  obtain ⟨j, rfl, hj⟩ := f3 hne
  have hc : (xs.map ZT)[j]? = some A.tb[j] := by rw [← d.tb, ← d.wi.tb k A hk]; exact List.getElem?_eq_getElem hj
  refine ⟨j, _, rfl, (Vm d.ht d.hv hc).1, ?_⟩
  unfold szOf
  rw [Int.toNat_natCast, d.tb, hc]; rfl
 let F1 : Rg := fun b => Cut F U b ∨ v.size <= b
 have oF1 : Off F1 := fun b hb => by
  rcases hb with hb | hb
  ·exact d.h.o b hb.1
  ·exact WaU h1.g b hb
 have o2F1 : ¬ F1 2 := fun hb => by
  rcases hb with hb | hb
  ·exact d.h.o2 hb.1
  ·have := Wca h1.gd; omega
 have h1' : WH v F1 L { W with ars := W.ars.set k (YE A cl m) } := h1.mono (fun b _ hb => .inl hb) oF1 o2F1
 let mk : Nat -> Pc := fun y => ⟨k, cl, y, szOf W.tb cl, false⟩
 refine YY (a := .i .i64) (fun (t : Int) w => ∃ i : Nat, t = (i : Int) /\ i <= vals.length /\ Ext F1 v w /\ ∃ s', WH w F1 { L with held := s' } { W with ars := W.ars.set k (YE A cl m), held := W.held ++ (vals.take i).map mk }) (fun t _ => vals.length - t.toNat)
  ⟨0, rfl, by omega, Ext.refl _ _, L.held, by rw [List.take_zero, List.map_nil, List.append_nil]; exact h1'⟩ ?_
 rintro t w ⟨i, rfl, hi, ew, s', hw⟩
 refine ifD (fun hlt => ?_) fun hge => ?_
 ·have hi' : i < vals.length := by omega
  have hx : vals[i]? = some vals[i] := List.getElem?_eq_getElem hi'
  generalize vals[i] = y at hx
  obtain ⟨j, c, rfl, hxj, hsz⟩ := hcls (by rintro rfl; simp at hi')
  have hzw := ew.1
  have nF1 : ∀ b, b < U.size -> ¬ F b -> ¬ F1 b := fun b hb hf hc => by
   rcases hc with hc | hc
   ·exact hf hc.1
   ·omega
  have b3 : ∀ u, Ext F1 w u -> Blk u n3 bx := fun u hu => (ew.trans hu).blk ((e'.blk hb3 hn3)) (nF1 _ hb3.lt hn3)
  have hsl : ∀ u, Ext F1 w u -> SlR s 1 (ints vals) u fun b => U.size <= b /\ b < v.size := fun u hu => (SlR.loc _ _ _).keep hs (ew.trans hu) fun b _ hb hc => by
   rcases hc with hc | hc
   ·have := hc.2; omega
   ·omega
  have hact : ∀ u, Ext F1 w u -> Acts u L.table xs := fun u hu => by
   have a1 := Ve d.ht e' fun b hb o ho => (d.htF b o ho).2 hb
   exact Ve a1 (ew.trans hu) fun b hb o ho => nF1 b (d.htF b o ho).1 (d.htF b o ho).2 hb
  refine ⟨fun u => Blk u L.w (hdW { L with held := s' }) /\ Ext F1 w u, ⟨hw.hd, Ext.refl _ _⟩, nilP ⟨s', fun u hu => by rw [add_lit, hu.1.cell]; rfl, ⟨(j : Int), fun u hu => by rw [add_lit, (b3 u hu.2).cell]; exact hbx, ?_⟩⟩⟩
  obtain ⟨b, o', ha, _⟩ := (hsl w (Ext.refl _ _)).cell (j := i) (v := .int .i64 (y : Int)) (by simp [ints, hx])
  rw [ha]
  refine ix (by omega) (by omega) ⟨(y : Int), fun u hu => ?_, ?_⟩
  ·obtain ⟨b', o'', ha', hc⟩ := (hsl u hu.2).cell (j := i) (v := .int .i64 (y : Int)) (by simp [ints, hx])
   rw [ha] at ha'; cases ha'
   rw [add_lit, show o' + (i : Int).toNat * 1 = o' + i by omega]; exact hc
  refine nilP ⟨L.table, fun u hu => by rw [add_lit, hu.1.cell]; rfl, ⟨(j : Int), fun u hu => by rw [add_lit, (b3 u hu.2).cell]; exact hbx, ?_⟩⟩
  obtain ⟨tb, to, hta, _, _⟩ := (hact w (Ext.refl _ _)).2 j _ _ _ hxj
  have hjl := (List.getElem?_eq_some_iff.1 hxj).1
  have htl := d.ht.1
  rw [hta]
  refine ix (by omega) (by omega) ⟨(c.size : Int), fun u hu => ?_, ?_⟩
  ·obtain ⟨tb', to', hta', _, hc, _⟩ := (hact u hu.2).2 j _ _ _ hxj
   rw [hta] at hta'; cases hta'
   rw [add_lit, add_lit, show to + (j : Int).toNat * 3 + 0 = to + j * 3 by omega]; exact hc
  refine nw (cs := [.int .i64 (k : Int), .int .i64 (j : Int), .int .i64 (y : Int), .int .i64 (c.size : Int), .bool false]) fun v5 z5 e5 b5 => ?_
  have b5' : Blk v5 w.size (pc1 (mk y)) := by
   show Blk v5 w.size [.int .i64 (k : Int), .int .i64 (j : Int), .int .i64 (y : Int), .int .i64 ((szOf W.tb (j : Int) : Nat) : Int), .bool false]
   rw [hsz]; exact b5
  have hwc := hw.cut
  have hw5 := hwc.keep0 e5
  refine ⟨⟨e5.blk hw.hd id, e5.to⟩, ?_⟩
  refine WbC hw5.sep (by simp only [List.length_append, List.length_map, List.length_take]; omega) b5' (fun hc => by have := hc.2; omega) fun s3 v6 e6 h6 => ?_
  have hz5 := e5.1
  have e56 : Ext (Cut F1 w) w v6 := e5.to.trans e6
  have hd6 : Blk v6 L.w (hdW { L with held := s' }) := by obtain ⟨_, _, hb⟩ := h6.get .hd; exact hb.2
  refine ⟨⟨hd6, e56.sub fun b hb => hb.1⟩, nilP ?_⟩
  refine Wf4 (L := { L with held := s3 }) h6 (i := 3) (by simp [hdW]) fun v7 e7 h7 => ?_
  have e7' : Ext (Cut F1 w) w v7 := e56.newT e7 fun b hb => by
   rcases hb with hb | hb
   ·exact .inl hb
   ·exact .inr (by omega)
  have h7' : WH v7 F1 { L with held := s3 } { W with ars := W.ars.set k (YE A (j : Int) m), held := (W.held ++ (vals.take i).map mk) ++ [mk y] } := by
   refine (hwc.re e7' hw.len hw.hs (L' := { L with held := s3 }) (W' := { W with ars := W.ars.set k (YE A (j : Int) m), held := (W.held ++ (vals.take i).map mk) ++ [mk y] }) ((Sep.loc CW.loc).mono h7 fun b _ hb => ?_) oF1 o2F1)
   rcases hb with hb | hb
   ·exact hb.1
   ·exact .inr (by omega)
  refine arN (m := i + 1) (by omega) (by omega) ⟨⟨i + 1, rfl, by omega, ew.trans (e7'.sub fun b hb => hb.1), s3, ?_⟩, by omega⟩
  have : (vals.take (i + 1)).map mk = (vals.take i).map mk ++ [mk y] := by rw [List.take_add_one, hx]; simp
  rw [this, ← List.append_assoc]; exact h7'
 ·have hii : i = vals.length := by omega
  subst hii
  rw [List.take_length] at hw
  have e2 : Ext F U w := e'.newT ew fun b hb => by
   rcases hb with hb | hb
   ·exact .inl hb.1
   ·exact .inr (by omega)
  refine hR w s' e2 (d.h.back hw fun b hb => ?_)
  rcases hb with hb | hb
  ·exact .inl hb.1
  ·exact .inr (by omega)
end Go.Ar
namespace Go.Ar
open Go Go.Vc Go.Proofs
open Go.Bu (XV YZ Xu cnt)


variable {U : Hp} {F : Rg} {L : LayW} {W : Wd} {k : Nat} {A : AR} {xs : List (Int × Int × Int)}
theorem DoOk.keep0 (d : DoOk U F L W xs) {σ' : Hp} (e : Ext0 U σ') : DoOk σ' F L W xs := ⟨d.h.keep0 e, d.wi, d.n, d.k1, d.k2, Zl d.ht e, fun b o hb => ⟨Nat.lt_of_lt_of_le (d.htF b o hb).1 e.1, (d.htF b o hb).2⟩, d.tb, d.hv⟩
theorem VJ (h : GA A) (hn : A.n <= 208) (hlow : ∀ p, p < 16 -> A.f p = 0) : (KG (Y8 A).st).length <= 12 := by
 obtain ⟨o, _, _⟩ := Vk h
 have hl : (Y8 A).st.length = A.n := by rw [o.ga.pg.len, o.kp.n]
 have h0 : ∀ p, p < 16 -> (Y8 A).f p = 0 := fun p hp => (o.kp.z p).2 (hlow p hp)
 have hn1 := h.pg.n1
 unfold KG
 rw [hl]
 have e : List.range (A.n / 16) = 0 :: (List.range (A.n / 16 - 1)).map Nat.succ := by
  rw [← List.range_succ_eq_map]; congr 1; omega
 rw [e, List.filter_cons]
 have hz : cntR (Y8 A).st (16 * 0) (16 * 0 + 16) 2 = 0 := (Vi (by omega) (by rw [hl]; omega)).2 fun p p1 p2 e2 => by
  have := h0 p (by omega); unfold AR.f at this; omega
 rw [hz]
 have : ¬ (decide (0 < 0) = true) := by simp
 rw [if_neg this]
 refine Nat.le_trans (List.length_filter_le _ _) ?_
 rw [List.length_map, List.length_range]; omega
theorem WgN (d : DoOk U F L W xs) {Y : Lay} (hk : W.ars[k]? = some A) (hy : L.ys[k]? = some Y) (x : Act) (hxa : I63 x.a) (hkd : x.kd ≠ 0 /\ x.kd ≠ 1 /\ x.kd ≠ 2 /\ x.kd ≠ 3 /\ x.kd ≠ 4 /\ x.kd ≠ 5 /\ x.kd ≠ 6) (sl : Sl) {R : Int -> Hp -> Prop}
 (hR : ∀ σ' s', Ext F U σ' -> WH σ' (Grow F U) { L with held := s' } (actW W k A x).1 -> R (actW W k A x).2 σ') :
 WL.call (some ⟨L.w, 0, none⟩) (some ⟨Y.p, 0, none⟩) x.kd x.ar x.cl x.a x.b sl U R := by
 refine WL.of_vc ?_
 unfold WL.vc
 have hkl := (List.getElem?_eq_some_iff.1 hk).1
 have hself : W.put k A W.sp W.held = W := by
  have : W.ars.set k A = W.ars := by
   apply List.ext_getElem?
   intro j
   by_cases hj : j = k
   ·subst hj; rw [List.getElem?_set_self hkl, hk]
   ·rw [List.getElem?_set_ne (Ne.symm hj)]
  show ({ W with sp := W.sp, ars := W.ars.set k A, held := W.held } : Wd) = W
  rw [this]
 refine nw (cs := [.int .i64 x.kd, .int .i64 x.ar, .int .i64 x.cl, .int .i64 x.a, .int .i64 x.b, .slice sl.a sl.len sl.cap]) fun v hz e hb => ?_
 have dv := d.keep0 e
 have hlw := d.wi.len
 have ga := d.wi.ga k A hk
 obtain ⟨h0, h1, h2, h3, h4, h5, h6⟩ := hkd
 have act : actW W k A x = if x.kd = 7 then (W, WeG A x.a)
  else if x.kd = 10 then (W.put k (relS A W.sp x.a).1 (relS A W.sp x.a).2 W.held, relE x.a)
  else if x.kd = 11 then (W.put k (V6 A W.sp).1 (V6 A W.sp).2 W.held, 0)
  else if x.kd = 12 then (W.put k (KP A) W.sp (WaA (W.ars.set k (KP A)) W.held), 0)
  else if x.kd = 13 then (if Z9 W.held x.a then ({ W with sp := Qi W.sp x.a x.b }, accE W.sp x.a) else (W, 0))
  else (W, 0) := by unfold actW; rw [if_neg h0, if_neg h1, if_neg h2, if_neg h3, if_neg h4, if_neg h5, if_neg h6]
 have same : ∀ (r : Int), actW W k A x = (W, r) -> ∀ w, Ext0 v w -> R r w := fun r hr w ew => by
  rw [hr] at hR
  have E : Ext0 U w := Ext.trans e ew
  exact hR w L.held E.to (d.h.back (d.h.keep0 E) fun b hb => .inl hb)
 obtain ⟨Y', hy', hYh, hAH⟩ := dv.h.ar hk
 rw [hy] at hy'; cases hy'
 refine hb.rI rfl (iff_ (fun c7 => ?_) fun c7 => ?_)
 ·have c7 : x.kd = 7 := by simpa using c7
  rw [if_pos c7] at act
  refine hb.rI rfl (WdD hAH ga.runsOk _ hxa (fun w a b ew hf => ?_) fun w ew hf => ?_)
  ·exact same 0 (by rw [act]; unfold WeG; rw [hf]; rfl) w ew
  ·exact same 8 (by rw [act]; unfold WeG; rw [hf]; rfl) w ew
 have c7 : x.kd ≠ 7 := by simpa using c7
 rw [if_neg c7] at act
 refine iff_ (fun c8 => ?_) fun c8 => ?_
 ·have c8 : x.kd = 8 := by simpa using c8
  rw [if_neg (by omega), if_neg (by omega), if_neg (by omega), if_neg (by omega)] at act
  exact hb.rI rfl (HI hAH ga.runsOk _ hxa fun w ew => same 0 act w ew)
 have c8 : x.kd ≠ 8 := by simpa using c8
 refine iff_ (fun c9 => ?_) fun c9 => ?_
 ·have c9 : x.kd = 9 := by simpa using c9
  rw [if_neg (by omega), if_neg (by omega), if_neg (by omega), if_neg (by omega)] at act
  exact hb.rI rfl (Ga hAH _ (same 0 act v (Ext.refl _ _)))
 refine iff_ (fun c10 => ?_) fun c10 => ?_
 ·have c10 : x.kd = 10 := by simpa using c10
  rw [if_pos c10] at act
  obtain ⟨Y', G, H, hy', _, hW2, put⟩ := dv.h.stepAS hk
  rw [hy] at hy'; cases hy'
  obtain ⟨s, e1, e2, e3⟩ := UI ga (d.wi.ow k A hk) x.a
  have hn : A.n <= 208 := by rw [← (d.wi.ow k A hk).l]; exact d.n
  refine hb.rI rfl (K1 hW2 _ (VJ ga hn (d.wi.low k A hk)) fun w F' H' hf ex hW3 => ?_)
  rw [← QN s.tb s.room e2] at hW3
  obtain ⟨e', h'⟩ := put w _ _ F' H' ex hf hW3
  rw [act] at hR
  exact hR w L.held ((Ext0.to e).trans e') (d.h.back h' (Zv e.1))
 have c10 : x.kd ≠ 10 := by simpa using c10
 rw [if_neg c10] at act
 refine iff_ (fun c11 => ?_) fun c11 => ?_
 ·have c11 : x.kd = 11 := by simpa using c11
  rw [if_pos c11] at act
  obtain ⟨Y', G, H, hy', _, hW2, put⟩ := dv.h.stepAS hk
  rw [hy] at hy'; cases hy'
  have t := H2 ga (d.wi.ow k A hk)
  refine Gp hW2 fun w ex hW3 => ?_
  rw [← QN t.st.tb t.st.room t.tra] at hW3
  obtain ⟨e', h'⟩ := put w _ _ (Cut G v) (Cut H v) ex ⟨fun b hb => .inl hb.1, fun b hb => hb.1⟩ hW3
  rw [act] at hR
  exact hR w L.held ((Ext0.to e).trans e') (d.h.back h' (Zv e.1))
 have c11 : x.kd ≠ 11 := by simpa using c11
 rw [if_neg c11] at act
 refine iff_ (fun c12 => ?_) fun c12 => ?_
 ·have c12 : x.kd = 12 := by simpa using c12
  rw [if_pos c12] at act
  obtain ⟨Y', G, hy', _, hG, hAH', put⟩ := dv.h.stepA hk
  rw [hy] at hy'; cases hy'
  refine We5 hAH' ga.traI fun w ex hA => ?_
  obtain ⟨e', h'⟩ := put w _ (Grow G v) ex (fun b hb => hb) hA
  have t := WbB ga
  have hgl : ∀ b, (F b /\ b < v.size /\ ¬ G b ∨ Grow G v b) -> Grow F v b := fun b hb => by
   rcases hb with hb | hb
   ·exact .inl hb.1
   ·exact hb.imp (hG b) id
  refine Whn h' (by show W.held.length <= 1000000; omega) (fun p hp => ?_) fun w2 s' e2 h2 => ?_
  ·obtain ⟨A', hA', hro, hx⟩ := d.wi.taken hp
   by_cases hpk : p.k = k
   ·rw [hpk]
    exact ⟨KP A, List.getElem?_set_self hkl, t.ob.ga.runsOk, hx⟩
   ·exact ⟨A', (List.getElem?_set_ne (Ne.symm hpk)).trans hA', hro, hx⟩
  ·rw [act] at hR
   have hzw := e'.1
   refine hR w2 s' (((Ext0.to e).trans e').newT e2 fun b hb => ?_) (d.h.back h2 fun b hb => ?_)
   ·exact (Zv e.1) b (hgl b hb)
   ·rcases hb with hb | hb
    ·exact (Zv e.1) b (hgl b hb)
    ·have := e.1; exact .inr (by omega)
 have c12 : x.kd ≠ 12 := by simpa using c12
 rw [if_neg c12] at act
 refine iff_ (fun c13 => ?_) fun c13 => ?_
 ·have c13 : x.kd = 13 := by simpa using c13
  rw [if_pos c13] at act
  refine hb.rI rfl (WdP dv.h _ hxa (by omega) ?_)
  refine iff_ (fun hi => ?_) fun hi => ?_
  ·rw [if_pos hi] at act
   have hxs : x.a <= 1000000000000 := by
    unfold Z9 at hi
    rw [List.any_eq_true] at hi
    obtain ⟨p, hp, hx⟩ := hi
    simp only [Bool.and_eq_true, decide_eq_true_eq] at hx
    have := (d.wi.addr_lt hp).2
    omega
   obtain ⟨G, hG, hS, hO, put⟩ := dv.h.stepS
   refine nilP (dv.h.hd.rP rfl (hb.rI rfl (hb.rI rfl (WfA hS dv.h.g dv.h.gd _ hxs _ fun w ew hS' => ?_))))
   obtain ⟨e', h'⟩ := put w _ ew hS'
   rw [act] at hR
   exact hR w L.held ((Ext0.to e).trans e') (d.h.back h' (Zv e.1))
  ·rw [hi] at act
   exact same 0 (by rw [act]; rfl) v (Ext.refl _ _)
 have c13 : x.kd ≠ 13 := by simpa using c13
 rw [if_neg c13] at act
 exact same 0 act v (Ext.refl _ _)
end Go.Ar
namespace Go.Ar
open Go Go.Vc Go.Proofs
open Go.Bu (XV YZ Xu cnt)


variable {U : Hp} {F : Rg} {L : LayW} {W : Wd} {k : Nat} {A : AR} {xs : List (Int × Int × Int)}
theorem WhT {cs : List Value} {Q : Hp -> Rg -> Prop} : ∀ j, j ≠ LbW.ar k -> CWq W L cs k Q j = CW W L cs j := by
 intro j hj
 funext U F
 unfold CWq
 apply propext
 exact ⟨fun h => h.1, fun h => ⟨h, fun e => (hj e).elim⟩⟩
theorem CWq.none {cs : List Value} (h : Sep (CW W L cs) U F) : Sep (CWq W L cs k Wb9) U F := by
 obtain ⟨ρ, h⟩ := h
 exact ⟨ρ, fun i => ⟨h i, fun _ => trivial⟩⟩
theorem do3 (d : DoOk U F L W xs) (hk : W.ars[k]? = some A) (cl : Int) {n3 : Nat} {bx : List Value} (hb3 : Blk U n3 bx) (hn3 : ¬ F n3) (hbx : bx[0 + 2]? = some (.int .i64 cl)) {R : Int -> Hp -> Prop}
 (hR : ∀ σ', Ext F U σ' -> WH σ' (Grow F U) L (W.put k (Y4 A cl) W.sp (Qm W.held k cl (YP A cl) false)) -> R (Z4 A cl) σ') :
 ∃ Y : Lay, L.ys[k]? = some Y /\ WB.call (some ⟨Y.p, 0, none⟩) cl U fun t111 t1111 v11 =>
  LdI .i64 (Addr.add ⟨n3, 0, none⟩ 2) v11 fun t118 =>
  Ws.call (some ⟨L.w, 0, none⟩) (k : Int) t118 t111 false v11 fun v12 =>
  R t1111 v12 := by
 have hl := (List.getElem?_eq_some_iff.1 hk).1
 have hy : L.ys[k]? = some (L.ys[k]'(by rw [d.h.len]; exact hl)) := List.getElem?_eq_getElem _
 generalize (L.ys[k]'(by rw [d.h.len]; exact hl)) = Y at hy
 obtain ⟨G, hG, hi, hput⟩ := d.h.sep.step CW.loc (.ar k)
 simp only [CW, hk, hy, ArR] at hi
 refine ⟨Y, hy, U1 hi cl fun s v ex hs hcap hA => ?_⟩
 have e' := ex.sub hG
 have hlw := d.wi.len
 have hq : Lcl (SlR s 1 (Yu (YP A cl))) := SlR.loc _ _ _
 have hslen : s.len = (YP A cl).length := by have := hs.1; simp [Yu] at this; omega
 obtain ⟨o, _, f2, f3, _, _⟩ := Wao (d.wi.ga k A hk) cl
 have hvl : (YP A cl).length <= 262144 := by
  have hb : ∀ x ∈ YP A cl, ∃ y : Nat, x = y /\ y < 262144 := fun x hx => by
   obtain ⟨t, ht, hx2⟩ := f2 x hx
   have hkl : cl.toNat < A.tb.length := by rw [← (d.wi.ga k A hk).lt]; exact (List.getElem?_eq_some_iff.1 ht).1
   obtain ⟨c, ss, t', hc, _⟩ := (d.wi.ga k A hk).cl hkl
   exact TkA.lt (d.wi.ga k A hk) ((Qv hc).2 ((d.wi.ga k A hk).trt _ c ss t hc ht x hx2))
  have h2 := Ub 262144 ((YP A cl).map Int.toNat) (by
   rw [List.Nodup, List.pairwise_map]
   refine f3.imp_of_mem fun {a b} ha hb2 hab e => hab ?_
   obtain ⟨y, rfl, _⟩ := hb a ha
   obtain ⟨z, rfl, _⟩ := hb b hb2
   simp at e; rw [e]) fun x hx => by
   obtain ⟨y, hy, rfl⟩ := List.mem_map.1 hx
   obtain ⟨z, rfl, hz⟩ := hb y hy
   simpa using hz
  simpa using h2
 have hs1 : Sep (CWq { W with ars := W.ars.set k (Y4 A cl) } L (hdW L) k (SlR s 1 (Yu (YP A cl)))) v F := by
  refine (Sep.loc (CWq.loc hq)).mono (hput v (CWq { W with ars := W.ars.set k (Y4 A cl) } L (hdW L) k (SlR s 1 (Yu (YP A cl)))) G (fun j hj => (WhT j hj).trans (Wgh j hj)) ex (fun b hb => .inl hb) ⟨?_, fun _ => hs⟩ (CWq.loc hq _)) fun b _ hb => Kk hG (fun b hb => hb) b hb
  show ArR L.ys[k]? (W.ars.set k (Y4 A cl))[k]? v G
  rw [hy, List.getElem?_set_self hl]; exact hA
 have b3 := ex.blk hb3 fun hf => hn3 (hG _ hf)
 refine b3.rI hbx (Wdf hq hs1 k cl false hslen (by omega) (by show W.held.length <= _; omega) (fun w held' _ hw => ?_) fun w ew hw => ?_)
 ·obtain ⟨X, _, hx⟩ := hw.get (.ar k)
  exact ⟨X, hx.2 rfl⟩
 ·have E := e'.trans ew
  refine hR w E (d.h.re (W' := W.put k (Y4 A cl) W.sp (Qm W.held k cl (YP A cl) false)) (L' := L) E (by show L.ys.length = (W.ars.set k _).length; simp [d.h.len]) d.h.hs ((Sep.loc CW.loc).mono (CWq.out hw) fun b _ hb => .inl hb) d.h.oG d.h.growO2)
theorem Wh0 (d : DoOk U F L W xs) (hF : ∀ b, F b -> b < U.size) (x : Act) {sl : Sl} (ha : ArgL U F sl x.l) (hxa : I63 x.a) {R : Int -> Hp -> Prop}
 (hR : ∀ σ' s', Ext F U σ' -> WH σ' (Grow F U) { L with held := s' } (doW W x).1 -> R (doW W x).2 σ') :
 WM.call (some ⟨L.w, 0, none⟩) x.kd x.ar x.cl x.a x.b sl U R := by
 refine WM.of_vc ?_
 unfold WM.vc
 refine nw (cs := [.int .i64 x.kd, .int .i64 x.ar, .int .i64 x.cl, .int .i64 x.a, .int .i64 x.b, .slice sl.a sl.len sl.cap]) fun v hz e hb => ?_
 have hk1 := d.k1; have hk2 := d.k2
 refine hb.rI rfl (hb.rI rfl (hb.rI rfl (hb.rI rfl (hb.rI rfl (hb.rS rfl (Wak (d.h.keep0 e) (by omega) (by omega) _ _ _ _ _ _ fun v1 e1 => ?_))))))
 have E1 := Ext.trans e e1
 have z1 := E1.1
 have d1 := d.keep0 E1
 have a1 := ha.keep0 E1
 have b1 := e1.blk hb id
 have nF : ¬ F U.size := fun hf => by have := hF _ hf; omega
 have hkl := (WcD x.ar (n := W.ars.length) (by omega)).1
 have hk : W.ars[numW W.ars.length x.ar]? = some (W.ars[numW W.ars.length x.ar]'hkl) := List.getElem?_eq_getElem _
 have hact := Wg8 hk
 generalize (W.ars[numW W.ars.length x.ar]'hkl) = A at hk hact
 rw [hact] at hR
 generalize numW W.ars.length x.ar = k at hk hR
 have fin : ∀ w s', Ext F v1 w -> ∀ (W' : Wd) (r : Int), actW W k A x = (W', r) -> WH w (Grow F v1) { L with held := s' } W' -> R r w := fun w s' ew W' r hr hw => by
  rw [hr] at hR
  exact hR w s' ((Ext0.to E1).trans ew) (d.h.back hw (Zv z1))
 have same : ∀ w, Ext0 v1 w -> ∀ r, actW W k A x = (W, r) -> R r w := fun w ew r hr => fin w L.held ew.to W r hr (d1.h.back (d1.h.keep0 ew) fun b hb => .inl hb)
 obtain ⟨Y, hy, hYh, hAH⟩ := d1.h.ar hk
 have hlw := d.wi.len
 refine nilP (d1.h.hd.rS rfl (d1.h.rA hy (b1.rI rfl (iff_ (fun c0 => ?_) fun c0 => ?_))))
 ·have c0 : x.kd = 0 := by simpa using c0
  obtain ⟨Y', hy', hc⟩ := do0 (K := R) d1 hk x.cl fun w ew hw => fin w L.held ew _ _ (by unfold actW; rw [if_pos c0]) hw
  rw [hy] at hy'; cases hy'
  exact b1.rI rfl hc
 have c0 : x.kd ≠ 0 := by simpa using c0
 refine iff_ (fun c1 => ?_) fun c1 => ?_
 ·have c1 : x.kd = 1 := by simpa using c1
  obtain ⟨Y', hy', hc⟩ := do1 (R := R) d1 hk x.cl x.a b1 nF rfl fun w s' ew hw => fin w s' ew _ _ (by unfold actW; rw [if_neg c0, if_pos c1]) hw
  rw [hy] at hy'; cases hy'
  exact b1.rI rfl (b1.rI rfl hc)
 have c1 : x.kd ≠ 1 := by simpa using c1
 obtain ⟨X, hsX, hX⟩ := a1.s
 have hl40 := ha.len
 refine iff_ (fun c2 => ?_) fun c2 => ?_
 ·have c2 : x.kd = 2 := by simpa using c2
  have act : actW W k A x = if ownW W.held k x.cl x.l then (W.put k (YF A x.cl x.l) W.sp (if Zn A x.cl x.l = 0 then Kr W.held k x.cl x.l else W.held), Zn A x.cl x.l) else (W, 0) := by unfold actW; rw [if_neg c0, if_neg c1, if_pos c2]
  refine b1.rI rfl (b1.rI rfl (b1.rI rfl (b1.rI rfl (b1.rI rfl (b1.rS rfl (Wf5 d1.h k _ _ _ _ _ hsX (by omega) (by omega) fun v8 e8 => ?_))))))
  have b8 := e8.blk b1 id
  refine iff_ (fun ho => ?_) fun ho => ?_
  ·have ho : ownW W.held k x.cl x.l = false := by simpa using ho
   rw [ho] at act
   exact same v8 e8 0 act
  ·have ho : ownW W.held k x.cl x.l = true := by simpa using ho
   rw [ho, if_pos rfl] at act
   have d8 := d1.keep0 e8
   have a8 := a1.keep0 e8
   obtain ⟨X8, hsX8, hX8⟩ := a8.s
   obtain ⟨Y', G, hy', _, hG, hAH', put⟩ := d8.h.stepA hk
   rw [hy] at hy'; cases hy'
   refine b8.rI rfl (b8.rS rfl (KH hAH' x.cl a8.i (by omega) a8.cap (.inl ⟨X8, hsX8, fun b _ hb hg => (hX8 b hb).2 (hG b hg)⟩) fun v9 ex hA => ?_))
   obtain ⟨o, f1, _, _⟩ := Ui (d.wi.ga k A hk) (k := x.cl) (xs := x.l) fun h0 y hy => by
    obtain ⟨j, c, ss, hj, _⟩ := Vf (d.wi.ga k A hk) h0
    rw [hj, Int.toNat_natCast]; exact d.wi.own1 hk ho hj y hy
   rw [← QN o.kp.tb o.kp.room f1] at hA
   obtain ⟨e9, h9⟩ := put v9 _ (Grow G v8) ex (fun b hb => hb) hA
   have b9 := ex.blk b8 fun hf => nF (hG _ hf)
   have h9' := d8.h.back h9 fun b hb => by
    rcases hb with hb | hb
    ·exact .inl hb.1
    ·exact hb.imp (hG b) id
   have e19 : Ext F v1 v9 := (e8.to).trans e9
   refine iff_ (fun he => ?_) fun he => ?_
   ·have he : Zn A x.cl x.l = 0 := by simpa using he
    rw [if_pos he] at act
    have a9 := a8.grow e9
    obtain ⟨X9, hsX9, hX9⟩ := a9.s
    refine b9.rI rfl (b9.rS rfl (Wev h9' k x.cl hsX9 hX9 (by show W.held.length <= _; omega) (by omega) fun w s' ew hw => ?_))
    have z9 := e9.1; have z8 := e8.1
    refine fin w s' (e19.newT ew fun b hb => Zv z8 b hb) _ _ act (d1.h.back hw fun b hb => ?_)
    rcases hb with hb | hb
    ·exact Zv z8 b hb
    ·exact .inr (by omega)
   ·have he : Zn A x.cl x.l ≠ 0 := by simpa using he
    rw [if_neg he] at act
    exact fin v9 L.held e19 _ _ act (d1.h.back h9' (Zv e8.1))
 have c2 : x.kd ≠ 2 := by simpa using c2
 refine iff_ (fun c3 => ?_) fun c3 => ?_
 ·have c3 : x.kd = 3 := by simpa using c3
  obtain ⟨Y', hy', hc⟩ := do3 (R := R) d1 hk x.cl b1 nF rfl fun w ew hw => fin w L.held ew _ _ (by unfold actW; rw [if_neg c0, if_neg c1, if_neg c2, if_pos c3]) hw
  rw [hy] at hy'; cases hy'
  exact b1.rI rfl hc
 have c3 : x.kd ≠ 3 := by simpa using c3
 refine iff_ (fun c4 => ?_) fun c4 => ?_
 ·have c4 : x.kd = 4 := by simpa using c4
  have act : actW W k A x = if ownW W.held k x.cl x.l then (W.put k (QA A x.cl x.l) W.sp (if KQ A x.cl x.l then Qm W.held k x.cl x.l true else W.held), Vu A x.cl x.l) else (W, 0) := by unfold actW; rw [if_neg c0, if_neg c1, if_neg c2, if_neg c3, if_pos c4]
  refine b1.rI rfl (b1.rI rfl (b1.rI rfl (b1.rI rfl (b1.rI rfl (b1.rS rfl (Wf5 d1.h k _ _ _ _ _ hsX (by omega) (by omega) fun v8 e8 => ?_))))))
  have b8 := e8.blk b1 id
  refine iff_ (fun ho => ?_) fun ho => ?_
  ·have ho : ownW W.held k x.cl x.l = false := by simpa using ho
   rw [ho] at act
   exact same v8 e8 0 act
  ·have ho : ownW W.held k x.cl x.l = true := by simpa using ho
   rw [ho, if_pos rfl] at act
   have d8 := d1.keep0 e8
   have a8 := a1.keep0 e8
   obtain ⟨X8, hsX8, hX8⟩ := a8.s
   obtain ⟨Y', G, hy', _, hG, hAH', put⟩ := d8.h.stepA hk
   rw [hy] at hy'; cases hy'
   refine b8.rI rfl (b8.rS rfl (Gs hAH' x.cl hsX8 a8.i fun v9 ex hA => ?_))
   obtain ⟨e9, h9⟩ := put v9 _ (Grow G v8) ex (fun b hb => hb) hA
   have b9 := ex.blk b8 fun hf => nF (hG _ hf)
   have h9' := d8.h.back h9 fun b hb => by
    rcases hb with hb | hb
    ·exact .inl hb.1
    ·exact hb.imp (hG b) id
   have e19 : Ext F v1 v9 := (e8.to).trans e9
   refine iff_ (fun ht => ?_) fun ht => ?_
   ·rw [if_pos ht] at act
    have a9 := a8.grow e9
    obtain ⟨X9, hsX9, hX9⟩ := a9.s
    refine b9.rI rfl (b9.rS rfl (Wdf (k0 := k) Wb9.loc (CWq.none h9'.sep) k x.cl true a9.lenS (by omega) (by show W.held.length <= _; omega) (fun w held' ew _ => ⟨X9, (SlR.loc _ _ _).keep hsX9 ew fun b _ hb => (hX9 b hb).2⟩) fun w ew hw => ?_))
    have z8 := e8.1
    refine fin w L.held (e19.newT ew fun b hb => Zv z8 b hb) _ _ act (d1.h.back ?_ (Zv z8))
    exact h9'.re (L' := L) (W' := W.put k (QA A x.cl x.l) W.sp (Qm W.held k x.cl x.l true)) ew h9'.len h9'.hs (CWq.out hw) h9'.o h9'.o2
   ·rw [ht] at act
    exact fin v9 L.held e19 _ _ act (d1.h.back h9' (Zv e8.1))
 have c4 : x.kd ≠ 4 := by simpa using c4
 refine iff_ (fun c5 => ?_) fun c5 => ?_
 ·have c5 : x.kd = 5 := by simpa using c5
  have act : actW W k A x = (W.put k (YO A W.sp x.a x.b).1 (YO A W.sp x.a x.b).2 (if ZS A W.sp x.a x.b = 0 then W.held ++ [⟨k, -1, Q1 A W.sp x.a x.b * 256, x.a.toNat * 256, false⟩] else W.held), ZS A W.sp x.a x.b) := by
   unfold actW; rw [if_neg c0, if_neg c1, if_neg c2, if_neg c3, if_neg c4, if_pos c5]
  obtain ⟨Y', G, H, hy', _, hW2, put⟩ := d1.h.stepAS hk
  rw [hy] at hy'; cases hy'
  refine b1.rI rfl (b1.rI rfl (Vg hW2 x.a x.b fun v9 F' H' hf ex hW3 => ?_))
  have htr : traT (YO A W.sp x.a x.b).1 Y = traT A Y := by
   rcases QE (d.wi.ga k A hk) (d.wi.ow k A hk) x.a x.b with ⟨e, _, _⟩ | ⟨y, A1, sp1, _, _, _, _, _, _, s, et, _⟩
   ·rw [e]
   ·exact QN s.tb s.room et
  rw [← htr] at hW3
  obtain ⟨e9, h9⟩ := put v9 _ _ F' H' ex hf hW3
  have b9 := e9.blk b1 nF
  refine iff_ (fun he => ?_) fun he => ?_
  ·have he : ZS A W.sp x.a x.b = 0 := by simpa using he
   rw [if_pos he] at act
   obtain ⟨y, A1, sp1, hpo, _, hV, eS, _, _, s, et, _⟩ := (QE (d.wi.ga k A hk) (d.wi.ow k A hk) x.a x.b).resolve_left fun hh => hh.2.1 he
   obtain ⟨m', a', hm, ha', hm1, hm2, _⟩ := UX hpo
   have hyn : y + m' <= 1024 := by
    have hr : (y, m') ∈ (YO A W.sp x.a x.b).1.runs := by rw [eS, hm]; simp
    have := s.ga.fit hr
    have := s.ga.pg.n2
    omega
   rw [hV] at act ⊢
   have h9c := h9.cut
   have nC : ∀ u, Ext (Cut (Grow F v1) v9) v9 u -> Blk u U.size [.int .i64 x.kd, .int .i64 x.ar, .int .i64 x.cl, .int .i64 x.a, .int .i64 x.b, .slice sl.a sl.len sl.cap] := fun u hu => hu.blk b9 fun hc => by
    rcases hc.1 with hc | hc
    ·exact nF hc
    ·have := b1.lt; omega
   refine ⟨fun u => Ext (Cut (Grow F v1) v9) v9 u /\ Blk u L.w (hdW L), ⟨Ext.refl _ _, h9.hd⟩, nilP ⟨L.held, fun u hu => by rw [add_lit, hu.2.cell]; rfl, ?_⟩⟩
   refine ar (by omega) (by omega) ⟨x.a, fun u hu => by rw [add_lit, (nC u hu.1).cell]; rfl, ar (by omega) (by omega) ?_⟩
   refine nw (cs := [.int .i64 (k : Int), .int .i64 (-1), .int .i64 ((y : Int) * 256), .int .i64 (x.a * 256), .bool false]) fun v5 z5 e5 b5 => ?_
   have b5' : Blk v5 v9.size (pc1 ⟨k, -1, y * 256, x.a.toNat * 256, false⟩) := by
    show Blk v5 v9.size [.int .i64 (k : Int), .int .i64 (-1), .int .i64 ((y * 256 : Nat) : Int), .int .i64 ((x.a.toNat * 256 : Nat) : Int), .bool false]
    have q1 : ((y * 256 : Nat) : Int) = (y : Int) * 256 := by rw [Int.natCast_mul]; rfl
    have q2 : ((x.a.toNat * 256 : Nat) : Int) = x.a * 256 := by rw [hm, Int.toNat_natCast, Int.natCast_mul]; rfl
    rw [q1, q2]; exact b5
   have hw5 := h9c.keep0 e5
   refine ⟨⟨e5.to, e5.blk h9.hd id⟩, ?_⟩
   refine WbC hw5.sep (by show W.held.length <= _; omega) b5' (fun hc => by have := hc.2; omega) fun s3 v6 e6 h6 => ?_
   have hd6 : Blk v6 L.w (hdW L) := by obtain ⟨_, _, hb⟩ := h6.get .hd; exact hb.2
   have e56 : Ext (Cut (Grow F v1) v9) v9 v6 := e5.to.trans e6
   refine ⟨⟨e56, hd6⟩, nilP ?_⟩
   refine Wf4 (L := { L with held := s3 }) h6 (i := 3) (by simp [hdW]) fun v7 e7 h7 => ?_
   have z9 := e9.1; have z5' := e5.1
   have e7' : Ext (Cut (Grow F v1) v9) v9 v7 := e56.newT e7 fun b hb => by
    rcases hb with hb | hb
    ·exact .inl hb
    ·exact .inr (by omega)
   have h7' : WH v7 (Grow (Cut (Grow F v1) v9) v5) { L with held := s3 } (W.put k (YO A W.sp x.a x.b).1 (YO A W.sp x.a x.b).2 (W.held ++ [⟨k, -1, y * 256, x.a.toNat * 256, false⟩])) :=
    h9c.re e7' h9.len h9.hs (L' := { L with held := s3 }) h7 hw5.oG hw5.growO2
   have h8 : WH v7 (Grow F v1) { L with held := s3 } (W.put k (YO A W.sp x.a x.b).1 (YO A W.sp x.a x.b).2 (W.held ++ [⟨k, -1, y * 256, x.a.toNat * 256, false⟩])) := d1.h.back h7' fun b hb => ?_
   have e8 : Ext F v1 v7 := e9.newT e7' fun b hb => hb.1
   have hf := fin v7 s3 e8 _ _ act
   exact hf h8
   rcases hb with hb | hb
   ·exact hb.1
   ·exact .inr (by omega)
  ·have he : ZS A W.sp x.a x.b ≠ 0 := by simpa using he
   rw [if_neg he] at act
   exact fin v9 L.held e9 _ _ act h9
 have c5 : x.kd ≠ 5 := by simpa using c5
 refine iff_ (fun c6 => ?_) fun c6 => ?_
 ·have c6 : x.kd = 6 := by simpa using c6
  have act : actW W k A x = (W.put k (ZR A x.a) W.sp (if ZP A x.a = 0 then Kr W.held k (-1) [x.a * 256] else W.held), ZP A x.a) := by
   unfold actW; rw [if_neg c0, if_neg c1, if_neg c2, if_neg c3, if_neg c4, if_neg c5, if_pos c6]
  obtain ⟨Y', G, hy', _, hG, hAH', put⟩ := d1.h.stepA hk
  rw [hy] at hy'; cases hy'
  have ga := d.wi.ga k A hk
  have hn2 := ga.pg.n2
  refine b1.rI rfl (VW hAH' x.a (fun r hr => by have := ga.fit hr; omega) fun v9 ex hA => ?_)
  obtain ⟨⟨kp, _⟩, et, _, _, f2⟩ := Wap ga x.a
  rw [← QN kp.tb kp.room et] at hA
  obtain ⟨e9, h9⟩ := put v9 _ (Grow G v1) ex (fun b hb => hb) hA
  have b9 := ex.blk b1 fun hf => nF (hG _ hf)
  have h9' := d1.h.back h9 fun b hb => by
   rcases hb with hb | hb
   ·exact .inl hb.1
   ·exact hb.imp (hG b) id
  refine iff_ (fun he => ?_) fun he => ?_
  ·have he : ZP A x.a = 0 := by simpa using he
   rw [if_pos he] at act
   obtain ⟨r, hr, hxr, _⟩ := f2 he
   have := ga.fit hr
   refine b9.rI rfl (ar (by omega) (by omega) ?_)
   refine nw (cs := [.int .i64 (x.a * 256)]) fun v10 z10 e10 b10 => ?_
   have h10 := h9'.cut.keep0 e10
   have hs10 : SlR ⟨some ⟨v9.size, 0, none⟩, 1, 1⟩ 1 (Yu [x.a * 256]) v10 (· = v9.size) := ⟨rfl, .inr ⟨_, 0, _, rfl, rfl, b10.q, fun j hj => by rw [Nat.zero_add]; rfl⟩⟩
   refine Wev h10 k (-1) hs10 (fun b hb => ⟨by subst hb; exact b10.lt, fun hc => by subst hb; have := hc.2; omega⟩) (by show W.held.length <= _; omega) (by simp) fun w s' ew hw => ?_
   have z9 := e9.1; have z10' := e10.1
   refine fin w s' ((e9.trans e10.to).newT ew fun b hb => hb.1) _ _ act (d1.h.back hw fun b hb => ?_)
   rcases hb with hb | hb
   ·exact hb.1
   ·exact .inr (by omega)
  ·have he : ZP A x.a ≠ 0 := by simpa using he
   rw [if_neg he] at act
   exact fin v9 L.held e9 _ _ act h9'
 have c6 : x.kd ≠ 6 := by simpa using c6
 refine b1.rI rfl (b1.rI rfl (b1.rI rfl (b1.rI rfl (b1.rI rfl (b1.rS rfl ?_)))))
 exact WgN d1 hk hy x hxa ⟨c0, c1, c2, c3, c4, c5, c6⟩ sl fun w s' ew hw => fin w s' ew _ _ rfl hw
theorem Wij (d : DoOk U F L W xs) (x : Act) {sl : Sl} (ha : ArgL U F sl x.l) (hxa : I63 x.a) {R : Int -> Hp -> Prop}
 (hR : ∀ σ' s', Ext F U σ' -> WH σ' (Grow F U) { L with held := s' } (doW W x).1 -> R (doW W x).2 σ') :
 WM.call (some ⟨L.w, 0, none⟩) x.kd x.ar x.cl x.a x.b sl U R := by
 have d' : DoOk U (Cut F U) L W xs := ⟨d.h.cut, d.wi, d.n, d.k1, d.k2, d.ht, fun b o hb => ⟨(d.htF b o hb).1, fun hc => (d.htF b o hb).2 hc.1⟩, d.tb, d.hv⟩
 obtain ⟨X, hs, hX⟩ := ha.s
 refine Wh0 d' (fun b hb => hb.2) x ⟨⟨X, hs, fun b hb => ⟨(hX b hb).1, fun hc => (hX b hb).2 hc.1⟩⟩, ha.cap, ha.len, ha.i⟩ hxa fun w s' ew hw => hR w s' (ew.sub fun b hb => hb.1) (d.h.back hw fun b hb => ?_)
 exact hb.imp (fun h => h.1) id
end Go.Ar
namespace Go.Ar
open Go Go.Vc Go.Proofs
open Go.Bu (XV YZ Xu cnt)


variable {U : Hp} {F : Rg} {L : LayW} {W : Wd} {k : Nat} {A : AR} {xs : List (Int × Int × Int)}
structure Acts6 (U : Hp) (N : Nat) (sl : Sl) (us : List Act) : Prop where
 len : sl.len = us.length
 at_ : ∀ (i : Nat) (x : Act), us[i]? = some x -> ∃ (b o : Nat) (s : Sl), sl.a = some ⟨b, o, none⟩ /\ b < N /\ cell U ⟨b, o + i * 6, none⟩ = some (.int .i64 x.kd) /\ cell U ⟨b, o + i * 6 + 1, none⟩ = some (.int .i64 x.ar) /\ cell U ⟨b, o + i * 6 + 2, none⟩ = some (.int .i64 x.cl) ∧
  cell U ⟨b, o + i * 6 + 3, none⟩ = some (.int .i64 x.a) /\ cell U ⟨b, o + i * 6 + 4, none⟩ = some (.int .i64 x.b) /\ cell U ⟨b, o + i * 6 + 5, none⟩ = some (.slice s.a s.len s.cap) /\ SlR s 1 (Yu x.l) U (fun b => b < N) /\ s.len <= s.cap
 i : ∀ x ∈ us, I63 x.a /\ ∀ y ∈ x.l, I63 y
 sz : N <= U.size
theorem Acts6.keep {N : Nat} {sl : Sl} {us : List Act} (h : Acts6 U N sl us) {σ' : Hp} (e : Ext (fun b => N <= b) U σ') : Acts6 σ' N sl us := by
 refine ⟨h.len, fun i x hx => ?_, h.i, Nat.le_trans h.sz e.1⟩
 obtain ⟨b, o, s, h1, h2, c0, c1, c2, c3, c4, c5, h3, h4⟩ := h.at_ i x hx
 have hc : ∀ o', cell σ' ⟨b, o', none⟩ = cell U ⟨b, o', none⟩ := fun o' => ZL e (by have := h.sz; omega) (by omega)
 exact ⟨b, o, s, h1, h2, (hc _).trans c0, (hc _).trans c1, (hc _).trans c2, (hc _).trans c3, (hc _).trans c4, (hc _).trans c5, (SlR.loc _ _ _).keep h3 e fun b _ hb hc => by omega, h4⟩
theorem Acts6.rd {N : Nat} {sl : Sl} {us : List Act} (h : Acts6 U N sl us) {i : Nat} {x : Act} (hx : us[i]? = some x) {K : Int -> Int -> Int -> Int -> Int -> Sl -> Prop} (hK : ∀ s, SlR s 1 (Yu x.l) U (fun b => b < N) -> s.len <= s.cap -> K x.kd x.ar x.cl x.a x.b s) :
 Ix sl.a sl.len (i : Int) 6 fun a => LdI .i64 (a.add 0) U fun x0 => LdI .i64 (a.add 1) U fun x1 => LdI .i64 (a.add 2) U fun x2 => LdI .i64 (a.add 3) U fun x3 => LdI .i64 (a.add 4) U fun x4 => LdS (a.add 5) U fun x5 => K x0 x1 x2 x3 x4 x5 := by
 obtain ⟨b, o, s, h1, h2, c0, c1, c2, c3, c4, c5, h3, h4⟩ := h.at_ i x hx
 have hi := (List.getElem?_eq_some_iff.1 hx).1
 rw [h1]
 refine ix (by omega) (by rw [h.len]; omega) ?_
 simp only [add_lit]
 have e : (i : Int).toNat * 6 = i * 6 := by rw [Int.toNat_natCast]
 rw [e]
 exact ldI c0 (ldI c1 (ldI c2 (ldI c3 (ldI c4 (ldS c5 (hK s h3 h4))))))
theorem Acts6.rdS {N : Nat} {sl : Sl} {us : List Act} (h : Acts6 U N sl us) {i : Nat} {x : Act} (hx : us[i]? = some x) {K : Sl -> Prop} (hK : ∀ s : Sl, s.len = x.l.length -> K s) :
 Ix sl.a sl.len (i : Int) 6 fun a => LdS (a.add 5) U K := by
 obtain ⟨b, o, s, h1, h2, c0, c1, c2, c3, c4, c5, h3, h4⟩ := h.at_ i x hx
 have hi := (List.getElem?_eq_some_iff.1 hx).1
 rw [h1]
 refine ix (by omega) (by rw [h.len]; omega) ?_
 simp only [add_lit]
 have e : (i : Int).toNat * 6 = i * 6 := by rw [Int.toNat_natCast]
 rw [e]
 exact ldS c5 (hK s (by have := h3.1; simp [Yu] at this; omega))
def U3 (us : List Act) : Bool := us.any (fun x => decide (x.l.length > 40)) || decide (us.length > 40)
theorem Wfo {N : Nat} {sl : Sl} {us : List Act} (h : Acts6 U N sl us) (hl : us.length <= 9223372036854775807) {R : Bool -> Hp -> Prop} (hR : R (U3 us) U) : Xk.call sl U R := by
 refine Xk.of_vc ?_
 unfold Xk.vc
 have hlen := h.len
 refine YY (a := .i .i64) (fun (t : Int) v => ∃ i : Nat, t = (i : Int) /\ i <= us.length /\ v = U /\ (us.take i).any (fun x => decide (x.l.length > 40)) = false) (fun t _ => us.length - t.toNat) ⟨0, rfl, by omega, rfl, rfl⟩ ?_
 rintro t v ⟨i, rfl, hi, rfl, hno⟩
 refine ifD (fun hlt => ?_) fun hge => ?_
 ·have hi' : i < us.length := by omega
  have hx : us[i]? = some us[i] := List.getElem?_eq_getElem hi'
  generalize us[i] = x at hx
  refine h.rdS hx fun s hs => ?_
  rw [hs]
  refine ifD (fun hg => ?_) fun hg => ?_
  ·have : U3 us = true := by
    unfold U3
    rw [Bool.or_eq_true, List.any_eq_true]
    exact .inl ⟨x, List.mem_of_getElem? hx, by simp; omega⟩
   rw [this] at hR; exact hR
  ·refine ar (by omega) (by omega) ⟨⟨i + 1, by omega, by omega, rfl, ?_⟩, by omega⟩
   rw [List.take_add_one, hx, List.any_append, hno]
   simp; omega
 ·have hii : i = us.length := by omega
  subst hii
  rw [List.take_length] at hno
  unfold U3 at hR
  rw [hno, Bool.false_or] at hR
  have e : decide (((sl.len : Nat) : Int) > 40) = decide (us.length > 40) := by rw [decide_eq_decide]; omega
  rw [e]; exact hR
theorem Wef {us : List Act} (h : U3 us = false) : us.length <= 40 /\ ∀ x ∈ us, x.l.length <= 40 := by
 unfold U3 at h
 rw [Bool.or_eq_false_iff, List.any_eq_false] at h
 refine ⟨by simpa using h.2, fun x hx => ?_⟩
 have := h.1 x hx
 simpa using this
def Ke (many : Int) : Nat := (many % 3).toNat + 1
theorem Whs {many : Int} (h0 : 0 <= many) (h1 : many <= 255) {R : Int -> Hp -> Prop} (hR : R (Ke many : Nat) U) : XR.call many U R := by
 refine XR.of_vc ?_
 unfold XR.vc
 refine ar (by omega) (by omega) (nz (by decide) ?_)
 have : ((Ke many : Nat) : Int) = many.tmod 3 + 1 := by unfold Ke; rw [Zy h0]; omega
 rw [← this]
 refine ar (by unfold Ke; omega) (by unfold Ke; omega) hR
def nW (pages : Int) : Nat := 16 * ((pages % 12).toNat + 2)
def Gh (room : Int) : Nat := (room % 9).toNat
def newW (tb : List Cls) (n room m : Nat) : Wd := ⟨tb, QV n, List.replicate m (newA n room tb), []⟩
theorem Wgz {n room : Nat} {tb : List Cls} (h1 : 32 <= n) (h2 : n <= 1024) (h3 : n % 16 = 0) (h6 : tb.length <= 40) (h7 : ∀ c ∈ tb, c.ok) : GA (newA n room tb) /\ ∀ p, (newA n room tb).f p = 0 := by
 have hf : ∀ p, (newA n room tb).f p = 0 := fun p => by
  show (List.replicate n 0).getD p 0 = 0
  rw [List.getD_eq_getElem?_getD, List.getElem?_replicate]; split <;> rfl
 have hcen : ∀ {k : Nat} {ss : List SpA}, (List.replicate tb.length ([] : List SpA))[k]? = some ss -> ss = [] := fun h => by
  rw [List.getElem?_replicate] at h; split at h <;> simp at h; exact h
 have htra : ∀ {k : Nat} {t : TrA}, (List.replicate tb.length (⟨0, []⟩ : TrA))[k]? = some t -> t.bs = [] := fun h => by
  rw [List.getElem?_replicate] at h; split at h <;> simp at h; rw [← h]
 refine ⟨⟨⟨by simp [newA], h1, h2, h3, fun p => by rw [hf]; omega, fun p => by rw [hf]; simp [newA], fun p => by rw [hf]; simp [newA, Go.Bu.emptyS], fun p => by rw [hf, hf]⟩, h6, by simp [newA], by simp [newA], fun k c ss hc => ?_, fun k c ss hc s hs => ?_, fun k c ss hc p => ?_, fun p => ?_, fun p => .inr (Nat.zero_le _), by simp [newA], by simp [newA], fun k t ht => ?_, fun k c ss t hc ht => ?_, fun k c t hc ht => ?_⟩, hf⟩
 ·have e := hcen hc.2; subst e
  exact ⟨h7 c (List.mem_of_getElem? hc.1), by simp, by simp⟩
 ·have e := hcen hc.2; subst e; simp at hs
 ·have e := hcen hc.2; subst e
  constructor
  ·intro h; cases h
  ·rintro ⟨s, hs, _⟩; simp at hs
 ·constructor
  ·intro h; cases h
  ·rintro ⟨r, hr, _⟩; simp [newA] at hr
 ·have := htra ht; rw [this]; exact List.nodup_nil
 ·have := htra ht; rw [this]; simp
 ·have := htra ht; rw [this]; simp
theorem Wg4 {tb : List Cls} {n room m : Nat} (h1 : 32 <= n) (h2 : n <= 1024) (h3 : n % 16 = 0) (h6 : tb.length <= 40) (h7 : ∀ c ∈ tb, c.ok) : WI (newW tb n room m) := by
 obtain ⟨ga, hf⟩ := Wgz (room := room) h1 h2 h3 h6 h7
 have get : ∀ {k : Nat} {A : AR}, (newW tb n room m).ars[k]? = some A -> A = newA n room tb := fun {k A} h => by
  have h : (List.replicate m (newA n room tb))[k]? = some A := h
  rw [List.getElem?_replicate] at h; split at h <;> simp at h; exact h.symm
 have hsp : ∀ p, gf (QV n).st p = 0 := fun p => by
  show (List.replicate n 0).getD p 0 = 0
  rw [List.getD_eq_getElem?_getD, List.getElem?_replicate]; split <;> rfl
 refine ⟨fun k A h => by rw [get h]; exact ga, fun k A h => ?_, fun k A h => by rw [get h]; rfl, fun k A h p hp => by rw [get h]; exact hf p, fun p hp => (hp (hsp p)).elim, fun p k l A B hA hB h1 h2 => ?_, List.nodup_nil, fun p hp => by simp [newW] at hp, fun k A h j y hy => ?_, fun k A h r hr => ?_⟩
 ·rw [get h]
  exact ⟨by simp [newW, QV, newA], fun p hp => (hp (hf p)).elim, fun p hp => by rw [hf p] at hp; omega, fun p => by show gf (QV n).st p <= 2; rw [hsp]; omega⟩
 ·rw [get hA] at h1; exact (h1 (hf p)).elim
 ·rw [get h] at hy
  obtain ⟨c, ss, hc, ht⟩ := hy
  have hss : ss = [] := by
   have h2 := hc.2
   simp only [newA] at h2
   rw [List.getElem?_replicate] at h2; split at h2 <;> simp at h2; exact h2
  subst hss
  obtain ⟨k', s, i, hs, _⟩ := (Kn (ga.cen _ _ _ hc)).1 ht
  simp at hs
 ·rw [get h] at hr; simp [newA] at hr
end Go.Ar