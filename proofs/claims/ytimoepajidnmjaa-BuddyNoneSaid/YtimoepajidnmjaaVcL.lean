/- Proving with the calculus: introduction rules, memory, frames. -/
import Derived.Test.YtimoepajidnmjaaVcI
namespace Go.Vc
open Go
set_option linter.unusedSimpArgs false
set_option linter.unusedVariables false

/-! ## Loops -/
theorem loop0 {start : Fam [] → Prop} {round : Fam [] → Fam []} (I : Hp → Prop) (μ : Hp → Nat) (h0 : start I)
    (hr : ∀ h, I h → round (fun h' => I h' ∧ μ h' < μ h) h) : LoopK [] start round :=
  ⟨I, μ, h0, fun _ h ⟨hi, hm⟩ => hm ▸ hr h hi⟩
theorem loop1 {a : CK} {start : Fam [a] → Prop} {round : Fam [a] → Fam [a]} (I : a.T → Hp → Prop) (μ : a.T → Hp → Nat) (h0 : start I)
    (hr : ∀ x h, I x h → round (fun x' h' => I x' h' ∧ μ x' h' < μ x h) x h) : LoopK [a] start round :=
  ⟨I, μ, h0, fun _ x h ⟨hi, hm⟩ => hm ▸ hr x h hi⟩
theorem loop2 {a bb : CK} {start : Fam [a, bb] → Prop} {round : Fam [a, bb] → Fam [a, bb]} (I : a.T → bb.T → Hp → Prop) (μ : a.T → bb.T → Hp → Nat) (h0 : start I)
    (hr : ∀ x y h, I x y h → round (fun x' y' h' => I x' y' h' ∧ μ x' y' h' < μ x y h) x y h) : LoopK [a, bb] start round :=
  ⟨I, μ, h0, fun _ x y h ⟨hi, hm⟩ => hm ▸ hr x y h hi⟩
theorem loop3 {a bb c : CK} {start : Fam [a, bb, c] → Prop} {round : Fam [a, bb, c] → Fam [a, bb, c]} (I : a.T → bb.T → c.T → Hp → Prop) (μ : a.T → bb.T → c.T → Hp → Nat) (h0 : start I)
    (hr : ∀ x y z h, I x y z h → round (fun x' y' z' h' => I x' y' z' h' ∧ μ x' y' z' h' < μ x y z h) x y z h) : LoopK [a, bb, c] start round :=
  ⟨I, μ, h0, fun _ x y z h ⟨hi, hm⟩ => hm ▸ hr x y z h hi⟩
theorem loop4 {a bb c d : CK} {start : Fam [a, bb, c, d] → Prop} {round : Fam [a, bb, c, d] → Fam [a, bb, c, d]} (I : a.T → bb.T → c.T → d.T → Hp → Prop) (μ : a.T → bb.T → c.T → d.T → Hp → Nat) (h0 : start I)
    (hr : ∀ x y z u h, I x y z u h → round (fun x' y' z' u' h' => I x' y' z' u' h' ∧ μ x' y' z' u' h' < μ x y z u h) x y z u h) : LoopK [a, bb, c, d] start round :=
  ⟨I, μ, h0, fun _ x y z u h ⟨hi, hm⟩ => hm ▸ hr x y z u h hi⟩
theorem loop5 {a bb c d e : CK} {start : Fam [a, bb, c, d, e] → Prop} {round : Fam [a, bb, c, d, e] → Fam [a, bb, c, d, e]} (I : a.T → bb.T → c.T → d.T → e.T → Hp → Prop) (μ : a.T → bb.T → c.T → d.T → e.T → Hp → Nat) (h0 : start I)
    (hr : ∀ x y z u v h, I x y z u v h → round (fun x' y' z' u' v' h' => I x' y' z' u' v' h' ∧ μ x' y' z' u' v' h' < μ x y z u v h) x y z u v h) : LoopK [a, bb, c, d, e] start round :=
  ⟨I, μ, h0, fun _ x y z u v h ⟨hi, hm⟩ => hm ▸ hr x y z u v h hi⟩

/-! ## Small rules -/
theorem nilP {a : Addr} {K : Addr → Prop} (h : K a) : NilP (some a) K := ⟨a, rfl, h⟩
theorem nilP_iff {a : Addr} {K : Addr → Prop} : NilP (some a) K ↔ K a := ⟨fun ⟨_, e, h⟩ => by cases e; exact h, nilP⟩
theorem ldI {k : IntKind} {a : Addr} {h : Hp} {n : Int} {K : Int → Prop} (hc : cell h a = some (.int k n)) (hK : K n) : LdI k a h K := ⟨n, hc, hK⟩
theorem ldB {a : Addr} {h : Hp} {n : Bool} {K : Bool → Prop} (hc : cell h a = some (.bool n)) (hK : K n) : LdB a h K := ⟨n, hc, hK⟩
theorem ldP {a : Addr} {h : Hp} {n : Option Addr} {K : Option Addr → Prop} (hc : cell h a = some (.pointer n)) (hK : K n) : LdP a h K := ⟨n, hc, hK⟩
theorem ldM {a : Addr} {h : Hp} {n : Option Nat} {K : Option Nat → Prop} (hc : cell h a = some (.map n)) (hK : K n) : LdM a h K := ⟨n, hc, hK⟩
theorem ldS {a : Addr} {h : Hp} {x : Option Addr} {n c : Nat} {K : Sl → Prop} (hc : cell h a = some (.slice x n c)) (hK : K ⟨x, n, c⟩) : LdS a h K := ⟨⟨x, n, c⟩, hc, hK⟩
theorem wrap_i64 {e : Int} (h1 : -9223372036854775808 ≤ e) (h2 : e ≤ 9223372036854775807) : IntKind.i64.wrap e = e := by
  unfold IntKind.wrap; simp [IntKind.bits, IntKind.signed]; omega
theorem ar {e : Int} {K : Int → Prop} (h1 : -9223372036854775808 ≤ e) (h2 : e ≤ 9223372036854775807) (hK : K e) : Ar .i64 e K := by
  unfold Ar; rw [wrap_i64 h1 h2]; exact hK
theorem ar_range (e : Int) : -9223372036854775808 ≤ IntKind.i64.wrap e ∧ IntKind.i64.wrap e ≤ 9223372036854775807 := by
  unfold IntKind.wrap; simp [IntKind.bits, IntKind.signed]; omega
theorem nz {y : Int} {A : Prop} (h : y ≠ 0) (hA : A) : Nz y A := ⟨h, hA⟩
theorem nn {y : Int} {A : Prop} (h : 0 ≤ y) (hA : A) : Nn y A := ⟨h, hA⟩
theorem ix {a : Addr} {n : Nat} {i : Int} {sz : Nat} {K : Addr → Prop} (h0 : 0 ≤ i) (h1 : i < (n : Int)) (hK : K (a.add (i.toNat * sz))) : Ix (some a) n i sz K := ⟨a, rfl, h0, h1, hK⟩
theorem iff_ {b : Bool} {A B : Prop} (h1 : b = true → A) (h2 : b = false → B) : If b A B := If.mk h1 h2
theorem ifD {p : Prop} [Decidable p] {A B : Prop} (h1 : p → A) (h2 : ¬ p → B) : If (decide p) A B :=
  If.mk (fun h => h1 (of_decide_eq_true h)) (fun h => h2 (of_decide_eq_false h))
theorem ifT {b : Bool} {A B : Prop} (hb : b = true) (h : A) : If b A B := by subst hb; exact h
theorem ifF {b : Bool} {A B : Prop} (hb : b = false) (h : B) : If b A B := by subst hb; exact h
theorem ifDT {p : Prop} [Decidable p] {A B : Prop} (hp : p) (h : A) : If (decide p) A B := ifT (by simpa using hp) h
theorem ifDF {p : Prop} [Decidable p] {A B : Prop} (hp : ¬ p) (h : B) : If (decide p) A B := ifF (by simpa using hp) h

theorem fdiv_nat (a : Int) (n : Nat) : a.fdiv (2 ^ n) = a / 2 ^ n := Int.fdiv_eq_ediv_of_nonneg _ (Int.le_of_lt (Int.pow_pos (by decide)))
theorem tdiv_nn {a b : Int} (h : 0 ≤ a) : a.tdiv b = a / b := Int.tdiv_eq_ediv_of_nonneg h
theorem tmod_nn {a b : Int} (h : 0 ≤ a) : a.tmod b = a % b := Int.tmod_eq_emod_of_nonneg h

/-! ## Memory -/
/-- Block `b` is a row of cells. -/
def Blk (h : Hp) (b : Nat) (cs : List Value) : Prop := ∃ e, h[b]? = some (.cells cs.toArray e (0, 0))

theorem Blk.lt {h : Hp} {b : Nat} {cs : List Value} (hb : Blk h b cs) : b < h.size := by
  obtain ⟨e, he⟩ := hb
  exact (Array.getElem?_eq_some_iff.1 he).1
theorem Blk.cell {h : Hp} {b o : Nat} {cs : List Value} (hb : Blk h b cs) : cell h ⟨b, o, none⟩ = cs[o]? := by
  obtain ⟨e, he⟩ := hb
  simp [Vc.cell, he]
theorem Blk.frz {h : Hp} {b o : Nat} {cs : List Value} (hb : Blk h b cs) : frz h ⟨b, o, none⟩ = false := by
  obtain ⟨e, he⟩ := hb
  simp [Vc.frz, he]
theorem Blk.set {h : Hp} {b o : Nat} {cs : List Value} (hb : Blk h b cs) (v : Value) : Blk (setc h ⟨b, o, none⟩ v) b (cs.set o v) := by
  obtain ⟨e, he⟩ := hb
  refine ⟨e, ?_⟩
  simp [setc, Array.getElem?_modify, he]
theorem setc_other {h : Hp} {a : Addr} {v : Value} {b : Nat} (hne : b ≠ a.block) : (setc h a v)[b]? = h[b]? := by
  simp only [setc, Array.getElem?_modify]
  rw [if_neg (Ne.symm hne)]
theorem add_lit (b o n : Nat) : Addr.add ⟨b, o, none⟩ n = ⟨b, o + n, none⟩ := Addr.add_lit b o n

/-- Blocks outside `F` are as they were. -/
def Ext (F : Nat → Prop) (h h' : Hp) : Prop := h.size ≤ h'.size ∧ ∀ b, b < h.size → ¬ F b → h'[b]? = h[b]?
def Ext0 (h h' : Hp) : Prop := Ext (fun _ => False) h h'

theorem Ext.refl (F : Nat → Prop) (h : Hp) : Ext F h h := ⟨Nat.le_refl _, fun _ _ _ => rfl⟩
theorem Ext.trans {F : Nat → Prop} {a b c : Hp} (h : Ext F a b) (k : Ext F b c) : Ext F a c :=
  ⟨Nat.le_trans h.1 k.1, fun i hi hf => (k.2 i (Nat.lt_of_lt_of_le hi h.1) hf).trans (h.2 i hi hf)⟩
theorem Ext.mono {F G : Nat → Prop} {a b : Hp} (h : Ext F a b) (hs : ∀ i, i < a.size → F i → G i) : Ext G a b :=
  ⟨h.1, fun i hi hg => h.2 i hi fun hf => hg (hs i hi hf)⟩
theorem Ext0.to {F : Nat → Prop} {a b : Hp} (h : Ext0 a b) : Ext F a b := Ext.mono h fun _ _ h => h.elim
theorem Ext.trans0 {F : Nat → Prop} {a b c : Hp} (h : Ext F a b) (k : Ext0 b c) : Ext F a c := h.trans k.to
theorem Ext.size {F : Nat → Prop} {a b : Hp} (h : Ext F a b) : a.size ≤ b.size := h.1
theorem Ext.push (F : Nat → Prop) (h : Hp) (o : Obj) : Ext F h (h.push o) :=
  ⟨by simp, fun b hb _ => by rw [Array.getElem?_push, if_neg (Nat.ne_of_lt hb)]⟩
theorem Ext.of_only {F : Nat → Prop} {h h' : Hp} {r : Nat} (ho : OnlyB h h' r) (hr : F r) : Ext F h h' :=
  ⟨Nat.le_of_eq ho.1.symm, fun b _ hf => ho.2 b fun e => hf (e ▸ hr)⟩
theorem Ext.setc {F : Nat → Prop} {h : Hp} {a : Addr} {v : Value} (hr : F a.block) : Ext F h (setc h a v) :=
  ⟨Nat.le_of_eq (size_setc h a v).symm, fun b _ hf => setc_other fun e => hf (e ▸ hr)⟩
/-- What a block is, is kept. -/
theorem Ext.at_ {F : Nat → Prop} {h h' : Hp} (e : Ext F h h') {b : Nat} {o : Obj} (hb : h[b]? = some o) (hf : ¬ F b) : h'[b]? = some o := by
  rw [e.2 b (Array.getElem?_eq_some_iff.1 hb).1 hf]; exact hb
theorem Ext.blk {F : Nat → Prop} {h h' : Hp} (e : Ext F h h') {b : Nat} {cs : List Value} (hb : Blk h b cs) (hf : ¬ F b) : Blk h' b cs := by
  obtain ⟨t, ht⟩ := hb
  exact ⟨t, e.at_ ht hf⟩
theorem Ext.mapL {F : Nat → Prop} {h h' : Hp} (e : Ext F h h') {r : Nat} {k : IntKind} {c : CK} {l : List (Int × c.T)} (hb : MapL h r k c l) (hf : ¬ F r) : MapL h' r k c l := by
  obtain ⟨es, clk, hr, rest⟩ := hb
  exact ⟨es, clk, e.at_ hr hf, rest⟩
theorem MapL.lt {h : Hp} {r : Nat} {k : IntKind} {c : CK} {l : List (Int × c.T)} (hb : MapL h r k c l) : r < h.size := by
  obtain ⟨es, clk, hr, _⟩ := hb
  exact (Array.getElem?_eq_some_iff.1 hr).1
theorem MapL.nodup {h : Hp} {r : Nat} {k : IntKind} {c : CK} {l : List (Int × c.T)} (hb : MapL h r k c l) : (l.map (·.1)).Nodup := by
  obtain ⟨es, clk, hr, _, hn, _⟩ := hb
  exact hn
theorem only_blk {h h' : Hp} {r b : Nat} {cs : List Value} (ho : OnlyB h h' r) (hb : Blk h b cs) (hne : b ≠ r) : Blk h' b cs := by
  obtain ⟨t, ht⟩ := hb
  exact ⟨t, by rw [ho.2 b hne]; exact ht⟩
theorem only_mapL {h h' : Hp} {r b : Nat} {k : IntKind} {c : CK} {l : List (Int × c.T)} (ho : OnlyB h h' r) (hb : MapL h b k c l) (hne : b ≠ r) : MapL h' b k c l := by
  obtain ⟨es, clk, hr, rest⟩ := hb
  exact ⟨es, clk, by rw [ho.2 b hne]; exact hr, rest⟩

/-- A slice of one-cell elements: its elements, in a block that is known. -/
def SlV (h : Hp) (s : Sl) (xs : List Value) : Prop :=
  s.len = xs.length ∧ (xs = [] ∧ s.a = none ∨ ∃ b o cs, s.a = some ⟨b, o, none⟩ ∧ Blk h b cs ∧ ∀ j, j < xs.length → cs[o + j]? = xs[j]?)
/-- Slices that the call may append to: a block of its own, or nil. -/
def OwnV (h : Hp) (s : Sl) (xs : List Value) : Prop :=
  s.len = xs.length ∧ (xs = [] ∧ s.a = none ∧ s.cap = 0 ∨ ∃ b cs, s.a = some ⟨b, 0, none⟩ ∧ Blk h b cs ∧ cs.length = s.cap ∧ s.len ≤ s.cap ∧ cs.take xs.length = xs)

end Go.Vc
