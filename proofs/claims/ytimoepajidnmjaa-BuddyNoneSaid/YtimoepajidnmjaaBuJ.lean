/- The examples of the chapter hold. -/
import Derived.Test.YtimoepajidnmjaaBuI
namespace Go.Bu
open Go Go.Vc Go.Proofs
set_option linter.unusedSimpArgs false
set_option linter.unusedVariables false

variable {σ : Hp} {p n sb : Nat} {S : Nat → Bool} {ms : List Nat}

def ofL (l : List Bool) : Nat → Bool := fun p => l.getD p false
theorem ofL_eq {S : Nat → Bool} {l : List Bool} (h : ∀ p, p < l.length → S p = l.getD p false) (hb : ∀ p, l.length ≤ p → S p = false) : S = ofL l := by
  funext p
  rcases Nat.lt_or_ge p l.length with h1 | h1
  · exact h p h1
  · rw [hb p h1]; simp [ofL, List.getD_eq_getElem?_getD, List.getElem?_eq_none h1]
theorem take_of {l l' : List Bool} {a b : Nat} (hl : l'.length = l.length) (h : ∀ p, p < l'.length → take (ofL l) a b p = l'.getD p false) : take (ofL l) a b = ofL l' :=
  ofL_eq h fun p hp => by simp [take, ofL, List.getD_eq_getElem?_getD, List.getElem?_eq_none (show l.length ≤ p by omega)]
theorem give_of {l l' : List Bool} {a b : Nat} (hl : l'.length = l.length) (hb : b ≤ l.length) (h : ∀ p, p < l'.length → give (ofL l) a b p = l'.getD p false) : give (ofL l) a b = ofL l' :=
  ofL_eq h fun p hp => by
    have : ¬ p < b := by omega
    simp [give, ofL, List.getD_eq_getElem?_getD, List.getElem?_eq_none (show l.length ≤ p by omega), this]
theorem empty_of : emptyS = ofL (List.replicate 16 false) := ofL_eq (by decide) fun p hp => rfl

def e0 : List Bool := List.replicate 16 false
def e1 : List Bool := List.replicate 16 true
def e2 : List Bool := List.replicate 3 false ++ List.replicate 13 true
def e3 : List Bool := List.replicate 3 false ++ [true] ++ List.replicate 2 false ++ List.replicate 10 true
def e4 : List Bool := List.replicate 6 false ++ List.replicate 10 true
def e5 : List Bool := List.replicate 4 false ++ List.replicate 12 true

theorem s1 : giveS 16 emptyS 0 16 = ofL e1 ∧ giveE 16 emptyS 0 16 = 0 := by
  rw [empty_of]
  have h1 : (runOk 16 0 16 && noneF (ofL e0) (0 : Int).toNat (16 : Int).toNat) = true := by decide +kernel
  constructor
  · unfold giveS
    rw [show List.replicate 16 false = e0 from rfl, if_pos h1]
    exact give_of rfl (by decide) (by decide +kernel)
  · decide +kernel
theorem s2 : takeS 16 (ofL e1) 3 1 = ofL e2 ∧ takeE 16 (ofL e1) 3 1 = 0 ∧ takeV 16 (ofL e1) 3 1 = 0 := by
  have h1 : takeArg 3 1 = true := by decide +kernel
  have h2 : takeAt 16 (ofL e1) (3 : Int).toNat (1 : Int).toNat = some 0 := by decide +kernel
  refine ⟨?_, ?_, ?_⟩
  · simp only [takeS, h1, h2, if_true]
    exact take_of rfl (by decide +kernel)
  · simp only [takeE, h1, h2, if_true]
  · simp only [takeV, h1, h2, if_true]
theorem s3 : takeS 16 (ofL e2) 2 4 = ofL e3 ∧ takeE 16 (ofL e2) 2 4 = 0 ∧ takeV 16 (ofL e2) 2 4 = 4 := by
  have h1 : takeArg 2 4 = true := by decide +kernel
  have h2 : takeAt 16 (ofL e2) (2 : Int).toNat (4 : Int).toNat = some 4 := by decide +kernel
  refine ⟨?_, ?_, ?_⟩
  · simp only [takeS, h1, h2, if_true]
    exact take_of rfl (by decide +kernel)
  · simp only [takeE, h1, h2, if_true]
  · simp only [takeV, h1, h2, if_true]
theorem s4 : takeS 16 (ofL e3) 1 1 = ofL e4 ∧ takeE 16 (ofL e3) 1 1 = 0 ∧ takeV 16 (ofL e3) 1 1 = 3 := by
  have h1 : takeArg 1 1 = true := by decide +kernel
  have h2 : takeAt 16 (ofL e3) (1 : Int).toNat (1 : Int).toNat = some 3 := by decide +kernel
  refine ⟨?_, ?_, ?_⟩
  · simp only [takeS, h1, h2, if_true]
    exact take_of rfl (by decide +kernel)
  · simp only [takeE, h1, h2, if_true]
  · simp only [takeV, h1, h2, if_true]
theorem s5 : giveS 16 (ofL e4) 4 2 = ofL e5 ∧ giveE 16 (ofL e4) 4 2 = 0 := by
  have h1 : (runOk 16 4 2 && noneF (ofL e4) (4 : Int).toNat (2 : Int).toNat) = true := by decide +kernel
  constructor
  · simp only [giveS, h1, if_true]
    exact give_of rfl (by decide) (by decide +kernel)
  · decide +kernel
theorem s6 : giveE 16 (ofL e5) 4 1 = 9 := by decide +kernel
theorem b1 : blocksI 16 (ofL e1) 4 = [0] := by decide +kernel
theorem b2 : blocksI 16 (ofL e2) 0 = [3] := by decide +kernel
theorem b3 : blocksI 16 (ofL e2) 2 = [4] := by decide +kernel
theorem b4 : blocksI 16 (ofL e2) 3 = [8] := by decide +kernel

theorem intsLit {B : Nat} {s : Sl} {x : Nat} {t : Nat} (hs : SlF B σ s (ints [x])) {R : Bool → Hp → Prop} (hR : ∀ σ', Ext0 σ σ' → R true σ') :
    Nw (.cells #[.int .i64 (x : Int)] t (0, 0)) σ fun n56 v30 => freeholdref01_Ints.call s ⟨(some n56), 1, 1⟩ v30 R := by
  unfold Nw
  have e := ext_push σ (.cells #[.int .i64 (x : Int)] t (0, 0))
  refine Ints_ok (hs.keep0 e) (lit_one σ x t) (by simp) ?_
  rw [decide_eq_true rfl]
  exact hR _ e

theorem alive_ok {R : Bool → Hp → Prop} (hR : ∀ σ', Ext0 σ σ' → R true σ') : freeholdlaw03_alive.call σ R := by
  refine freeholdlaw03_alive.of_vc ?_
  unfold freeholdlaw03_alive.vc
  refine New_ok _ (fun h => (h (by omega)).elim) fun n hn _ _ h0 sb ms ex0 hB0 hF => ?_
  have : n = 16 := by omega
  subst this
  have fresh : ∀ b, b ∈ ms → σ.size ≤ b := fun b hb => hF b (mem_fp hb)
  have low := hB0.ms_lt
  refine JnB.intro (ifF rfl (ifF rfl ?_))
  refine Give_ok hB0 _ _ fun h1 ex1 hB1 => ?_
  rw [s1.1] at hB1; rw [s1.2]
  have k1 := Ext.fresh ex0 ex1 fresh
  have g1 := ex1.1
  refine Blocks_ok hB1 _ fun l h2 x2 hl => ?_
  rw [b1] at hl
  have k2 := k1.trans x2
  have g2 := x2.1
  refine Take_ok (hB1.keep0 x2) _ _ fun h3 x3 hB3 => ?_
  rw [s2.1] at hB3; rw [s2.2.1, s2.2.2]
  have k3 := Ext.fresh k2 x3 fresh
  have g3 := x3.1
  have hl3 := hl.keep x3 (fun b hb => by have := low b hb; omega)
  refine Blocks_ok hB3 _ fun m h4 x4 hm => ?_
  rw [b2] at hm
  have k4 := k3.trans x4
  have g4 := x4.1
  have hB4 := hB3.keep0 x4
  refine Blocks_ok hB4 _ fun c h5 x5 hc => ?_
  rw [b3] at hc
  have k5 := k4.trans x5
  have g5 := x5.1
  have hB5 := hB4.keep0 x5
  refine Blocks_ok hB5 _ fun d h6 x6 hd => ?_
  rw [b4] at hd
  have k6 := k5.trans x6
  have g6 := x6.1
  have hB6 := hB5.keep0 x6
  have hl6 := ((hl3.keep0 x4).keep0 x5).keep0 x6
  have hm6 := (hm.keep0 x5).keep0 x6
  have hc6 := hc.keep0 x6
  refine Take_ok hB6 _ _ fun h7 x7 hB7 => ?_
  rw [s3.1] at hB7; rw [s3.2.1, s3.2.2]
  have k7 := Ext.fresh k6 x7 fresh
  have g7 := x7.1
  refine Take_ok hB7 _ _ fun h8 x8 hB8 => ?_
  rw [s4.1] at hB8; rw [s4.2.1, s4.2.2]
  have k8 := Ext.fresh k7 x8 fresh
  have g8 := x8.1
  refine Give_ok hB8 _ _ fun h9 x9 hB9 => ?_
  rw [s5.1] at hB9; rw [s5.2]
  have k9 := Ext.fresh k8 x9 fresh
  have x69 := (x7.trans x8).trans x9
  have hl9 := hl6.keep x69 (fun b hb => by have := low b hb; omega)
  have hm9 := hm6.keep x69 (fun b hb => by have := low b hb; omega)
  have hc9 := hc6.keep x69 (fun b hb => by have := low b hb; omega)
  have hd9 := hd.keep x69 (fun b hb => by have := low b hb; omega)
  refine JnB.intro (ifT rfl ?_)
  refine intsLit hl9 fun ha xa => ?_
  refine JnB.intro (ifT rfl (JnB.intro (ifT rfl (JnB.intro (ifT rfl ?_)))))
  refine intsLit (hm9.keep0 xa) fun hb xb => ?_
  refine JnB.intro (ifT rfl ?_)
  refine intsLit ((hc9.keep0 xa).keep0 xb) fun hc' xc => ?_
  refine JnB.intro (ifT rfl ?_)
  refine intsLit (((hd9.keep0 xa).keep0 xb).keep0 xc) fun hd' xd => ?_
  have kd := (((k9.trans xa).trans xb).trans xc).trans xd
  refine JnB.intro (ifT rfl (JnB.intro (ifT rfl (JnB.intro (ifT rfl (JnB.intro (ifT rfl (JnB.intro (ifT rfl (JnB.intro (ifT rfl ?_)))))))))))
  have hBd := ((((hB9.keep0 xa).keep0 xb).keep0 xc).keep0 xd)
  refine Give_ok hBd _ _ fun hz xz hBz => ?_
  rw [s6]
  exact hR _ (Ext.fresh kd xz fresh)

end Go.Bu
