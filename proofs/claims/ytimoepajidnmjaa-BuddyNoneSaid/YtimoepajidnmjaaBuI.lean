/- What the laws of the buddy heap share: a call, a heap that is made and called, two heaps that are alike, the chapter's examples. -/
import Derived.Test.YtimoepajidnmjaaBuH
import Derived.Test.YtimoepajidnmjaaVcY
namespace Go.Bu
open Go Go.Vc Go.Proofs
set_option linter.unusedSimpArgs false
set_option linter.unusedVariables false

variable {σ : Hp} {p n sb : Nat} {S : Nat → Bool} {ms : List Nat}

theorem BH.ms_lt (h : BH σ p n S sb ms) : ∀ m ∈ ms, m < σ.size := by
  intro m hm
  obtain ⟨k, hk⟩ := List.getElem?_of_mem hm
  obtain ⟨B, hB, _⟩ := h.maps k m hk
  exact hB.lt
theorem BH.p_lt (h : BH σ p n S sb ms) : p < σ.size := by obtain ⟨_, hb⟩ := h.hd; exact hb.lt
theorem BH.sb_lt (h : BH σ p n S sb ms) : sb < σ.size := by obtain ⟨_, hb⟩ := h.row; exact hb.lt
theorem BH.fp_lt (h : BH σ p n S sb ms) {b : Nat} (hb : fp p sb ms b) : b < σ.size := by
  simp only [fp, List.mem_cons] at hb
  rcases hb with rfl | rfl | hm
  · exact h.p_lt
  · exact h.sb_lt
  · exact h.ms_lt b hm

/-- What a call does. -/
def doS (n : Nat) (S : Nat → Bool) (x : Int × Int × Int) : Nat → Bool := if x.1 = 0 then giveS n S x.2.1 x.2.2 else if x.1 = 1 then takeS n S x.2.1 x.2.2 else if x.1 = 2 then runS n S x.2.1 x.2.2 else S
def doE (n : Nat) (S : Nat → Bool) (x : Int × Int × Int) : Int := if x.1 = 0 then giveE n S x.2.1 x.2.2 else if x.1 = 1 then takeE n S x.2.1 x.2.2 else if x.1 = 2 then runE n S x.2.1 x.2.2 else 0

theorem do_ok (h : BH σ p n S sb ms) (x y z : Int) {R : Int → Hp → Prop} (hR : ∀ σ', Ext (· ∈ ms) σ σ' → BH σ' p n (doS n S (x, y, z)) sb ms → R (doE n S (x, y, z)) σ') : freeholdlaw03_do.call (some ⟨p, 0, none⟩) x y z σ R := by
  refine freeholdlaw03_do.of_vc ?_
  unfold freeholdlaw03_do.vc Nw
  have hb := Blk.push σ [.int .i64 x, .int .i64 y, .int .i64 z] 44
  have e0 := ext_push σ (.cells #[.int .i64 x, .int .i64 y, .int .i64 z] 44 (0, 0))
  have h1 := h.keep0 e0
  have c0 := hb.cell (o := 0)
  have c1 := hb.cell (o := 1)
  have c2 := hb.cell (o := 2)
  refine ldI0 c0 ?_
  refine iff_ (fun he => ?_) (fun he => ?_)
  · have hx : x = 0 := by simpa using he
    subst hx
    refine ldI0 c1 (ldI0 c2 (Give_ok h1 _ _ fun σ' e hB => ?_))
    have := hR σ' (e0.to.trans e)
    simp only [doS, doE, if_true] at this
    exact this hB
  · have hx : ¬ x = 0 := by simpa using he
    refine iff_ (fun he1 => ?_) (fun he1 => ?_)
    · have hx1 : x = 1 := by simpa using he1
      refine ldI0 c1 (ldI0 c2 (Take_ok h1 _ _ fun σ' e hB => ?_))
      have := hR σ' (e0.to.trans e)
      simp only [doS, doE, if_neg hx, if_pos hx1] at this
      exact this hB
    · have hx1 : ¬ x = 1 := by simpa using he1
      refine iff_ (fun he2 => ?_) (fun he2 => ?_)
      · have hx2 : x = 2 := by simpa using he2
        refine ldI0 c1 (ldI0 c2 (TakeRun_ok h1 _ _ fun σ' e hB => ?_))
        have := hR σ' (e0.to.trans e)
        simp only [doS, doE, if_neg hx, if_neg hx1, if_pos hx2] at this
        exact this hB
      · have hx2 : ¬ x = 2 := by simpa using he2
        have := hR _ e0.to
        simp only [doS, doE, if_neg hx, if_neg hx1, if_neg hx2] at this
        exact this h1

theorem cell_ext {h h' : Hp} {F : Nat → Prop} (e : Ext F h h') {b o : Nat} (hb : b < h.size) (hF : ¬ F b) : cell h' ⟨b, o, none⟩ = cell h ⟨b, o, none⟩ := by
  unfold cell
  rw [e.2 b hb hF]
theorem acts_keep {h h' : Hp} {l : Sl} {xs : List (Int × Int × Int)} {F : Nat → Prop} (ha : Acts h l xs) (e : Ext F h h') (hF : ∀ b, F b → ∀ o, l.a ≠ some ⟨b, o, none⟩) : Acts h' l xs := by
  refine ⟨ha.1, fun i x y z hx => ?_⟩
  obtain ⟨b, o, h1, h2, h3, h4, h5⟩ := ha.2 i x y z hx
  have hn : ¬ F b := fun hf => hF b hf o h1
  exact ⟨b, o, h1, Nat.lt_of_lt_of_le h2 e.1, by rw [cell_ext e h2 hn]; exact h3, by rw [cell_ext e h2 hn]; exact h4, by rw [cell_ext e h2 hn]; exact h5⟩
theorem acts_keep0 {h h' : Hp} {l : Sl} {xs : List (Int × Int × Int)} (ha : Acts h l xs) (e : Ext0 h h') : Acts h' l xs := acts_keep ha e fun _ h => h.elim

/-- An element of the list, read. -/
theorem acts_rd {h : Hp} {l : Sl} {xs : List (Int × Int × Int)} (ha : Acts h l xs) {i : Nat} {x y z : Int} (hx : xs[i]? = some (x, y, z)) {K : Int → Int → Int → Prop} (hK : K x y z) :
    Ix l.a l.len (i : Int) 3 fun a => LdI .i64 (a.add 0) h fun u => LdI .i64 (a.add 1) h fun v => LdI .i64 (a.add 2) h fun w => K u v w := by
  obtain ⟨b, o, h1, h2, h3, h4, h5⟩ := ha.2 i x y z hx
  have hi := (List.getElem?_eq_some_iff.1 hx).1
  rw [h1]
  refine ix (by omega) (by rw [ha.1]; omega) ?_
  rw [add_lit]
  refine ldI0 (by simpa using h3) (ldI0 (by simpa using h4) (ldI0 (by simpa using h5) hK))

def playS (n : Nat) (S : Nat → Bool) (xs : List (Int × Int × Int)) : Nat → Bool := xs.foldl (doS n) S

theorem madeLaw_ok {l : Sl} {xs : List (Int × Int × Int)} {pages : Nat} (ha : Acts σ l xs) (hp : pages < 65536) {R : Option Addr → Hp → Prop}
    (hl : xs.length < 1000000000)
    (hR : ∀ σ' q sb ms, Ext0 σ σ' → BH σ' q (pages % 1024 + 1) (playS (pages % 1024 + 1) emptyS xs) sb ms → (∀ b, fp q sb ms b → σ.size ≤ b) → R (some ⟨q, 0, none⟩) σ') : freeholdlaw03_made.call (pages : Int) l σ R := by
  refine freeholdlaw03_made.of_vc ?_
  unfold freeholdlaw03_made.vc
  refine arN (m := pages) rfl (by omega) (nz (by decide) ?_)
  have hm : ((pages : Int).tmod 1024) = ((pages % 1024 : Nat) : Int) := by rw [tmod_nn (by omega)]; simp
  have hlt := Nat.mod_lt pages (show 0 < 1024 by decide)
  refine arN (m := pages % 1024 + 1) (by rw [hm]; omega) (by omega) ?_
  obtain ⟨N, hNe⟩ : ∃ N, pages % 1024 + 1 = N := ⟨_, rfl⟩
  rw [hNe] at hR ⊢
  have hN : 1 ≤ N ∧ N ≤ 1024 := by omega
  refine New_ok _ (fun hbad => (hbad (by omega)).elim) fun n hn n1 n2 σ' sb ms e hB hF => ?_
  have : n = N := by omega
  subst this
  refine ifF rfl ?_
  refine loop1 (a := .i .i64) (fun (t : Int) h => ∃ i : Nat, t = (i : Int) ∧ i ≤ xs.length ∧ Ext0 σ h ∧ BH h σ.size n (playS n emptyS (xs.take i)) sb ms) (fun t _ => xs.length - t.toNat) ⟨0, rfl, by omega, e, hB⟩ ?_
  rintro t h ⟨i, rfl, hi, hE, hBi⟩
  have hA := acts_keep0 ha hE
  have hlen := ha.1
  refine ifD (fun hlt => ?_) (fun hge => ?_)
  · have hi' : i < xs.length := by omega
    obtain ⟨⟨x, y, z⟩, hx⟩ : ∃ t, xs[i] = t := ⟨_, rfl⟩
    have hx' : xs[i]? = some (x, y, z) := by rw [List.getElem?_eq_getElem hi', hx]
    refine acts_rd hA hx' (do_ok hBi x y z fun h2 e2 hB2 => ?_)
    refine arN (m := i + 1) (by omega) (by omega) ⟨⟨i + 1, rfl, by omega, Ext.fresh hE e2 (fun b hb => hF b (mem_fp hb)), ?_⟩, by omega⟩
    rw [List.take_add_one, hx']
    simp only [playS, Option.toList_some, List.foldl_append, List.foldl_cons, List.foldl_nil]
    exact hB2
  · have : i = xs.length := by omega
    subst this
    rw [List.take_length] at hBi
    exact hR h σ.size sb ms hE hBi hF

theorem great_ok {l : Sl} {R : Bool → Hp → Prop} (hR : R (decide (40 < l.len)) σ) : freeholdlaw03_great.call l σ R := by
  refine freeholdlaw03_great.of_vc ?_
  unfold freeholdlaw03_great.vc
  have : decide (((l.len : Nat) : Int) > 40) = decide (40 < l.len) := by
    rw [decide_eq_decide]; omega
  rw [this]; exact hR

theorem blocks_lt (hb : Bounded S n) (k : Int) : (blocksI n S k).length ≤ n := by
  unfold blocksI
  split
  · rw [blocks_len]
    exact Nat.le_trans List.countP_le_length (by simp)
  · simp

/-- Two heaps with the same free pages are alike. -/
theorem alike_ok {q sb' : Nat} {ms' : List Nat} (ha : BH σ p n S sb ms) (hb : BH σ q n S sb' ms') {R : Bool → Hp → Prop} (hR : ∀ σ', Ext0 σ σ' → R true σ') : freeholdlaw03_alike.call (some ⟨p, 0, none⟩) (some ⟨q, 0, none⟩) σ R := by
  refine freeholdlaw03_alike.of_vc ?_
  unfold freeholdlaw03_alike.vc
  have n2 := ha.n2
  refine loop1 (a := .i .i64) (fun (t : Int) h => ∃ k : Nat, t = (k : Int) ∧ k ≤ 11 ∧ Ext0 σ h) (fun t _ => 11 - t.toNat) ⟨0, rfl, by omega, Ext.refl _ _⟩ ?_
  rintro t h ⟨k, rfl, hk, hE⟩
  refine ifD (fun hle => ?_) (fun hgt => ?_)
  · refine Blocks_ok (ha.keep0 hE) _ fun s1 h1 e1 hs1 => ?_
    refine Blocks_ok (hb.keep0 (hE.trans e1)) _ fun s2 h2 e2 hs2 => ?_
    have := blocks_lt ha.bnd (k : Int)
    refine Ints_ok (hs1.keep0 e2) hs2 (by omega) ?_
    rw [decide_eq_true rfl]
    exact ifF rfl (arN (m := k + 1) (by omega) (by omega) ⟨⟨k + 1, rfl, by omega, (hE.trans e1).trans e2⟩, by omega⟩)
  · have hl1 := ha.keep0 hE
    have hl2 := hb.keep0 hE
    have hlen : ms.length = ms'.length := by
      rcases Nat.lt_trichotomy ms.length ms'.length with h | h | h
      · have h1 := ha.hi; have h2 := hb.lo
        have : 2 ^ (ms.length + 1) ≤ 2 ^ ms'.length := Nat.pow_le_pow_right (by decide) (by omega)
        rw [Nat.pow_succ] at this; omega
      · exact h
      · have h1 := hb.hi; have h2 := ha.lo
        have : 2 ^ (ms'.length + 1) ≤ 2 ^ ms.length := Nat.pow_le_pow_right (by decide) (by omega)
        rw [Nat.pow_succ] at this; omega
    refine Free_ok hl1 (Free_ok hl2 (JnB.intro ?_))
    refine ifT (by simp) ?_
    refine Order_ok hl1 (Order_ok hl2 ?_)
    rw [hlen]
    refine JnB.intro (ifT (by simp) ?_)
    refine Runs_ok hl1 fun s1 h1 e1 hs1 => Runs_ok (hl2.keep0 e1) fun s2 h2 e2 hs2 => ?_
    have := runs_len S n
    refine RunsEq_ok (hs1.keep0 e2) hs2 (by omega) ?_
    rw [decide_eq_true rfl]
    exact hR _ ((hE.trans e1).trans e2)

/-- A list of one number, written out. -/
theorem lit_one (h : Hp) (x : Nat) (e : Nat) : SlF 0 (h.push (.cells #[.int .i64 (x : Int)] e (0, 0))) ⟨some ⟨h.size, 0, none⟩, 1, 1⟩ (ints [x]) :=
  ⟨rfl, .inr ⟨h.size, [.int .i64 (x : Int)], Nat.zero_le _, rfl, Blk.push _ _ _, fun j hj => rfl⟩⟩

end Go.Bu
