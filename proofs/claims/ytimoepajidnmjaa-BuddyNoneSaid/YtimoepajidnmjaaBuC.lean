/- Contracts of the buddy heap's functions, I: what reads, joins and cuts free blocks. -/
import Derived.Test.YtimoepajidnmjaaBuB
import Derived.Test.YtimoepajidnmjaaG0
import Derived.Test.YtimoepajidnmjaaG1
import Derived.Test.YtimoepajidnmjaaG2
namespace Go.Bu
open Go Go.Vc Go.Proofs
set_option linter.unusedSimpArgs false
set_option linter.unusedVariables false

variable {σ : Hp} {p n sb : Nat} {S : Nat → Bool} {ms : List Nat}

/-! ## Rules -/
theorem ldI0 {k : IntKind} {b o i : Nat} {h : Hp} {x : Int} {K : Int → Prop} (hc : cell h ⟨b, o + i, none⟩ = some (.int k x)) (hK : K x) : LdI k (Addr.add ⟨b, o, none⟩ i) h K := by
  rw [add_lit]; exact ldI hc hK
theorem arN {e : Int} {m : Nat} {K : Int → Prop} (he : e = (m : Int)) (hm : m ≤ 4611686018427387904) (hK : K (m : Int)) : Ar .i64 e K := by
  rw [he]; exact ar (by omega) (by omega) hK
theorem min_bits {k : Nat} (h : k ≤ 62) : min ((k : Int).toNat) IntKind.i64.bits = k := by
  have : IntKind.i64.bits = 64 := rfl
  rw [this]; omega
theorem shl1 {k : Nat} {K : Int → Prop} (hk : k ≤ 62) (hK : K ((2 ^ k : Nat) : Int)) : Nn (k : Int) (Ar .i64 (1 * 2 ^ (min (k : Int).toNat IntKind.i64.bits)) K) := by
  refine nn (by omega) ?_
  rw [min_bits hk]
  exact arN (by simp) (pow_small hk) hK
theorem shlA {a k : Nat} {K : Int → Prop} (hk : k ≤ 62) (ha : a * 2 ^ k ≤ 4611686018427387904) (hK : K ((a * 2 ^ k : Nat) : Int)) : Ar .i64 ((a : Int) * 2 ^ (min (k : Int).toNat IntKind.i64.bits)) K := by
  rw [min_bits hk]
  exact arN (by simp) ha hK
theorem shrl {x k j : Nat} {K : Int → Prop} (hj : j = k) (hk : k ≤ 62) (hx : x ≤ 4611686018427387904) (hK : K ((x / 2 ^ k * 2 ^ k : Nat) : Int)) :
    Ar .i64 (((x : Int).fdiv (2 ^ (min (k : Int).toNat IntKind.i64.bits))) * 2 ^ (min (j : Int).toNat IntKind.i64.bits)) K := by
  subst hj
  rw [min_bits hk, fdiv_nat]
  refine arN (by simp) ?_ hK
  exact Nat.le_trans (Nat.div_mul_le_self _ _) hx

theorem BH.rN (h : BH σ p n S sb ms) {K : Int → Prop} (hK : K (n : Int)) : LdI .i64 (Addr.add ⟨p, 0, none⟩ 0) σ K := ldI0 h.ldN hK
theorem BH.rB (h : BH σ p n S sb ms) {K : Sl → Prop} (hK : ∀ cap, K ⟨some ⟨sb, 0, none⟩, ms.length, cap⟩) : LdS (Addr.add ⟨p, 0, none⟩ 1) σ K := by
  obtain ⟨cap, hc⟩ := h.ldB
  rw [add_lit]; exact ldS hc (hK cap)
theorem BH.rM (h : BH σ p n S sb ms) {k m : Nat} (hm : ms[k]? = some m) {K : Option Nat → Prop} (hK : K (some m)) : Ix (some ⟨sb, 0, none⟩) ms.length (k : Int) 1 fun a => LdM a σ K := by
  refine ix (by omega) (by have := (List.getElem?_eq_some_iff.1 hm).1; omega) ?_
  rw [add_lit]
  refine ldM ?_ hK
  have := h.ldR hm
  simpa using this

/-! ## Contracts -/
theorem made_ok (h : BH σ p n S sb ms) {R : Bool → Hp → Prop} (hR : R true σ) : buddy_Heap_made.call (some ⟨p, 0, none⟩) σ R := by
  refine buddy_Heap_made.of_vc ?_
  unfold buddy_Heap_made.vc
  refine JnB.intro (ifT rfl (nilP (h.rN ?_)))
  have := h.n1
  rw [decide_eq_true (by omega)]
  exact hR
theorem made_nil {R : Bool → Hp → Prop} (hR : R false σ) : buddy_Heap_made.call none σ R := by
  refine buddy_Heap_made.of_vc ?_
  unfold buddy_Heap_made.vc
  exact JnB.intro (ifF rfl hR)

def runOk (n : Nat) (start pages : Int) : Bool := decide (0 ≤ start) && (decide (1 ≤ pages) && decide (pages ≤ n - start))

theorem check_ok (h : BH σ p n S sb ms) (start pages : Int) {R : Int → Hp → Prop} (h0 : runOk n start pages = true → R 0 σ) (h1 : runOk n start pages = false → R 1 σ) : buddy_Heap_check.call (some ⟨p, 0, none⟩) start pages σ R := by
  refine buddy_Heap_check.of_vc ?_
  unfold buddy_Heap_check.vc
  have bad : ¬ (0 ≤ start ∧ 1 ≤ pages ∧ pages ≤ n - start) → R 1 σ := fun hn => h1 (by simp only [runOk, ← Bool.decide_and]; exact decide_eq_false hn)
  have n1 := h.n1
  have n2 := h.n2
  refine made_ok h (ifF rfl (JnB.intro ?_))
  refine ifD (fun h1 => JnB.intro (ifT rfl (JnB.intro (ifT rfl (ifT rfl (bad (by omega))))))) fun h1 => ?_
  refine JnB.intro (ifD (fun h2 => JnB.intro (ifT rfl (ifT rfl (bad (by omega))))) fun h2 => ?_)
  refine nilP (h.rN ?_)
  refine JnB.intro (ifD (fun h3 => ifT rfl (bad (by omega))) fun h3 => ?_)
  refine nilP (h.rN (ar (by omega) (by omega) ?_))
  refine ifD (fun h4 => bad (by omega)) fun h4 => h0 ?_
  simp only [runOk, Bool.and_eq_true, decide_eq_true_eq]
  omega

theorem covered_ok (h : BH σ p n S sb ms) (x : Nat) (hx : x ≤ 4611686018427387904) {R : Int → Int → Bool → Hp → Prop}
    (h1 : ∀ k q, can S k q = true → x / 2 ^ k = q → R (k : Int) ((q * 2 ^ k : Nat) : Int) true σ) (h0 : S x = false → R 0 0 false σ) : buddy_Heap_covered.call (some ⟨p, 0, none⟩) (x : Int) σ R := by
  refine buddy_Heap_covered.of_vc ?_
  unfold buddy_Heap_covered.vc
  refine nilP (h.rB fun cap => ?_)
  refine loop1 (a := .i .i64) (fun t h' => ∃ k : Nat, t = (k : Int) ∧ k ≤ ms.length ∧ h' = σ ∧ ∀ j, j < k → can S j (x / 2 ^ j) = false) (fun t _ => ms.length - t.toNat) ⟨0, rfl, by omega, rfl, fun j hj => by omega⟩ ?_
  rintro t h' ⟨k, rfl, hk, rfl, hall⟩
  have hl := h.len
  refine ifD (fun hlt => ?_) (fun hge => ?_)
  · simp only at hlt
    obtain ⟨m, hm⟩ := h.get (k := k) (by omega)
    refine h.rM hm (nn (by omega) (nn (by omega) (shrl rfl (by omega) hx (h.lk hm rfl ?_))))
    cases hc : can S k (x / 2 ^ k)
    · refine ifF (by simp) (arN (m := k + 1) (by omega) (by omega) ?_)
      refine ⟨⟨k + 1, rfl, by omega, rfl, fun j hj => ?_⟩, by omega⟩
      by_cases e : j = k
      · rw [e]; exact hc
      · exact hall j (by omega)
    · exact ifT (by simp) (h1 k _ hc rfl)
  · simp only at hge
    refine h0 ?_
    cases hs : S x
    · rfl
    · obtain ⟨j, hj⟩ := can_exists h.bnd hs
      have := h.fits (full_bound h.bnd (can_iff.1 hj).1)
      rw [hall j (by omega)] at hj
      cases hj

/-- Is the page (any whole number) free? -/
def isF (S : Nat → Bool) (x : Int) : Bool := decide (0 ≤ x) && S x.toNat
theorem isFree_ok (h : BH σ p n S sb ms) (x : Int) {R : Bool → Hp → Prop} (hR : R (isF S x) σ) : buddy_Heap_IsFree.call (some ⟨p, 0, none⟩) x σ R := by
  refine buddy_Heap_IsFree.of_vc ?_
  unfold buddy_Heap_IsFree.vc
  have n2 := h.n2
  refine made_ok h (JnB.intro (ifF rfl ?_))
  refine JnB.intro (ifD (fun h1 => ifT rfl ?_) fun h1 => nilP (h.rN ?_))
  · have : isF S x = false := by simp [isF]; intro; omega
    rw [this] at hR; exact hR
  · refine ifD (fun h2 => ?_) fun h2 => ?_
    · have : isF S x = false := by
        simp only [isF]
        cases hs : S x.toNat
        · simp
        · have := h.bnd _ hs; omega
      rw [this] at hR; exact hR
    · obtain ⟨y, rfl⟩ := Int.eq_ofNat_of_zero_le (show 0 ≤ x by omega)
      have e : isF S (y : Int) = S y := by simp [isF]
      rw [e] at hR
      refine covered_ok h y (by omega) (fun k q hc hq => ?_) fun hs => ?_
      · rw [can_free hc hq] at hR; exact hR
      · rw [hs] at hR; exact hR

theorem ext_ms {a b c : Hp} (h1 : Ext (· ∈ ms) a b) (h2 : Ext (· ∈ ms) b c) : Ext (· ∈ ms) a c := h1.trans h2

theorem add_ok {k q : Nat} (h : BH σ p n S sb ms) (hf : q * 2 ^ k + 2 ^ k ≤ n) (hd : ∀ x, x / 2 ^ k = q → S x = false) {R : Hp → Prop}
    (hR : ∀ σ', Ext (· ∈ ms) σ σ' → BH σ' p n (ins S k q) sb ms → R σ') : buddy_Heap_add.call (some ⟨p, 0, none⟩) (k : Int) ((q * 2 ^ k : Nat) : Int) σ R := by
  refine buddy_Heap_add.of_vc ?_
  unfold buddy_Heap_add.vc
  refine loop2 (a := .i .i64) (bb := .i .i64)
    (fun o s h' => ∃ (j r : Nat) (T : Nat → Bool), o = (j : Int) ∧ s = ((r * 2 ^ j : Nat) : Int) ∧ r * 2 ^ j + 2 ^ j ≤ n ∧ BH h' p n T sb ms ∧ Ext (· ∈ ms) σ h' ∧ (∀ x, x / 2 ^ j = r → T x = false) ∧ ins T j r = ins S k q)
    (fun o _ _ => ms.length - o.toNat) ⟨k, q, S, rfl, rfl, hf, h, Ext.refl _ _, hd, rfl⟩ ?_
  rintro o s h' ⟨j, r, T, rfl, rfl, hjf, hT, hE, hdT, hins⟩
  have hl := hT.len
  have hj := hT.fits hjf
  have hn2 := hT.n2
  have hpj := Nat.two_pow_pos j
  obtain ⟨m, hm⟩ := hT.get hj
  have last : ¬ full (ins T j r) (j + 1) (r / 2) = true → (NilP (some ⟨p, 0, none⟩) fun a49 => LdS (a49.add 1) h' fun t51 => Ix t51.a t51.len (j : Int) 1 fun a53 => LdM a53 h' fun t54 => MSet .i64 .b t54 ((r * 2 ^ j : Nat) : Int) true h' fun v3 => R v3) := by
    intro hup
    refine nilP (hT.rB fun cap => hT.rM hm ?_)
    refine hT.msetR hm hdT hup hjf rfl fun h'' e hB => hR h'' (hE.trans e) ?_
    rw [← hins]; exact hB
  refine arN (m := j + 1) (by omega) (by omega) (nilP (hT.rB fun cap => JnB.intro ?_))
  refine ifD (fun hlt => ?_) (fun hge => ?_)
  · simp only at hlt
    refine nilP (hT.rB fun cap => hT.rM hm (shl1 (by omega) ?_))
    have hp62 := pow_small (show j ≤ 62 by omega)
    have hx : bits .xor .i64 ((r * 2 ^ j : Nat) : Int) ((2 ^ j : Nat) : Int) = ((mate r * 2 ^ j : Nat) : Int) := by
      rw [bits_xor_i64 (by omega) (by omega), xor_mate]
    rw [hx]
    refine hT.lk hm rfl ?_
    cases hc : can T j (mate r)
    · refine ifF (by simp) (last (no_mate hdT (by simp [hc])))
    · refine ifT (by simp) ?_
      refine nilP (hT.rB fun cap => hT.rM hm (shl1 (by omega) ?_))
      rw [hx]
      refine hT.mdelR hm hc rfl fun h'' e hB => ?_
      refine arN (m := j + 1) (by omega) (by omega) (nn (by omega) (arN (m := j + 1) (by omega) (by omega) (nn (by omega) ?_)))
      refine shrl rfl (by omega) (by omega) ?_
      refine arN (m := j + 1) (by omega) (by omega) ⟨⟨j + 1, r / 2, del T j (mate r), rfl, ?_, ?_, hB, hE.trans e, ?_, ?_⟩, by omega⟩
      · rw [Nat.pow_succ, ← Nat.div_div_eq_div_mul, first_in]
      · -- both halves lie within
        have h1 := full_bound hT.bnd (can_iff.1 hc).1
        have e2 : r / 2 * 2 ^ (j + 1) = (r / 2 * 2) * 2 ^ j := by rw [Nat.pow_succ, Nat.mul_comm (2 ^ j) 2, ← Nat.mul_assoc]
        rw [e2, Nat.pow_succ]
        have hup : (r / 2 * 2) + 1 = r ∨ (r / 2 * 2) + 1 = mate r := by unfold mate; split <;> omega
        have e3 : (r / 2 * 2) * 2 ^ j + 2 ^ j * 2 = ((r / 2 * 2) + 1) * 2 ^ j + 2 ^ j := by rw [Nat.add_mul]; omega
        rw [e3]
        rcases hup with e4 | e4 <;> rw [e4] <;> assumption
      · intro x hx
        rcases in_parent.1 hx with h1 | h1
        · simp [del, hdT x h1]
        · simp [del, h1]
      · rw [← hins]
        refine fun_eq fun x => ?_
        rw [ins_iff, ins_iff, del_iff, in_parent]
        by_cases h1 : x / 2 ^ j = mate r
        · simp [h1, can_free hc h1]
        · simp [h1]
  · simp only at hge
    refine ifF rfl (last fun hup => ?_)
    have := full_bound (bnd_ins hT.bnd hjf) hup
    have h1 : 2 ^ ms.length ≤ 2 ^ (j + 1) := Nat.pow_le_pow_right (by decide) (by omega)
    have := hT.hi
    omega

theorem free_ok {a m : Nat} (h : BH σ p n S sb ms) (hf : a + m ≤ n) (hd : ∀ x, a ≤ x → x < a + m → S x = false) {R : Hp → Prop}
    (hR : ∀ σ', Ext (· ∈ ms) σ σ' → BH σ' p n (give S a (a + m)) sb ms → R σ') : buddy_Heap_free.call (some ⟨p, 0, none⟩) (a : Int) (m : Int) σ R := by
  refine buddy_Heap_free.of_vc ?_
  unfold buddy_Heap_free.vc
  have hn2 := h.n2
  refine loop2 (a := .i .i64) (bb := .i .i64)
    (fun s c h' => ∃ (a' m' : Nat), s = (a' : Int) ∧ c = (m' : Int) ∧ a ≤ a' ∧ a' + m' = a + m ∧ BH h' p n (give S a a') sb ms ∧ Ext (· ∈ ms) σ h')
    (fun _ c _ => c.toNat) ⟨a, m, rfl, rfl, by omega, rfl, by rw [give_nil]; exact h, Ext.refl _ _⟩ ?_
  rintro s c h' ⟨a', m', rfl, rfl, haa, ham, hB, hE⟩
  refine ifD (fun hpos => ?_) (fun hz => ?_)
  · refine loop1 (a := .i .i64) (fun k h'' => ∃ j q : Nat, k = (j : Int) ∧ a' = q * 2 ^ j ∧ 2 ^ j ≤ m' ∧ h'' = h') (fun k _ => 12 - k.toNat) ⟨0, a', rfl, by simp, by simp; omega, rfl⟩ ?_
    rintro k h'' ⟨j, q, rfl, hq, hjm, rfl⟩
    have hj : j ≤ 10 := by
      apply Classical.byContradiction
      intro hc
      have : 2 ^ 11 ≤ 2 ^ j := Nat.pow_le_pow_right (by decide) (by omega)
      omega
    refine arN (m := j + 1) (by omega) (by omega) (nn (by omega) (arN (m := j + 1) (by omega) (by omega) (nn (by omega) ?_)))
    refine shrl rfl (by omega) (by omega) (JnB.intro ?_)
    have stop : (buddy_Heap_add.call (some ⟨p, 0, none⟩) (j : Int) (a' : Int) h'' fun v3 =>
        Nn (j : Int) <| Ar .i64 (1 * 2 ^ (min (j : Int).toNat IntKind.i64.bits)) fun t33 => Ar .i64 ((a' : Int) + t33) fun start2 =>
        Nn (j : Int) <| Ar .i64 (1 * 2 ^ (min (j : Int).toNat IntKind.i64.bits)) fun t37 => Ar .i64 ((m' : Int) - t37) fun pages2 =>
        (∃ (a'' m'' : Nat), start2 = (a'' : Int) ∧ pages2 = (m'' : Int) ∧ a ≤ a'' ∧ a'' + m'' = a + m ∧ BH v3 p n (give S a a'') sb ms ∧ Ext (· ∈ ms) σ v3) ∧ pages2.toNat < (m' : Int).toNat) := by
      subst hq
      refine add_ok hB (by omega) (fun x hx => ?_) fun v3 e hB' => ?_
      · have := place_iff.1 hx
        have h1 := hd x (by omega) (by omega)
        simp only [give, h1, Bool.false_or]
        rw [decide_eq_false (show ¬ x < q * 2 ^ j by omega), Bool.and_false]
      · have hpos2 := Nat.two_pow_pos j
        refine shl1 (by omega) (arN (m := q * 2 ^ j + 2 ^ j) (by omega) (by omega) (shl1 (by omega) (arN (m := m' - 2 ^ j) (by omega) (by omega) ?_)))
        refine ⟨⟨_, _, rfl, rfl, by omega, by omega, ?_, hE.trans e⟩, by omega⟩
        rw [ins_give, give_give haa (by omega)] at hB'
        exact hB'
    refine iff_ (fun he => ?_) (fun he => ifF rfl stop)
    have he' : a' / 2 ^ (j + 1) * 2 ^ (j + 1) = a' := by
      have := beq_iff_eq.1 he
      exact_mod_cast this
    refine arN (m := j + 1) (by omega) (by omega) (shl1 (by omega) ?_)
    refine ifD (fun hle => ?_) fun _ => stop
    refine arN (m := j + 1) (by omega) (by omega) ⟨⟨j + 1, a' / 2 ^ (j + 1), rfl, he'.symm, by omega, rfl⟩, by omega⟩
  · have : m' = 0 := by omega
    subst this
    have : a' = a + m := by omega
    subst this
    exact hR h' hE hB

theorem cut_ok {a m : Nat} (h : BH σ p n S sb ms) (hf : a + m ≤ n) (hd : ∀ x, a ≤ x → x < a + m → S x = true) {R : Hp → Prop}
    (hR : ∀ σ', Ext (· ∈ ms) σ σ' → BH σ' p n (take S a (a + m)) sb ms → R σ') : buddy_Heap_cut.call (some ⟨p, 0, none⟩) (a : Int) (m : Int) σ R := by
  refine buddy_Heap_cut.of_vc ?_
  unfold buddy_Heap_cut.vc
  have hn2 := h.n2
  refine loop1 (a := .i .i64) (fun s h' => ∃ x : Nat, s = (x : Int) ∧ a ≤ x ∧ BH h' p n (take S a (min x (a + m))) sb ms ∧ Ext (· ∈ ms) σ h')
    (fun s _ => a + m - s.toNat) ⟨a, rfl, by omega, by rw [Nat.min_eq_left (by omega), take_nil]; exact h, Ext.refl _ _⟩ ?_
  rintro s h' ⟨x, rfl, hax, hB, hE⟩
  refine arN (m := a + m) (by omega) (by omega) ?_
  refine ifD (fun hlt => ?_) (fun hge => ?_)
  · rw [Nat.min_eq_left (by omega)] at hB
    have hx : take S a x x = true := take_iff.2 ⟨hd x hax (by omega), by omega⟩
    refine covered_ok hB x (by omega) (fun k q hc hq => ?_) (fun hs => by rw [hx] at hs; cases hs)
    have hfb := full_bound hB.bnd (can_iff.1 hc).1
    have hk := hB.fits hfb
    have hl := hB.len
    obtain ⟨mm, hm⟩ := hB.get hk
    have hin := place_iff.1 hq
    refine nilP (hB.rB fun cap => hB.rM hm ?_)
    refine hB.mdelR hm hc rfl fun h1 e1 hB1 => ?_
    refine shl1 (by omega) (arN (m := q * 2 ^ k + 2 ^ k) (by omega) (by omega) (arN (m := x - q * 2 ^ k) (by omega) (by omega) ?_))
    refine free_ok hB1 (by omega) (fun y hy1 hy2 => ?_) fun h2 e2 hB2 => ?_
    · have : y / 2 ^ k = q := place_iff.2 (by omega)
      simp [del, this]
    · have hE2 := (hE.trans e1).trans e2
      rw [show q * 2 ^ k + (x - q * 2 ^ k) = x by omega] at hB2
      have hblk : ∀ y, q * 2 ^ k ≤ y ∧ y < q * 2 ^ k + 2 ^ k → S y = true ∧ ¬ (a ≤ y ∧ y < x) := fun y hy => take_iff.1 (can_free hc (place_iff.2 hy))
      refine arN (m := a + m) (by omega) (by omega) (ifD (fun hgt => ?_) fun hle => ?_)
      · refine arN (m := q * 2 ^ k + 2 ^ k - (a + m)) (by omega) (by omega) ?_
        refine free_ok hB2 (by omega) (fun y hy1 hy2 => ?_) fun h3 e3 hB3 => ?_
        · have : y / 2 ^ k = q := place_iff.2 (by omega)
          have hxy : ¬ y < x := by omega
          simp [give, del, this, hxy]
        · refine ⟨⟨_, rfl, by omega, ?_, hE2.trans e3⟩, by omega⟩
          rw [Nat.min_eq_right (by omega)]
          have : give (give (del (take S a x) k q) (q * 2 ^ k) x) (a + m) (a + m + (q * 2 ^ k + 2 ^ k - (a + m))) = take S a (a + m) := by
            refine fun_eq fun y => ?_
            have hy := hblk y
            simp only [give_iff, del_iff, take_iff, Ne, place_iff]
            generalize q * 2 ^ k = A at *
            generalize 2 ^ k = E at *
            cases hs : S y
            · rw [hs] at hy
              simp only [Bool.false_eq_true, false_and, false_or, iff_false, imp_false] at hy ⊢
              omega
            · rw [hs] at hy
              simp only [true_and] at hy ⊢
              omega
          rw [this] at hB3
          exact hB3
      · refine ⟨⟨_, rfl, by omega, ?_, hE2⟩, by omega⟩
        rw [Nat.min_eq_left (by omega)]
        have : give (del (take S a x) k q) (q * 2 ^ k) x = take S a (q * 2 ^ k + 2 ^ k) := by
          refine fun_eq fun y => ?_
          have hy := hblk y
          simp only [give_iff, del_iff, take_iff, Ne, place_iff]
          generalize q * 2 ^ k = A at *
          generalize 2 ^ k = E at *
          cases hs : S y
          · rw [hs] at hy
            simp only [Bool.false_eq_true, false_and, false_or, iff_false, imp_false] at hy ⊢
            omega
          · rw [hs] at hy
            simp only [true_and] at hy ⊢
            omega
        rw [this] at hB2
        exact hB2
  · rw [Nat.min_eq_right (by omega)] at hB
    exact hR h' hE hB

end Go.Bu
