/- Plain facts about free pages: places of powers of two, and which of them are the free blocks. -/
namespace Go.Bu
set_option linter.unusedSimpArgs false
set_option linter.unusedVariables false

/-- All pages of the place number `q` of order `k` are free. -/
def full (S : Nat → Bool) (k q : Nat) : Bool := (List.range (2 ^ k)).all fun i => S (q * 2 ^ k + i)
/-- It is a free block. -/
def can (S : Nat → Bool) (k q : Nat) : Bool := full S k q && !full S (k + 1) (q / 2)

theorem div_place {k q i : Nat} (hi : i < 2 ^ k) : (q * 2 ^ k + i) / 2 ^ k = q := by
  rw [Nat.add_comm, Nat.add_mul_div_right _ _ (Nat.two_pow_pos k), Nat.div_eq_of_lt hi, Nat.zero_add]
theorem place_of_div {k q p : Nat} (h : p / 2 ^ k = q) : p = q * 2 ^ k + p % 2 ^ k := by
  rw [← h, Nat.mul_comm]; exact (Nat.div_add_mod p (2 ^ k)).symm
theorem place_iff {k q p : Nat} : p / 2 ^ k = q ↔ q * 2 ^ k ≤ p ∧ p < q * 2 ^ k + 2 ^ k := by
  have hk := Nat.two_pow_pos k
  constructor
  · intro h
    have := place_of_div h
    have hm := Nat.mod_lt p hk
    omega
  · rintro ⟨h1, h2⟩
    have : p = q * 2 ^ k + (p - q * 2 ^ k) := by omega
    rw [this]
    exact div_place (by omega)
theorem full_iff {S : Nat → Bool} {k q : Nat} : full S k q = true ↔ ∀ p, p / 2 ^ k = q → S p = true := by
  simp only [full, List.all_eq_true, List.mem_range]
  constructor
  · intro h p hp
    have := h (p % 2 ^ k) (Nat.mod_lt _ (Nat.two_pow_pos k))
    rwa [← place_of_div hp] at this
  · intro h i hi
    exact h _ (div_place hi)
theorem can_iff {S : Nat → Bool} {k q : Nat} : can S k q = true ↔ full S k q = true ∧ ¬ full S (k + 1) (q / 2) = true := by
  simp [can]
theorem div_up {p k j : Nat} (h : k ≤ j) : p / 2 ^ j = p / 2 ^ k / 2 ^ (j - k) := by
  rw [Nat.div_div_eq_div_mul, ← Nat.pow_add]
  congr 2; omega
theorem full_down {S : Nat → Bool} {k j q : Nat} (h : k ≤ j) (hf : full S j (q / 2 ^ (j - k)) = true) : full S k q = true := by
  rw [full_iff] at hf ⊢
  intro p hp
  exact hf p (by rw [div_up h, hp])
theorem half_up {q k j : Nat} (h : k < j) : q / 2 / 2 ^ (j - (k + 1)) = q / 2 ^ (j - k) := by
  rw [Nat.div_div_eq_div_mul]
  congr 1
  rw [← Nat.pow_succ']
  congr 1; omega
theorem can_lt_absurd {S : Nat → Bool} {k j q r p : Nat} (hk : can S k q = true) (hj : full S j r = true) (hp : p / 2 ^ k = q) (hr : p / 2 ^ j = r) (h : k < j) : False := by
  rw [can_iff] at hk
  refine hk.2 (full_down (j := j) (by omega) ?_)
  rw [half_up h, ← hp, ← div_up (Nat.le_of_lt h), hr]
  exact hj
/-- A page is in one free block at the most. -/
theorem can_unique {S : Nat → Bool} {k j q r p : Nat} (hk : can S k q = true) (hj : can S j r = true) (hp : p / 2 ^ k = q) (hr : p / 2 ^ j = r) : k = j ∧ q = r := by
  rcases Nat.lt_trichotomy k j with h | h | h
  · exact (can_lt_absurd hk (can_iff.1 hj).1 hp hr h).elim
  · subst h; exact ⟨rfl, hp.symm.trans hr⟩
  · exact (can_lt_absurd hj (can_iff.1 hk).1 hr hp h).elim

def Bounded (S : Nat → Bool) (n : Nat) : Prop := ∀ p, S p = true → p < n

theorem full_bound {S : Nat → Bool} {n k q : Nat} (hb : Bounded S n) (h : full S k q = true) : q * 2 ^ k + 2 ^ k ≤ n := by
  rw [full_iff] at h
  have hk := Nat.two_pow_pos k
  have := hb _ (h (q * 2 ^ k + (2 ^ k - 1)) (div_place (by omega)))
  omega
theorem full_zero {S : Nat → Bool} {p : Nat} : full S 0 p = S p := by simp [full]
/-- Each free page is in a free block. -/
theorem can_exists {S : Nat → Bool} {n p : Nat} (hb : Bounded S n) (hp : S p = true) : ∃ k, can S k (p / 2 ^ k) = true := by
  apply Classical.byContradiction
  intro hno
  have all : ∀ k, full S k (p / 2 ^ k) = true := by
    intro k
    induction k with
    | zero => simpa [full_zero] using hp
    | succ k ih =>
      apply Classical.byContradiction
      intro hn
      refine hno ⟨k, can_iff.2 ⟨ih, ?_⟩⟩
      rw [Nat.div_div_eq_div_mul, ← Nat.pow_succ]
      exact hn
  have := full_bound hb (all n)
  have := @Nat.lt_two_pow_self n
  omega
theorem can_free {S : Nat → Bool} {k q p : Nat} (h : can S k q = true) (hp : p / 2 ^ k = q) : S p = true := full_iff.1 (can_iff.1 h).1 p hp

/-! ## Taking a block away, laying one down -/
def del (S : Nat → Bool) (k q : Nat) : Nat → Bool := fun p => S p && !(p / 2 ^ k == q)
def ins (S : Nat → Bool) (k q : Nat) : Nat → Bool := fun p => S p || p / 2 ^ k == q
theorem del_iff {S : Nat → Bool} {k q p : Nat} : del S k q p = true ↔ S p = true ∧ p / 2 ^ k ≠ q := by simp [del]
theorem ins_iff {S : Nat → Bool} {k q p : Nat} : ins S k q p = true ↔ S p = true ∨ p / 2 ^ k = q := by simp [ins]

theorem first_in (k q : Nat) : (q * 2 ^ k) / 2 ^ k = q := Nat.mul_div_cancel _ (Nat.two_pow_pos k)

theorem can_del {S : Nat → Bool} {k q j r : Nat} (hc : can S k q = true) : can (del S k q) j r = true ↔ can S j r = true ∧ ¬ (j = k ∧ r = q) := by
  constructor
  · intro h
    obtain ⟨hf, hn⟩ := can_iff.1 h
    rw [full_iff] at hf
    have hfS : full S j r = true := full_iff.2 fun p hp => (del_iff.1 (hf p hp)).1
    refine ⟨can_iff.2 ⟨hfS, fun hup => hn (full_iff.2 fun p hp => ?_)⟩, ?_⟩
    · refine del_iff.2 ⟨full_iff.1 hup p hp, fun hpq => ?_⟩
      rcases Nat.lt_or_ge k (j + 1) with h1 | h1
      · exact can_lt_absurd hc hup hpq hp h1
      · -- the greater place lies in the block
        have hfirst := first_in j r
        have hm := (del_iff.1 (hf _ hfirst)).2
        apply hm
        rw [div_up (show j + 1 ≤ k by omega)]
        have e : r * 2 ^ j / 2 ^ (j + 1) = r / 2 := by
          rw [Nat.pow_succ, ← Nat.div_div_eq_div_mul, hfirst]
        rw [e, ← hp, ← div_up (show j + 1 ≤ k by omega), hpq]
    · rintro ⟨rfl, rfl⟩
      exact (del_iff.1 (hf _ (first_in _ _))).2 (first_in _ _)
  · rintro ⟨h, hne⟩
    obtain ⟨hf, hn⟩ := can_iff.1 h
    refine can_iff.2 ⟨full_iff.2 fun p hp => del_iff.2 ⟨full_iff.1 hf p hp, fun hpq => hne ?_⟩, fun hup => hn (full_iff.2 fun p hp => (del_iff.1 (full_iff.1 hup p hp)).1)⟩
    obtain ⟨h1, h2⟩ := can_unique h hc hp hpq
    exact ⟨h1, h2⟩

theorem can_ins {S : Nat → Bool} {k q j r : Nat} (hd : ∀ p, p / 2 ^ k = q → S p = false) (hup : ¬ full (ins S k q) (k + 1) (q / 2) = true) :
    can (ins S k q) j r = true ↔ can S j r = true ∨ (j = k ∧ r = q) := by
  have hcP : can (ins S k q) k q = true := can_iff.2 ⟨full_iff.2 fun p hp => ins_iff.2 (.inr hp), hup⟩
  constructor
  · intro h
    by_cases he : j = k ∧ r = q
    · exact .inr he
    left
    obtain ⟨hf, hn⟩ := can_iff.1 h
    refine can_iff.2 ⟨full_iff.2 fun p hp => ?_, fun hup' => hn (full_iff.2 fun p hp => ins_iff.2 (.inl (full_iff.1 hup' p hp)))⟩
    rcases ins_iff.1 (full_iff.1 hf p hp) with h1 | h1
    · exact h1
    · exact (he (can_unique h hcP hp h1)).elim
  · rintro (h | ⟨rfl, rfl⟩)
    · obtain ⟨hf, hn⟩ := can_iff.1 h
      refine can_iff.2 ⟨full_iff.2 fun p hp => ins_iff.2 (.inl (full_iff.1 hf p hp)), fun hup' => hn (full_iff.2 fun p hp => ?_)⟩
      rcases ins_iff.1 (full_iff.1 hup' p hp) with h1 | h1
      · exact h1
      · rcases Nat.lt_or_ge k (j + 1) with h2 | h2
        · refine (hup (full_down (j := j + 1) (by omega) ?_)).elim
          have e : q / 2 ^ (j + 1 - k) = r / 2 := by rw [← h1, ← div_up (show k ≤ j + 1 by omega), hp]
          rw [half_up h2, e]
          exact hup'
        · have hfirst := first_in j r
          have hs := full_iff.1 hf _ hfirst
          have e : r * 2 ^ j / 2 ^ (j + 1) = r / 2 := by
            rw [Nat.pow_succ, ← Nat.div_div_eq_div_mul, hfirst]
          have : r * 2 ^ j / 2 ^ k = q := by
            rw [div_up h2, e, ← hp, ← div_up h2, h1]
          rw [hd _ this] at hs
          cases hs
    · exact hcP

/-- The other half of the place of the next order. -/
def mate (q : Nat) : Nat := if q % 2 = 0 then q + 1 else q - 1
theorem mate_half (q : Nat) : mate q / 2 = q / 2 := by unfold mate; split <;> omega
theorem mate_ne (q : Nat) : mate q ≠ q := by unfold mate; split <;> omega
theorem half_two {q r : Nat} (h : r / 2 = q / 2) : r = q ∨ r = mate q := by unfold mate; split <;> omega
theorem in_parent {k q p : Nat} : p / 2 ^ (k + 1) = q / 2 ↔ p / 2 ^ k = q ∨ p / 2 ^ k = mate q := by
  rw [Nat.pow_succ, ← Nat.div_div_eq_div_mul]
  constructor
  · intro h; exact half_two h
  · rintro (h | h) <;> rw [h]
    exact mate_half q

/-- If the mate is no free block, the place next up is not full. -/
theorem no_mate {T : Nat → Bool} {k q : Nat} (hd : ∀ p, p / 2 ^ k = q → T p = false) (hm : ¬ can T k (mate q) = true) : ¬ full (ins T k q) (k + 1) (q / 2) = true := by
  intro hup
  have hmf : full T k (mate q) = true := full_iff.2 fun p hp => by
    rcases ins_iff.1 (full_iff.1 hup p (in_parent.2 (.inr hp))) with h | h
    · exact h
    · exact (mate_ne q (hp.symm.trans h)).elim
  have : full T (k + 1) (mate q / 2) = true := Classical.byContradiction fun h => hm (can_iff.2 ⟨hmf, h⟩)
  rw [mate_half] at this
  have h1 := full_iff.1 this (q * 2 ^ k) (in_parent.2 (.inl (first_in k q)))
  rw [hd _ (first_in k q)] at h1
  cases h1

/-- The pages from `a` to below `b`. -/
def give (S : Nat → Bool) (a b : Nat) : Nat → Bool := fun p => S p || (decide (a ≤ p) && decide (p < b))
def take (S : Nat → Bool) (a b : Nat) : Nat → Bool := fun p => S p && !(decide (a ≤ p) && decide (p < b))
theorem give_iff {S : Nat → Bool} {a b p : Nat} : give S a b p = true ↔ S p = true ∨ (a ≤ p ∧ p < b) := by simp [give]
theorem take_iff {S : Nat → Bool} {a b p : Nat} : take S a b p = true ↔ S p = true ∧ ¬ (a ≤ p ∧ p < b) := by
  simp [take]; intro _; omega
theorem fun_eq {S T : Nat → Bool} (h : ∀ p, S p = true ↔ T p = true) : S = T := by
  funext p
  have := h p
  cases hs : S p <;> cases ht : T p <;> simp_all
theorem ins_give (S : Nat → Bool) (k q : Nat) : ins S k q = give S (q * 2 ^ k) (q * 2 ^ k + 2 ^ k) :=
  fun_eq fun p => by rw [ins_iff, give_iff, place_iff]
theorem del_take (S : Nat → Bool) (k q : Nat) : del S k q = take S (q * 2 ^ k) (q * 2 ^ k + 2 ^ k) :=
  fun_eq fun p => by rw [del_iff, take_iff]; rw [Ne, place_iff]
theorem give_give {S : Nat → Bool} {a b c : Nat} (h1 : a ≤ b) (h2 : b ≤ c) : give (give S a b) b c = give S a c :=
  fun_eq fun p => by simp only [give_iff]; cases S p <;> simp <;> omega
theorem give_nil (S : Nat → Bool) (a : Nat) : give S a a = S := fun_eq fun p => by simp only [give_iff]; cases S p <;> simp <;> omega
theorem take_nil (S : Nat → Bool) (a : Nat) : take S a a = S := fun_eq fun p => by simp only [take_iff]; cases S p <;> simp <;> omega

/-! ## Counting -/
def cnt (n : Nat) (S : Nat → Bool) : Nat := (List.range n).countP S

theorem cnt_mul (k m : Nat) (f : Nat → Bool) : (List.range (m * 2 ^ k)).countP (fun p => f (p / 2 ^ k)) = 2 ^ k * (List.range m).countP f := by
  induction m with
  | zero => simp
  | succ m ih =>
    rw [Nat.succ_mul, List.range_add, List.countP_append, ih, List.countP_map, List.range_succ, List.countP_append]
    have : ((List.range (2 ^ k)).countP ((fun p => f (p / 2 ^ k)) ∘ fun x => m * 2 ^ k + x)) = 2 ^ k * (if f m then 1 else 0) := by
      have e : ∀ x ∈ List.range (2 ^ k), ((fun p => f (p / 2 ^ k)) ∘ fun x => m * 2 ^ k + x) x = f m := by
        intro x hx
        simp only [Function.comp]
        rw [div_place (List.mem_range.1 hx)]
      rw [List.countP_congr (q := fun _ => f m) (fun x hx => by rw [e x hx])]
      cases f m <;> simp
    rw [this, Nat.mul_add]
    simp only [List.countP_cons, List.countP_nil, Nat.zero_add]

theorem cnt_ext {n m : Nat} {S : Nat → Bool} (h : n ≤ m) (hb : ∀ p, S p = true → p < n) : (List.range m).countP S = (List.range n).countP S := by
  obtain ⟨d, rfl⟩ := Nat.exists_eq_add_of_le h
  rw [List.range_add, List.countP_append, List.countP_map]
  have : (List.range d).countP (S ∘ fun x => n + x) = 0 := by
    rw [List.countP_eq_zero]
    intro x _ hx
    have : n + x < n := hb _ hx
    omega
  omega

/-- How many free blocks of order `k` there are. -/
def many (n : Nat) (S : Nat → Bool) (k : Nat) : Nat := (List.range n).countP (can S k)
def sums (n : Nat) (S : Nat → Bool) : Nat → Nat
  | 0 => 0
  | k + 1 => sums n S k + many n S k * 2 ^ k

theorem countP_add {α : Type} (l : List α) (f g h : α → Bool) (e : ∀ x ∈ l, (f x).toNat + (g x).toNat = (h x).toNat) : l.countP f + l.countP g = l.countP h := by
  induction l with
  | nil => rfl
  | cons x l ih =>
    have hx := e x (by simp)
    have := ih fun y hy => e y (by simp [hy])
    simp only [List.countP_cons]
    cases hf : f x <;> cases hg : g x <;> cases hh : h x <;> simp [hf, hg, hh] at hx ⊢ <;> omega

/-- Is the page in a free block of an order below `K`? -/
def below (S : Nat → Bool) (K p : Nat) : Bool := (List.range K).any fun k => can S k (p / 2 ^ k)

theorem sums_below {n : Nat} {S : Nat → Bool} (hb : Bounded S n) : ∀ K, sums n S K = (List.range n).countP (below S K)
  | 0 => by
    simp only [sums]
    symm
    rw [List.countP_eq_zero]
    simp [below]
  | K + 1 => by
    rw [sums, sums_below hb K]
    have hm : many n S K * 2 ^ K = (List.range n).countP (fun p => can S K (p / 2 ^ K)) := by
      have h1 := cnt_mul K n (can S K)
      have h2 : n ≤ n * 2 ^ K := Nat.le_mul_of_pos_right _ (Nat.two_pow_pos K)
      rw [cnt_ext h2 (fun p hp => hb p (can_free hp rfl))] at h1
      rw [h1, Nat.mul_comm]; rfl
    rw [hm]
    apply countP_add
    intro p _
    have e : below S (K + 1) p = (below S K p || can S K (p / 2 ^ K)) := by
      simp [below, List.range_succ, List.any_append]
    rw [e]
    cases h1 : below S K p <;> cases h2 : can S K (p / 2 ^ K) <;> simp
    simp only [below, List.any_eq_true, List.mem_range] at h1
    obtain ⟨k, hk, hc⟩ := h1
    have := can_unique hc h2 rfl rfl
    omega

theorem sums_all {n K : Nat} {S : Nat → Bool} (hb : Bounded S n) (hK : n < 2 ^ K) : sums n S K = cnt n S := by
  rw [sums_below hb]
  apply List.countP_congr
  intro p _
  simp only [below, List.any_eq_true, List.mem_range]
  constructor
  · rintro ⟨k, _, hc⟩
    exact can_free hc rfl
  · intro hp
    obtain ⟨k, hc⟩ := can_exists hb hp
    refine ⟨k, ?_, hc⟩
    have := full_bound hb (can_iff.1 hc).1
    apply Classical.byContradiction
    intro hk
    have : 2 ^ K ≤ 2 ^ k := Nat.pow_le_pow_right (by omega) (by omega)
    omega

end Go.Bu
