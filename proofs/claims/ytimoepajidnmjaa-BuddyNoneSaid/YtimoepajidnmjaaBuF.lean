/- Contracts of the buddy heap's functions, III: Blocks, Take. -/
import Derived.Test.YtimoepajidnmjaaBuD
import Derived.Test.YtimoepajidnmjaaBuE
import Derived.Test.YtimoepajidnmjaaVcM
namespace Go.Bu
open Go Go.Vc Go.Proofs
set_option linter.unusedSimpArgs false
set_option linter.unusedVariables false

variable {σ : Hp} {p n sb : Nat} {S : Nat → Bool} {ms : List Nat}

theorem min_ok {B : Nat} {s : Sl} {xs : List Int} (hs : SlF B σ s (xs.map (Value.int .i64))) (hl : xs.length < 1000000000) {m : Int} (hm : m ∈ xs) (hle : ∀ y ∈ xs, m ≤ y) {R : Int → Hp → Prop} (hR : R m σ) : slices_Min_int_int.call s σ R := by
  refine slices_Min_int_int.of_vc ?_
  unfold slices_Min_int_int.vc
  have hlen : s.len = xs.length := by simpa using hs.1
  have hpos : 0 < xs.length := List.length_pos_of_mem hm
  refine Jn.intro (ifDF (by omega) ?_)
  have h0 : xs[0]? = some xs[0] := by simp [hpos]
  refine hs.ixI (i := 0) h0 ?_
  refine loop2 (a := .i .i64) (bb := .i .i64) (fun (c t : Int) h' => ∃ k : Nat, t = (k : Int) ∧ k ≤ xs.length ∧ h' = σ ∧ c ∈ xs ∧ ∀ (j : Nat) (y : Int), j < k → xs[j]? = some y → c ≤ y) (fun _ t _ => xs.length - t.toNat)
    ⟨1, rfl, by omega, rfl, List.getElem_mem _, fun j y hj hy => ?_⟩ ?_
  · have : j = 0 := by omega
    subst this
    rw [h0] at hy; cases hy; omega
  rintro c t h' ⟨k, rfl, hk, rfl, hc, hall⟩
  refine ifD (fun hlt => ?_) (fun hge => ?_)
  · have hk' : k < xs.length := by omega
    have hx : xs[k]? = some xs[k] := by simp [hk']
    refine hs.ixI hx (arN (m := k + 1) (by omega) (by omega) ⟨⟨k + 1, rfl, by omega, rfl, ?_, fun j y hj hy => ?_⟩, by omega⟩)
    · split
      · exact List.getElem_mem _
      · exact hc
    · by_cases e : j = k
      · subst e
        rw [hx] at hy; cases hy
        split <;> omega
      · have := hall j y (by omega) hy
        split <;> omega
  · have : k = xs.length := by omega
    subst this
    obtain ⟨j, hj, e⟩ := List.getElem_of_mem hm
    have h1 := hall j m hj (by simp [hj, e])
    have h2 := hle c hc
    have : c = m := Int.le_antisymm h1 h2
    rw [this]; exact hR

/-- The free blocks of an order, rising. -/
def blocks (n : Nat) (S : Nat → Bool) (k : Nat) : List Nat := ((List.range n).filter (can S k)).map (· * 2 ^ k)
def ints (l : List Nat) : List Value := l.map fun (x : Nat) => Value.int .i64 (x : Int)
def blocksI (n : Nat) (S : Nat → Bool) (k : Int) : List Nat := if 0 ≤ k then blocks n S k.toNat else []

theorem can_ltn (hb : Bounded S n) {k q : Nat} (hc : can S k q = true) : q < n := by
  have := full_bound hb (can_iff.1 hc).1
  have h1 := Nat.two_pow_pos k
  have h2 : q ≤ q * 2 ^ k := Nat.le_mul_of_pos_right _ h1
  omega
theorem mem_blocks (hb : Bounded S n) {k x : Nat} : x ∈ blocks n S k ↔ ∃ q, x = q * 2 ^ k ∧ can S k q = true := by
  simp only [blocks, List.mem_map, List.mem_filter, List.mem_range]
  constructor
  · rintro ⟨q, ⟨_, hc⟩, rfl⟩; exact ⟨q, rfl, hc⟩
  · rintro ⟨q, rfl, hc⟩; exact ⟨q, ⟨can_ltn hb hc, hc⟩, rfl⟩
theorem blocks_sorted (n : Nat) (S : Nat → Bool) (k : Nat) : (blocks n S k).Pairwise (· < ·) := by
  unfold blocks
  refine List.Pairwise.map _ (fun a b h => Nat.mul_lt_mul_of_pos_right h (Nat.two_pow_pos k)) ?_
  exact List.Pairwise.sublist List.filter_sublist List.pairwise_lt_range
theorem blocks_len (n : Nat) (S : Nat → Bool) (k : Nat) : (blocks n S k).length = many n S k := by
  simp [blocks, many, List.countP_eq_length_filter]
theorem keys_perm {k : Nat} {B : List (Int × Bool)} (hK : Keys S k B) (hn : (B.map (·.1)).Nodup) (hb : Bounded S n) : (B.map (·.1)).Perm ((blocks n S k).map fun (x : Nat) => (x : Int)) := by
  rw [List.perm_ext_iff_of_nodup hn]
  · intro x
    simp only [List.mem_map]
    constructor
    · rintro ⟨⟨x1, x2⟩, hm, rfl⟩
      obtain ⟨_, q, hx, hc⟩ := hK.1 x1 x2 hm
      exact ⟨_, (mem_blocks hb).2 ⟨q, rfl, hc⟩, hx.symm⟩
    · rintro ⟨y, hy, rfl⟩
      obtain ⟨q, rfl, hc⟩ := (mem_blocks hb).1 hy
      exact ⟨_, hK.2 q hc, rfl⟩
  · refine List.Pairwise.map _ (fun a b (hlt : a < b) => ?_) (blocks_sorted n S k)
    intro e
    have : a = b := by exact_mod_cast e
    omega
theorem keys_i64 {k : Nat} {B : List (Int × Bool)} (hK : Keys S k B) (hb : Bounded S n) (hn : n ≤ 1024) : ∀ x ∈ B, I64 x.1 := by
  rintro ⟨x, v⟩ hx
  obtain ⟨_, q, rfl, hc⟩ := hK.1 x v hx
  have := full_bound hb (can_iff.1 hc).1
  have := Nat.two_pow_pos k
  constructor <;> simp only <;> omega
theorem no_blocks (h : BH σ p n S sb ms) {k : Nat} (hk : ms.length ≤ k) : blocks n S k = [] := by
  rw [List.eq_nil_iff_forall_not_mem]
  intro x hx
  obtain ⟨q, _, hc⟩ := (mem_blocks h.bnd).1 hx
  have := h.fits (full_bound h.bnd (can_iff.1 hc).1)
  omega

theorem push_cell {h : Hp} {v : Value} {e : Nat} : cell (h.push (.cells #[v] e (0, 0))) ⟨h.size, 0, none⟩ = some v := by simp [cell]
theorem ext_push (h : Hp) (o : Obj) : Ext0 h (h.push o) := Ext.push _ _ _

theorem Blocks_ok (h : BH σ p n S sb ms) (k : Int) {R : Sl → Hp → Prop} (hR : ∀ s σ', Ext0 σ σ' → SlF σ.size σ' s (ints (blocksI n S k)) → R s σ') : buddy_Heap_Blocks.call (some ⟨p, 0, none⟩) k σ R := by
  refine buddy_Heap_Blocks.of_vc ?_
  unfold buddy_Heap_Blocks.vc
  have none_ : blocksI n S k = [] → R ⟨none, 0, 0⟩ σ := fun e => hR _ σ (Ext.refl _ _) (by rw [e]; exact ⟨rfl, .inl ⟨rfl, rfl⟩⟩)
  refine made_ok h (JnB.intro (ifF rfl (JnB.intro ?_)))
  refine ifD (fun h1 => ifT rfl (none_ (by unfold blocksI; rw [if_neg (by omega)]))) fun h1 => ?_
  refine nilP (h.rB fun cap => ?_)
  obtain ⟨j, rfl⟩ := Int.eq_ofNat_of_zero_le (show 0 ≤ k by omega)
  have e : blocksI n S (j : Int) = blocks n S j := by simp [blocksI]
  refine ifD (fun h2 => none_ (by rw [e]; exact no_blocks h (by simpa using h2))) fun h2 => ?_
  simp only at h2
  obtain ⟨m, hm⟩ := h.get (k := j) (by omega)
  obtain ⟨B, hB, hk⟩ := h.maps j m hm
  have hcount := keys_count hk hB.nodup h.bnd
  have hle : B.length ≤ 1024 := by
    rw [hcount]
    have := List.countP_le_length (p := can S j) (l := List.range n)
    have := h.n2
    simp only [many, List.length_range] at *
    omega
  refine nilP (h.rB fun cap => h.rM hm (keys_ok _ ?_))
  have e1 := ext_push σ (.cells #[.map (some m)] keysTy (0, 0))
  refine sorted_ok push_cell (e1.mapL hB id) (keys_i64 hk h.bnd h.n2) (by omega) fun s σ' ss e2 hp hsrt hsl => hR s σ' (e1.trans e2) ?_
  rw [e]
  have hss : ss = (blocks n S j).map fun (x : Nat) => (x : Int) := by
    refine List.Perm.eq_of_pairwise (le := fun x y : Int => x ≤ y) (fun a b _ _ h1 h2 => by omega) hsrt ?_ (hp.trans (keys_perm hk hB.nodup h.bnd))
    exact List.Pairwise.map _ (fun a b (hlt : a < b) => by omega) (blocks_sorted n S j)
  have : ss.map (Value.int .i64) = ints (blocks n S j) := by rw [hss, ints, List.map_map]; rfl
  rw [this] at hsl
  exact hsl.mono (by simp)

theorem Blocks_nil (k : Int) {R : Sl → Hp → Prop} (hR : R ⟨none, 0, 0⟩ σ) : buddy_Heap_Blocks.call none k σ R := by
  refine buddy_Heap_Blocks.of_vc ?_
  unfold buddy_Heap_Blocks.vc
  exact made_nil (JnB.intro (ifT rfl (JnB.intro (ifT rfl hR))))

/-! ## Take -/
def isPow (a : Int) : Bool := (List.range 11).any fun k => a == ((2 ^ k : Nat) : Int)
theorem pow_table : (List.range 1025).all (fun a => a == 0 || ((a &&& (a - 1)) == 0) == ((List.range 11).any fun k => a == 2 ^ k)) = true := by decide +kernel
theorem pow_and {a : Nat} (h1 : 1 ≤ a) (h2 : a ≤ 1024) : ((a &&& (a - 1)) == 0) = ((List.range 11).any fun k => a == 2 ^ k) := by
  have := List.all_eq_true.1 pow_table a (List.mem_range.2 (by omega))
  simp only [Bool.or_eq_true, beq_iff_eq] at this
  rcases this with h | h
  · omega
  · exact h
theorem isPow_nat (a : Nat) : isPow (a : Int) = ((List.range 11).any fun k => a == 2 ^ k) := by
  unfold isPow
  congr 1
  funext k
  rw [Bool.eq_iff_iff]
  simp only [beq_iff_eq]
  exact ⟨fun h => by exact_mod_cast h, fun h => by exact_mod_cast h⟩

def takeArg (pages align : Int) : Bool := decide (1 ≤ pages) && (decide (pages ≤ 1024) && (decide (1 ≤ align) && (decide (align ≤ 1024) && isPow align)))
/-- Where Take takes: the lowest free block of the least order that is enough. -/
def takeFrom (n : Nat) (S : Nat → Bool) (pages align : Nat) : Nat → Option Nat
  | 0 => none
  | k + 1 => match takeFrom n S pages align k with
    | some x => some x
    | none => if pages ≤ 2 ^ k ∧ align ≤ 2 ^ k then (blocks n S k).head? else none
def takeAt (n : Nat) (S : Nat → Bool) (pages align : Nat) : Option Nat := takeFrom n S pages align 11
def takeE (n : Nat) (S : Nat → Bool) (pages align : Int) : Int := if takeArg pages align then (match takeAt n S pages.toNat align.toNat with | some _ => 0 | none => 6) else 1
def takeV (n : Nat) (S : Nat → Bool) (pages align : Int) : Nat := if takeArg pages align then (match takeAt n S pages.toNat align.toNat with | some x => x | none => 0) else 0
def takeS (n : Nat) (S : Nat → Bool) (pages align : Int) : Nat → Bool := if takeArg pages align then (match takeAt n S pages.toNat align.toNat with | some x => take S x (x + pages.toNat) | none => S) else S

theorem takeFrom_some {n : Nat} {S : Nat → Bool} {m a k x : Nat} (h : takeFrom n S m a k = some x) : ∀ j, k ≤ j → takeFrom n S m a j = some x := by
  intro j hj
  induction j with
  | zero => have : k = 0 := by omega
            subst this; exact h
  | succ j ih =>
    by_cases e : k = j + 1
    · subst e; exact h
    · simp only [takeFrom, ih (by omega)]
theorem takeFrom_none (h : BH σ p n S sb ms) {m a : Nat} (hn : takeFrom n S m a ms.length = none) : ∀ j, ms.length ≤ j → takeFrom n S m a j = none := by
  intro j hj
  induction j with
  | zero => have : ms.length = 0 := by omega
            rw [this] at hn; exact hn
  | succ j ih =>
    by_cases e : ms.length = j + 1
    · rw [← e]; exact hn
    · simp only [takeFrom, ih (by omega), no_blocks h (show ms.length ≤ j by omega)]
      simp

theorem head_blocks {k : Nat} (hpos : 0 < many n S k) : ∃ x rest, blocks n S k = x :: rest := by
  rw [← blocks_len] at hpos
  match h : blocks n S k with
  | [] => rw [h] at hpos; simp at hpos
  | x :: r => exact ⟨x, r, rfl⟩

theorem Take_ok (h : BH σ p n S sb ms) (pages align : Int) {R : Int → Int → Hp → Prop}
    (hR : ∀ σ', Ext (· ∈ ms) σ σ' → BH σ' p n (takeS n S pages align) sb ms → R ((takeV n S pages align : Nat) : Int) (takeE n S pages align) σ') : buddy_Heap_Take.call (some ⟨p, 0, none⟩) pages align σ R := by
  refine buddy_Heap_Take.of_vc ?_
  unfold buddy_Heap_Take.vc
  have hn2 := h.n2
  have hl := h.len
  have bad : takeArg pages align = false → R 0 1 σ := fun e => by
    have := hR σ (Ext.refl _ _)
    simp only [takeS, takeV, takeE, e, Bool.false_eq_true, if_false] at this
    exact this h
  have badP : ¬ (1 ≤ pages ∧ pages ≤ 1024 ∧ 1 ≤ align ∧ align ≤ 1024) → R 0 1 σ := fun hn => bad (by
    simp only [takeArg, ← Bool.and_assoc, ← Bool.decide_and]
    rw [decide_eq_false]; rfl
    omega)
  refine made_ok h (ifF rfl (JnB.intro ?_))
  refine ifD (fun h1 => JnB.intro (ifT rfl (JnB.intro (ifT rfl (JnB.intro (ifT rfl (ifT rfl (badP (by omega))))))))) fun h1 => ?_
  refine JnB.intro (ifD (fun h2 => JnB.intro (ifT rfl (JnB.intro (ifT rfl (ifT rfl (badP (by omega))))))) fun h2 => ?_)
  refine JnB.intro (ifD (fun h3 => JnB.intro (ifT rfl (ifT rfl (badP (by omega))))) fun h3 => ?_)
  refine JnB.intro (ifD (fun h4 => ifT rfl (badP (by omega))) fun h4 => ?_)
  obtain ⟨a, rfl⟩ := Int.eq_ofNat_of_zero_le (show 0 ≤ align by omega)
  obtain ⟨m, rfl⟩ := Int.eq_ofNat_of_zero_le (show 0 ≤ pages by omega)
  refine arN (m := a - 1) (by omega) (by omega) ?_
  rw [bits_and_i64 (by omega) (by omega)]
  have hand : ((((a &&& (a - 1) : Nat) : Int)) != 0) = !isPow (a : Int) := by
    rw [isPow_nat, ← pow_and (by omega) (by omega)]
    simp only [bne, Bool.not_inj_iff]
    rw [Bool.eq_iff_iff]
    simp only [beq_iff_eq]
    omega
  rw [hand]
  cases hp : isPow (a : Int)
  · refine ifT rfl (bad ?_)
    simp [takeArg, hp]
  refine ifF rfl ?_
  have hok : takeArg (m : Int) (a : Int) = true := by
    simp only [takeArg, hp, Bool.and_true, Bool.and_eq_true, decide_eq_true_eq]
    omega
  refine nilP (h.rB fun cap => ?_)
  refine loop1 (a := .i .i64) (fun t h' => ∃ k : Nat, t = (k : Int) ∧ k ≤ ms.length ∧ h' = σ ∧ takeFrom n S m a k = none) (fun t _ => ms.length - t.toNat) ⟨0, rfl, by omega, rfl, rfl⟩ ?_
  rintro t h' ⟨k, rfl, hk, rfl, hno⟩
  refine ifD (fun hlt => ?_) (fun hge => ?_)
  · simp only at hlt
    obtain ⟨mm, hm⟩ := h.get (k := k) (by omega)
    refine h.rM hm (shl1 (by omega) (JnB.intro ?_))
    have next : takeFrom n S m a (k + 1) = none → Ar .i64 ((k : Int) + 1) fun t67 => (∃ k : Nat, t67 = (k : Int) ∧ k ≤ ms.length ∧ h' = h' ∧ takeFrom n S m a k = none) ∧ ms.length - t67.toNat < ms.length - (k : Int).toNat :=
      fun hno' => arN (m := k + 1) (by omega) (by omega) ⟨⟨k + 1, rfl, by omega, rfl, hno'⟩, by omega⟩
    refine ifD (fun hbig => ?_) (fun hsm => ifF rfl (next ?_))
    · have hbig' : m ≤ 2 ^ k ∧ a ≤ 2 ^ k := by
        have : ((if (a : Int) > (m : Int) then (a : Int) else (m : Int)) ≤ ((2 ^ k : Nat) : Int)) := hbig
        split at this <;> omega
      refine h.mlen hm ?_
      refine ifD (fun hpos => ?_) (fun hz => next ?_)
      · have hpos' : 0 < many n S k := by omega
        obtain ⟨x, rest, hx⟩ := head_blocks hpos'
        obtain ⟨q, rfl, hc⟩ := (mem_blocks h.bnd (k := k) (x := x)).1 (by rw [hx]; simp)
        have hat : takeAt n S m a = some (q * 2 ^ k) := by
          refine takeFrom_some (k := k + 1) ?_ 11 (by omega)
          simp only [takeFrom, hno, if_pos hbig', hx, List.head?_cons]
        have hfb := full_bound h.bnd (can_iff.1 hc).1
        obtain ⟨B, hB, hkk⟩ := h.maps k mm hm
        have hcount := keys_count hkk hB.nodup h.bnd
        have hle : B.length ≤ 1024 := by
          rw [hcount]
          have := List.countP_le_length (p := can S k) (l := List.range n)
          simp only [many, List.length_range] at *
          omega
        refine keys_ok _ ?_
        have e1 := ext_push h' (.cells #[.map (some mm)] keysTy (0, 0))
        refine collect_ok push_cell (e1.mapL hB id) (keys_i64 hkk h.bnd h.n2) (by omega) fun s σ' ss e2 hp hsl => ?_
        have hss := hp.trans (keys_perm hkk hB.nodup h.bnd)
        have hsl' := hss.length_eq
        simp only [List.length_map] at hsl'
        rw [blocks_len, ← hcount] at hsl'
        refine min_ok hsl (by omega) (m := ((q * 2 ^ k : Nat) : Int)) (hss.mem_iff.2 (by rw [hx]; simp)) (fun y hy => ?_) ?_
        · have hy' := hss.mem_iff.1 hy
          have hsorted := blocks_sorted n S k
          rw [hx] at hy' hsorted
          simp only [List.map_cons, List.mem_cons, List.mem_map] at hy'
          rcases hy' with rfl | ⟨z, hz, rfl⟩
          · omega
          · have := (List.pairwise_cons.1 hsorted).1 z hz
            omega
        · have hB2 := (h.keep0 e1).keep0 e2
          refine cut_ok hB2 (by omega) (fun y hy1 hy2 => can_free hc (place_iff.2 (by omega))) fun h3 e3 hB3 => ?_
          have := hR h3 ((e1.to.trans e2.to).trans e3)
          simp only [takeS, takeV, takeE, hok, Int.toNat_natCast, hat, if_true] at this
          exact this hB3
      · simp only [takeFrom, hno, if_pos hbig']
        have : blocks n S k = [] := List.eq_nil_of_length_eq_zero (by rw [blocks_len]; omega)
        rw [this]; rfl
    · have hsm' : ¬ (m ≤ 2 ^ k ∧ a ≤ 2 ^ k) := by
        have : ¬ ((if (a : Int) > (m : Int) then (a : Int) else (m : Int)) ≤ ((2 ^ k : Nat) : Int)) := hsm
        split at this <;> omega
      simp only [takeFrom, hno, if_neg hsm']
  · simp only at hge
    have : k = ms.length := by omega
    subst this
    have hat : takeAt n S m a = none := takeFrom_none h hno 11 (by omega)
    have := hR h' (Ext.refl _ _)
    simp only [takeS, takeV, takeE, hok, Int.toNat_natCast, hat, if_true] at this
    exact this h

end Go.Bu
