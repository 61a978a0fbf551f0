/- The heap of free blocks in memory, and what its reading and writing words give. -/
import Derived.Test.YtimoepajidnmjaaBuA
import Derived.Test.YtimoepajidnmjaaVcL
namespace Go.Bu
open Go Go.Vc
set_option linter.unusedSimpArgs false
set_option linter.unusedVariables false

theorem bits_xor_i64 {a b : Nat} (ha : a < 9223372036854775808) (hb : b < 9223372036854775808) : bits .xor .i64 (a : Int) (b : Int) = ((a ^^^ b : Nat) : Int) := by
  have hx : a ^^^ b < 2 ^ 63 := Nat.xor_lt_two_pow (by omega) (by omega)
  have h1 : (BitVec.ofInt 64 (a : Int)).toNat = a := by
    rw [BitVec.ofInt_natCast, BitVec.toNat_ofNat]; exact Nat.mod_eq_of_lt (by omega)
  have h2 : (BitVec.ofInt 64 (b : Int)).toNat = b := by
    rw [BitVec.ofInt_natCast, BitVec.toNat_ofNat]; exact Nat.mod_eq_of_lt (by omega)
  show IntKind.i64.wrap ((BitVec.ofInt 64 (a : Int) ^^^ BitVec.ofInt 64 (b : Int)).toNat : Int) = _
  rw [BitVec.toNat_xor, h1, h2, wrap_i64] <;> omega
theorem bits_and_i64 {a b : Nat} (ha : a < 9223372036854775808) (hb : b < 9223372036854775808) : bits .and .i64 (a : Int) (b : Int) = ((a &&& b : Nat) : Int) := by
  have hx : a &&& b < 2 ^ 63 := Nat.and_lt_two_pow _ (by omega)
  have h1 : (BitVec.ofInt 64 (a : Int)).toNat = a := by
    rw [BitVec.ofInt_natCast, BitVec.toNat_ofNat]; exact Nat.mod_eq_of_lt (by omega)
  have h2 : (BitVec.ofInt 64 (b : Int)).toNat = b := by
    rw [BitVec.ofInt_natCast, BitVec.toNat_ofNat]; exact Nat.mod_eq_of_lt (by omega)
  show IntKind.i64.wrap ((BitVec.ofInt 64 (a : Int) &&& BitVec.ofInt 64 (b : Int)).toNat : Int) = _
  rw [BitVec.toNat_and, h1, h2, wrap_i64] <;> omega

theorem xor_one (q : Nat) : q ^^^ 1 = mate q := by
  apply Nat.eq_of_testBit_eq
  intro i
  rw [Nat.testBit_xor]
  unfold mate
  cases i with
  | zero =>
    simp only [Nat.testBit_zero]
    split <;> rename_i h
    · have : (q + 1) % 2 = 1 := by omega
      simp [h, this]
    · have h1 : q % 2 = 1 := by omega
      have : (q - 1) % 2 = 0 := by omega
      simp [h1, this]
  | succ i =>
    simp only [Nat.testBit_succ]
    have h0 : (1 : Nat) / 2 = 0 := by decide
    rw [h0, Nat.zero_testBit, Bool.xor_false]
    congr 1
    split <;> omega
theorem xor_mate (q k : Nat) : (q * 2 ^ k) ^^^ (2 ^ k) = mate q * 2 ^ k := by
  have h := Nat.shiftLeft_xor_distrib (a := q) (b := 1) (i := k)
  rw [xor_one, Nat.shiftLeft_eq, Nat.shiftLeft_eq, Nat.shiftLeft_eq, Nat.one_mul] at h
  exact h.symm

theorem pow_small {k : Nat} (h : k ≤ 62) : 2 ^ k ≤ 4611686018427387904 := Nat.pow_le_pow_right (n := 2) (by decide) h
theorem cast_pow (k : Nat) : ((2 : Int) ^ k) = ((2 ^ k : Nat) : Int) := by simp

/-- The keys of the map of order `k`. -/
def Keys (S : Nat → Bool) (k : Nat) (B : List (Int × Bool)) : Prop :=
  (∀ x v, (x, v) ∈ B → v = true ∧ ∃ q : Nat, x = ((q * 2 ^ k : Nat) : Int) ∧ can S k q = true) ∧ ∀ q, can S k q = true → (((q * 2 ^ k : Nat) : Int), true) ∈ B

structure BH (σ : Hp) (p n : Nat) (S : Nat → Bool) (sb : Nat) (ms : List Nat) : Prop where
  hd : ∃ cap, Blk σ p [.int .i64 n, .slice (some ⟨sb, 0, none⟩) ms.length cap]
  row : ∃ rest, Blk σ sb (ms.map (fun m => Value.map (some m)) ++ rest)
  maps : ∀ k m, ms[k]? = some m → ∃ B : List (Int × Bool), MapL σ m .i64 .b B ∧ Keys S k B
  nd : (p :: sb :: ms).Nodup
  n1 : 1 ≤ n
  n2 : n ≤ 1024
  lo : 2 ^ ms.length ≤ 2 * n
  hi : n < 2 ^ ms.length
  bnd : Bounded S n

def fp (p sb : Nat) (ms : List Nat) (b : Nat) : Prop := b ∈ p :: sb :: ms

variable {σ h' : Hp} {p n sb : Nat} {S : Nat → Bool} {ms : List Nat}

theorem BH.len (h : BH σ p n S sb ms) : ms.length ≤ 11 := by
  have := h.lo
  have := h.n2
  apply Classical.byContradiction
  intro hc
  have : 2 ^ 12 ≤ 2 ^ ms.length := Nat.pow_le_pow_right (by decide) (by omega)
  omega
theorem BH.len1 (h : BH σ p n S sb ms) : 1 ≤ ms.length := by
  have h1 := h.hi
  have h2 := h.n1
  rcases Nat.eq_zero_or_pos ms.length with e | e
  · rw [e] at h1; simp at h1; omega
  · exact e
theorem BH.fits (h : BH σ p n S sb ms) {k q : Nat} (hf : q * 2 ^ k + 2 ^ k ≤ n) : k < ms.length := by
  apply Classical.byContradiction
  intro hc
  have : 2 ^ ms.length ≤ 2 ^ k := Nat.pow_le_pow_right (by decide) (by omega)
  have := h.hi
  omega
theorem BH.ldN (h : BH σ p n S sb ms) : cell σ ⟨p, 0, none⟩ = some (.int .i64 n) := by
  obtain ⟨cap, hb⟩ := h.hd; rw [hb.cell]; rfl
theorem BH.ldB (h : BH σ p n S sb ms) : ∃ cap, cell σ ⟨p, 1, none⟩ = some (.slice (some ⟨sb, 0, none⟩) ms.length cap) := by
  obtain ⟨cap, hb⟩ := h.hd; exact ⟨cap, by rw [hb.cell]; rfl⟩
theorem BH.ldR (h : BH σ p n S sb ms) {k m : Nat} (hm : ms[k]? = some m) : cell σ ⟨sb, k, none⟩ = some (.map (some m)) := by
  obtain ⟨rest, hb⟩ := h.row
  rw [hb.cell, List.getElem?_append_left (by simpa using (List.getElem?_eq_some_iff.1 hm).1), List.getElem?_map, hm]
  rfl
theorem BH.get (h : BH σ p n S sb ms) {k : Nat} (hk : k < ms.length) : ∃ m, ms[k]? = some m := ⟨ms[k], by simp [hk]⟩

/-- Only the blocks outside the heap's own may differ. -/
theorem BH.keep (h : BH σ p n S sb ms) {F : Nat → Prop} (e : Ext F σ h') (hF : ∀ b, fp p sb ms b → ¬ F b) : BH h' p n S sb ms where
  hd := by obtain ⟨cap, hb⟩ := h.hd; exact ⟨cap, e.blk hb (hF _ (by simp [fp]))⟩
  row := by obtain ⟨rest, hb⟩ := h.row; exact ⟨rest, e.blk hb (hF _ (by simp [fp]))⟩
  maps := fun k m hm => by
    obtain ⟨B, hB, hk⟩ := h.maps k m hm
    exact ⟨B, e.mapL hB (hF _ (by simp [fp, List.mem_of_getElem? hm])), hk⟩
  nd := h.nd
  n1 := h.n1
  n2 := h.n2
  lo := h.lo
  hi := h.hi
  bnd := h.bnd
theorem BH.keep0 (h : BH σ p n S sb ms) (e : Ext0 σ h') : BH h' p n S sb ms := h.keep e fun _ _ => id

theorem get_keys {k : Nat} {B : List (Int × Bool)} (hK : Keys S k B) (hn : (B.map (·.1)).Nodup) (q : Nat) : mget B ((q * 2 ^ k : Nat) : Int) = if can S k q then some true else none := by
  unfold mget
  cases hf : B.find? fun x => x.1 == ((q * 2 ^ k : Nat) : Int) with
  | some x =>
    have h1 := List.find?_some hf
    have hmem := List.mem_of_find?_eq_some hf
    obtain ⟨x1, x2⟩ := x
    obtain ⟨hv, q', hx, hc⟩ := hK.1 x1 x2 hmem
    have h1' : x1 = ((q * 2 ^ k : Nat) : Int) := by simpa using h1
    rw [h1'] at hx
    have : q * 2 ^ k = q' * 2 ^ k := by exact_mod_cast hx
    have := Nat.eq_of_mul_eq_mul_right (Nat.two_pow_pos k) this
    subst this
    subst hv
    simp [hc]
  | none =>
    rw [List.find?_eq_none] at hf
    by_cases hc : can S k q = true
    · have := hf _ (hK.2 q hc)
      simp at this
    · simp [hc]

/-- A map of the heap, asked for a key. -/
theorem BH.lk (h : BH σ p n S sb ms) {k m q : Nat} (hm : ms[k]? = some m) {x : Int} (hx : x = ((q * 2 ^ k : Nat) : Int)) {K : Option Bool → Prop}
    (hK : K (if can S k q then some true else none)) : Lk .i64 .b (some m) x σ K := by
  obtain ⟨B, hB, hk⟩ := h.maps k m hm
  exact ⟨B, hB, by rw [hx, get_keys hk hB.nodup]; exact hK⟩

theorem keys_count {k : Nat} {B : List (Int × Bool)} (hK : Keys S k B) (hn : (B.map (·.1)).Nodup) (hb : Bounded S n) : B.length = many n S k := by
  have hp : (B.map (·.1)).Perm (((List.range n).filter (can S k)).map fun q => ((q * 2 ^ k : Nat) : Int)) := by
    rw [List.perm_ext_iff_of_nodup hn]
    · intro x
      simp only [List.mem_map, List.mem_filter, List.mem_range]
      constructor
      · rintro ⟨⟨x1, x2⟩, hm, rfl⟩
        obtain ⟨_, q, hx, hc⟩ := hK.1 x1 x2 hm
        refine ⟨q, ⟨?_, hc⟩, hx.symm⟩
        have := full_bound hb (can_iff.1 hc).1
        have h1 := Nat.two_pow_pos k
        have h2 : q ≤ q * 2 ^ k := Nat.le_mul_of_pos_right _ h1
        omega
      · rintro ⟨q, ⟨_, hc⟩, rfl⟩
        exact ⟨_, hK.2 q hc, rfl⟩
    · have hnd : ((List.range n).filter (can S k)).Pairwise (· ≠ ·) := List.Pairwise.sublist List.filter_sublist List.nodup_range
      refine List.Pairwise.map _ (fun a b (hne : a ≠ b) hab => hne ?_) hnd
      have : a * 2 ^ k = b * 2 ^ k := by exact_mod_cast hab
      exact Nat.eq_of_mul_eq_mul_right (Nat.two_pow_pos k) this
  have := hp.length_eq
  simp only [List.length_map] at this
  rw [this, many, List.countP_eq_length_filter]

theorem BH.mlen (h : BH σ p n S sb ms) {k m : Nat} (hm : ms[k]? = some m) {K : Int → Prop} (hK : K ((many n S k : Nat) : Int)) : MLen .i64 .b (some m) σ K := by
  obtain ⟨B, hB, hk⟩ := h.maps k m hm
  exact ⟨B, hB, by rw [keys_count hk hB.nodup h.bnd]; exact hK⟩

/-- One of the heap's maps is another one now. -/
theorem BH.turn (h : BH σ p n S sb ms) {k m : Nat} {T : Nat → Bool} (hm : ms[k]? = some m) (ho : OnlyB σ h' m) {B' : List (Int × Bool)} (hB' : MapL h' m .i64 .b B') (hK' : Keys T k B')
    (hoth : ∀ j q, j ≠ k → can T j q = can S j q) (hT : Bounded T n) : BH h' p n T sb ms where
  hd := by
    obtain ⟨cap, hb⟩ := h.hd
    refine ⟨cap, only_blk ho hb ?_⟩
    have := h.nd; simp only [List.nodup_cons, List.mem_cons, not_or] at this
    rintro rfl; exact this.1.2 (List.mem_of_getElem? hm)
  row := by
    obtain ⟨rest, hb⟩ := h.row
    refine ⟨rest, only_blk ho hb ?_⟩
    have := h.nd; simp only [List.nodup_cons, List.mem_cons, not_or] at this
    rintro rfl; exact this.2.1 (List.mem_of_getElem? hm)
  maps := fun j m' hm' => by
    by_cases e : j = k
    · subst e
      rw [hm] at hm'; cases hm'
      exact ⟨B', hB', hK'⟩
    · obtain ⟨B, hB, hKj⟩ := h.maps j m' hm'
      refine ⟨B, only_mapL ho hB ?_, ?_⟩
      · rintro rfl
        have hnd := h.nd
        simp only [List.nodup_cons] at hnd
        exact e ((List.getElem?_inj (List.getElem?_eq_some_iff.1 hm').1 hnd.2.2).1 (hm'.trans hm.symm))
      · refine ⟨fun x v hx => ?_, fun q hq => hKj.2 q (by rw [← hoth j q e]; exact hq)⟩
        obtain ⟨hv, q, hxq, hc⟩ := hKj.1 x v hx
        exact ⟨hv, q, hxq, by rw [hoth j q e]; exact hc⟩
  nd := h.nd
  n1 := h.n1
  n2 := h.n2
  lo := h.lo
  hi := h.hi
  bnd := hT

theorem bnd_del (hb : Bounded S n) (k q : Nat) : Bounded (del S k q) n := fun x hx => hb x (del_iff.1 hx).1
theorem bnd_ins (hb : Bounded S n) {k q : Nat} (hf : q * 2 ^ k + 2 ^ k ≤ n) : Bounded (ins S k q) n := fun x hx => by
  rcases ins_iff.1 hx with h | h
  · exact hb x h
  · have := place_iff.1 h; omega

theorem bool_eq {a b : Bool} (h : a = true ↔ b = true) : a = b := by cases a <;> cases b <;> simp_all

/-- A free block is taken out of its map. -/
theorem BH.mdelR (h : BH σ p n S sb ms) {k m q : Nat} (hm : ms[k]? = some m) (hc : can S k q = true) {x : Int} (hx : x = ((q * 2 ^ k : Nat) : Int)) {K : Hp → Prop}
    (hK : ∀ h', Ext (· ∈ ms) σ h' → BH h' p n (del S k q) sb ms → K h') : MDel .i64 .b (some m) x σ K := by
  obtain ⟨B, hB, hk⟩ := h.maps k m hm
  refine ⟨B, hB, fun h' ho _ hB' => hK h' (Ext.of_only (ho m rfl) (List.mem_of_getElem? hm)) ?_⟩
  refine h.turn hm (ho m rfl) hB' ⟨fun y v hy => ?_, fun r hr => ?_⟩ (fun j r hj => bool_eq ?_) (bnd_del h.bnd k q)
  · simp only [mdel, List.mem_filter, Bool.not_eq_true', beq_eq_false_iff_ne] at hy
    obtain ⟨hv, r, hyr, hcr⟩ := hk.1 y v hy.1
    refine ⟨hv, r, hyr, (can_del hc).2 ⟨hcr, fun e => hy.2 ?_⟩⟩
    rw [hyr, hx, e.2]
  · have hr' := (can_del hc).1 hr
    simp only [mdel, List.mem_filter, Bool.not_eq_true', beq_eq_false_iff_ne]
    refine ⟨hk.2 r hr'.1, fun e => hr'.2 ⟨rfl, ?_⟩⟩
    rw [hx] at e
    have : r * 2 ^ k = q * 2 ^ k := by exact_mod_cast e
    exact Nat.eq_of_mul_eq_mul_right (Nat.two_pow_pos k) this
  · rw [can_del hc]
    exact ⟨fun h => h.1, fun h => ⟨h, fun e => hj e.1⟩⟩

/-- A block is put into its map. -/
theorem BH.msetR (h : BH σ p n S sb ms) {k m q : Nat} (hm : ms[k]? = some m) (hd : ∀ y, y / 2 ^ k = q → S y = false) (hup : ¬ full (ins S k q) (k + 1) (q / 2) = true) (hf : q * 2 ^ k + 2 ^ k ≤ n)
    {x : Int} (hx : x = ((q * 2 ^ k : Nat) : Int)) {K : Hp → Prop} (hK : ∀ h', Ext (· ∈ ms) σ h' → BH h' p n (ins S k q) sb ms → K h') : MSet .i64 .b (some m) x true σ K := by
  obtain ⟨B, hB, hk⟩ := h.maps k m hm
  refine ⟨m, B, rfl, hB, fun h' ho hB' => hK h' (Ext.of_only ho (List.mem_of_getElem? hm)) ?_⟩
  have hnew : ∀ y ∈ B, (y.1 == x) = false := by
    rintro ⟨y, v⟩ hy
    obtain ⟨_, r, hyr, hcr⟩ := hk.1 y v hy
    simp only [beq_eq_false_iff_ne]
    rintro rfl
    rw [hx] at hyr
    have : q * 2 ^ k = r * 2 ^ k := by exact_mod_cast hyr
    have := Nat.eq_of_mul_eq_mul_right (Nat.two_pow_pos k) this
    subst this
    have h1 := can_free hcr (first_in k q)
    rw [hd _ (first_in k q)] at h1
    cases h1
  have hset : mset B x true = B ++ [(x, true)] := by
    unfold mset
    rw [if_neg]
    simp only [Bool.not_eq_true, List.any_eq_false]
    intro y hy; simp [hnew y hy]
  refine h.turn hm ho hB' ?_ (fun j r hj => bool_eq ?_) (bnd_ins h.bnd hf)
  · rw [hset]
    refine ⟨fun y v hy => ?_, fun r hr => ?_⟩
    · simp only [List.mem_append, List.mem_singleton, Prod.mk.injEq] at hy
      rcases hy with hy | ⟨rfl, rfl⟩
      · obtain ⟨hv, r, hyr, hcr⟩ := hk.1 y v hy
        exact ⟨hv, r, hyr, (can_ins hd hup).2 (.inl hcr)⟩
      · exact ⟨rfl, q, hx, (can_ins hd hup).2 (.inr ⟨rfl, rfl⟩)⟩
    · rcases (can_ins hd hup).1 hr with h1 | ⟨_, rfl⟩
      · exact List.mem_append_left _ (hk.2 r h1)
      · rw [hx]; exact List.mem_append_right _ (by simp)
  · rw [can_ins hd hup]
    exact ⟨fun h => h.elim id fun e => (hj e.1).elim, .inl⟩

theorem mem_fp {p sb b : Nat} {ms : List Nat} (h : b ∈ ms) : fp p sb ms b := by simp [fp, h]

end Go.Bu
