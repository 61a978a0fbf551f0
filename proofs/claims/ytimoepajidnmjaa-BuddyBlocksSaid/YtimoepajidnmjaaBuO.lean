/- The law BuddyBlocks returns true. -/
import Derived.Test.YtimoepajidnmjaaBuM
namespace Go.Bu
open Go Go.Vc Go.Proofs
set_option linter.unusedSimpArgs false
set_option linter.unusedVariables false

variable {σ : Hp} {p n sb : Nat} {S : Nat → Bool} {ms : List Nat}

/-- How often a page was told: once, or not. -/
def tab (n : Nat) (U : Nat → Bool) : List Value := (List.range n).map fun p => Value.int .i64 (if U p then 1 else 0)
theorem tab_at {n p : Nat} {U : Nat → Bool} (h : p < n) : (tab n U)[p]? = some (.int .i64 (if U p then 1 else 0)) := by simp [tab, h]
theorem tab_len (n : Nat) (U : Nat → Bool) : (tab n U).length = n := by simp [tab]
theorem tab_zero (n : Nat) : (List.replicate n [Value.int .i64 0]).flatten = tab n fun _ => false := by
  apply List.ext_getElem
  · simp [tab]
  · intro i h1 h2
    simp [tab]
theorem tab_set {n p : Nat} {U V : Nat → Bool} (h : ∀ x, x < n → V x = (U x || x == p)) : (tab n U).set p (.int .i64 1) = tab n V := by
  apply List.ext_getElem
  · simp [tab]
  · intro i h1 h2
    simp only [tab_len] at h2
    rw [List.getElem_set]
    split
    · rename_i e; subst e
      simp [tab, h p h2]
    · rename_i e
      have : (i == p) = false := by simp; omega
      simp [tab, h i h2, this]
theorem tab_congr {n : Nat} {U V : Nat → Bool} (h : ∀ x, x < n → U x = V x) : tab n U = tab n V := by
  unfold tab
  apply List.map_congr_left
  intro x hx
  rw [h x (List.mem_range.1 hx)]

/-- Told are the pages of the blocks of lower orders, and those of order `k` below `lim`. -/
def mark (S : Nat → Bool) (k lim : Nat) : Nat → Bool := fun p => below S k p || (can S k (p / 2 ^ k) && decide (p < lim))
theorem mark_zero (S : Nat → Bool) (k : Nat) : mark S k 0 = below S k := by funext p; simp [mark]
theorem below_not {k p : Nat} (hc : can S k (p / 2 ^ k) = true) : below S k p = false := by
  cases hb : below S k p
  · rfl
  · simp only [below, List.any_eq_true, List.mem_range] at hb
    obtain ⟨j, hj, hcj⟩ := hb
    have := (can_unique hcj hc rfl rfl).1
    omega
theorem below_succ (S : Nat → Bool) (k p : Nat) : below S (k + 1) p = (below S k p || can S k (p / 2 ^ k)) := by
  simp [below, List.range_succ, List.any_append]
theorem below_all (h : BH σ p n S sb ms) (x : Nat) : below S 11 x = S x := by
  rw [Bool.eq_iff_iff]
  simp only [below, List.any_eq_true, List.mem_range]
  constructor
  · rintro ⟨k, _, hc⟩; exact can_free hc rfl
  · intro hx
    obtain ⟨k, hc⟩ := can_exists h.bnd hx
    exact ⟨k, by have := h.fits (full_bound h.bnd (can_iff.1 hc).1); have := h.len; omega, hc⟩

/-- Between the end of one block and the start of the next there is no page of a block of the order. -/
theorem mark_gap (hb : Bounded S n) {k i x lim : Nat} (hx : (blocks n S k)[i]? = some x) (hlim : lim = if i = 0 then 0 else (blocks n S k).getD (i - 1) 0 + 2 ^ k) (hle : lim ≤ x) : mark S k lim = mark S k x := by
  funext p
  simp only [mark]
  cases hc : can S k (p / 2 ^ k)
  · simp
  · have : decide (p < lim) = decide (p < x) := by
      rw [decide_eq_decide]
      constructor
      · intro h; omega
      · intro h
        have hmem : p / 2 ^ k * 2 ^ k ∈ blocks n S k := (mem_blocks hb).2 ⟨_, rfl, hc⟩
        obtain ⟨j, hj, he⟩ := List.getElem_of_mem hmem
        have hsort := List.pairwise_iff_getElem.1 (blocks_sorted n S k)
        have hi := (List.getElem?_eq_some_iff.1 hx)
        obtain ⟨hil, hxe⟩ := hi
        have hin := (place_iff (k := k) (q := p / 2 ^ k) (p := p)).1 rfl
        have hji : j < i := by
          rcases Nat.lt_trichotomy j i with h1 | h1 | h1
          · exact h1
          · subst h1; omega
          · have := hsort i j hil hj h1; omega
        have hi0 : i ≠ 0 := by omega
        rw [if_neg hi0] at hlim
        have hle2 : (blocks n S k)[j] ≤ (blocks n S k).getD (i - 1) 0 := by
          rw [List.getD_eq_getElem?_getD, List.getElem?_eq_getElem (by omega), Option.getD_some]
          rcases Nat.lt_or_ge j (i - 1) with h1 | h1
          · have := hsort j (i - 1) hj (by omega) h1; omega
          · have : j = i - 1 := by omega
            subst this; omega
        omega
    rw [this]
theorem mark_end (hb : Bounded S n) {k lim : Nat} (hlim : lim = if (blocks n S k).length = 0 then 0 else (blocks n S k).getD ((blocks n S k).length - 1) 0 + 2 ^ k) : mark S k lim = below S (k + 1) := by
  funext p
  rw [below_succ]
  simp only [mark]
  cases hc : can S k (p / 2 ^ k)
  · simp
  · have : p < lim := by
      have hmem : p / 2 ^ k * 2 ^ k ∈ blocks n S k := (mem_blocks hb).2 ⟨_, rfl, hc⟩
      obtain ⟨j, hj, he⟩ := List.getElem_of_mem hmem
      have hsort := List.pairwise_iff_getElem.1 (blocks_sorted n S k)
      rw [if_neg (by omega)] at hlim
      have hin := (place_iff (k := k) (q := p / 2 ^ k) (p := p)).1 rfl
      have hle2 : (blocks n S k)[j] ≤ (blocks n S k).getD ((blocks n S k).length - 1) 0 := by
        rw [List.getD_eq_getElem?_getD, List.getElem?_eq_getElem (by omega), Option.getD_some]
        rcases Nat.lt_or_ge j ((blocks n S k).length - 1) with h1 | h1
        · have := hsort j ((blocks n S k).length - 1) hj (by omega) h1; omega
        · have : j = (blocks n S k).length - 1 := by omega
          subst this; omega
      omega
    simp [this]

/-- A free block's start, read. -/
theorem rdB {B : Nat} {h : Hp} {s : Sl} {L : List Nat} (hs : SlF B h s (ints L)) {i x : Nat} (hx : L[i]? = some x) {K : Int → Prop} (hK : K (x : Int)) : Ix s.a s.len (i : Int) 1 fun a => LdI .i64 a h K := by
  have es : ints L = (L.map fun (x : Nat) => (x : Int)).map (Value.int .i64) := by simp [ints, List.map_map, Function.comp_def]
  rw [es] at hs
  exact hs.ixI (by simp [hx]) hK

theorem Blocks_yes {l : Sl} {xs : List (Int × Int × Int)} {pages : Nat} (ha : Acts σ l xs) (hp : pages < 65536) : freeholdlaw03_BuddyBlocks.call (pages : Int) l σ (Yes σ) := by
  refine freeholdlaw03_BuddyBlocks.of_vc ?_
  unfold freeholdlaw03_BuddyBlocks.vc
  refine great_ok (ifD (fun _ => alive_jn (Ext.refl _ _)) fun hg => ?_)
  refine made_use ha hp hg fun h0 q sb ms n S hn _ e0 hB hF => ifF rfl ?_
  have n1 := hB.n1
  have n2 := hB.n2
  have bnd := hB.bnd
  have hmod : ((pages : Int).tmod 1024) = ((pages % 1024 : Nat) : Int) := by rw [tmod_nn (by omega)]; simp
  refine arN (m := pages) rfl (by omega) (nz (by decide) ?_)
  refine arN (m := n) (by rw [hmod]; omega) (by omega) ?_
  refine ⟨by omega, by omega, by omega, by omega, ?_⟩
  unfold Nw
  rw [Int.toNat_natCast, tab_zero]
  obtain ⟨tb, htb⟩ : ∃ tb, h0.size = tb := ⟨_, rfl⟩
  have hT0 : Blk (h0.push (.cells (tab n fun _ => false).toArray 3 (0, 0))) tb (tab n fun _ => false) := by rw [← htb]; exact Blk.push _ _ _
  have e1 := ext_push h0 (.cells (tab n fun _ => false).toArray 3 (0, 0))
  have hs1 : (h0.push (.cells (tab n fun _ => false).toArray 3 (0, 0))).size = tb + 1 := by rw [← htb]; simp
  rw [htb]
  generalize h0.push (.cells (tab n fun _ => false).toArray 3 (0, 0)) = h1 at *
  have hB1 := hB.keep0 e1
  have notfp : ∀ b, fp q sb ms b → ¬ b = tb := fun b hb e => by have := hB.fp_lt hb; omega
  have k1 : Ext0 σ h1 := e0.trans e1
  have ztb : σ.size ≤ tb := by have := e0.1; omega
  have fresh : ∀ {h : Hp}, Ext (· = tb) h1 h → Ext0 σ h := fun ex => Ext.fresh k1 ex fun b hb => by omega
  refine loop1 (a := .i .i64) (fun (t : Int) h => ∃ k : Nat, t = (k : Int) ∧ k ≤ 11 ∧ Ext (· = tb) h1 h ∧ Blk h tb (tab n (below S k))) (fun t _ => 11 - t.toNat) ⟨0, rfl, by omega, Ext.refl _ _, ?_⟩ ?_
  · have : below S 0 = fun _ => false := by funext p; simp [below]
    rw [this]; exact hT0
  rintro t h ⟨k, rfl, hk, hE, hT⟩
  have hBh := hB1.keep hE notfp
  have hpk := Nat.two_pow_pos k
  refine ifD (fun hle => ?_) fun hgt => ?_
  · -- one order
    refine Blocks_ok hBh _ fun s h2 e2 hs => ?_
    have hbl : blocksI n S (k : Int) = blocks n S k := by simp [blocksI]
    rw [hbl] at hs
    have hslen : s.len = (blocks n S k).length := by rw [hs.1]; simp [ints]
    have hBlen := blocks_lt bnd (k : Int)
    rw [hbl] at hBlen
    have hBh2 := hBh.keep0 e2
    have hp1024 : 2 ^ k ≤ 1024 := pow_le_1024 (by omega)
    have htbh : tb < h.size := by have := hE.1; omega
    refine loop1 (a := .i .i64) (fun (t : Int) h' => ∃ i : Nat, t = (i : Int) ∧ i ≤ (blocks n S k).length ∧ Ext (· = tb) h2 h' ∧ Blk h' tb (tab n (mark S k (if i = 0 then 0 else (blocks n S k).getD (i - 1) 0 + 2 ^ k)))) (fun t _ => (blocks n S k).length - t.toNat)
      ⟨0, rfl, by omega, Ext.refl _ _, ?_⟩ ?_
    · rw [if_pos rfl, mark_zero]
      exact e2.blk hT id
    rintro t h' ⟨i, rfl, hi, hE', hT'⟩
    have hs' := hs.keep hE' fun b hb => by omega
    refine ifD (fun hlt => ?_) fun hge => ?_
    · have hil : i < (blocks n S k).length := by omega
      obtain ⟨x, hx⟩ : ∃ x, (blocks n S k)[i]? = some x := ⟨_, List.getElem?_eq_getElem hil⟩
      obtain ⟨r, hxr, hcan⟩ := (mem_blocks bnd).1 (List.mem_of_getElem? hx)
      have hfb := full_bound bnd (can_iff.1 hcan).1
      rw [← hxr] at hfb
      have hsort := List.pairwise_iff_getElem.1 (blocks_sorted n S k)
      have prev : 0 < i → ∃ y, (blocks n S k)[i - 1]? = some y ∧ y + 2 ^ k ≤ x ∧ (y + 2 ^ k = x → y % (2 * 2 ^ k) ≠ 0) := by
        intro hi0
        obtain ⟨y, hy⟩ : ∃ y, (blocks n S k)[i - 1]? = some y := ⟨_, List.getElem?_eq_getElem (by omega)⟩
        obtain ⟨u, hyu, hcanu⟩ := (mem_blocks bnd).1 (List.mem_of_getElem? hy)
        obtain ⟨hyl, hye⟩ := List.getElem?_eq_some_iff.1 hy
        obtain ⟨hxl, hxe⟩ := List.getElem?_eq_some_iff.1 hx
        have hlt := hsort (i - 1) i hyl hxl (by omega)
        have hur : u < r := by
          apply Classical.byContradiction
          intro hc
          have : r * 2 ^ k ≤ u * 2 ^ k := Nat.mul_le_mul_right _ (by omega)
          omega
        have hur2 : (u + 1) * 2 ^ k ≤ r * 2 ^ k := Nat.mul_le_mul_right _ hur
        rw [Nat.add_mul, Nat.one_mul] at hur2
        refine ⟨y, hy, by omega, fun heq hm => ?_⟩
        have hr1 : r = u + 1 := by
          have : (u + 1) * 2 ^ k = r * 2 ^ k := by rw [Nat.add_mul, Nat.one_mul]; omega
          exact (Nat.eq_of_mul_eq_mul_right hpk this).symm
        have hu2 : u % 2 = 0 := by
          rw [hyu, Nat.mul_comm 2 (2 ^ k), Nat.mul_comm u (2 ^ k), Nat.mul_mod_mul_left] at hm
          rcases Nat.mul_eq_zero.1 hm with h5 | h5
          · omega
          · exact h5
        refine (can_iff.1 hcanu).2 (full_iff.2 fun z hz => ?_)
        rcases in_parent.1 hz with h5 | h5
        · exact can_free hcanu h5
        · have : mate u = r := by unfold mate; rw [if_pos hu2]; omega
          rw [this] at h5
          exact can_free hcan h5
      have limle : (if i = 0 then 0 else (blocks n S k).getD (i - 1) 0 + 2 ^ k) ≤ x := by
        split
        · omega
        · rename_i hi0
          obtain ⟨y, hy, hyx, _⟩ := prev (by omega)
          rw [List.getD_eq_getElem?_getD, hy, Option.getD_some]; exact hyx
      rw [mark_gap bnd hx rfl limle] at hT'
      -- the pages of the block
      have main : LoopK [(.i .i64)] (fun I2 => I2 (x : Int) h') fun J8 (p1 : Int) v13 =>
             Ix s.a s.len (i : Int) 1 fun a126 =>
             LdI .i64 a126 v13 fun t127 =>
             Nn (k : Int) <| Ar .i64 (1 * 2 ^ (min (k : Int).toNat IntKind.i64.bits)) fun t129 =>
             Ar .i64 (t127 + t129) fun t130 =>
             If (decide (p1 < t130)) (Ix (some ⟨tb, 0, none⟩) n p1 1 fun a136 =>
              LdI .i64 a136 v13 fun t137 =>
              Ar .i64 (t137 + 1) fun t138 =>
              Ix (some ⟨tb, 0, none⟩) n p1 1 fun a139 =>
              St1 a139 (.int .i64 t138) v13 fun v14 =>
              Ar .i64 (p1 + 1) fun p2 =>
              J8 p2 v14)
              (Ar .i64 ((i : Int) + 1) fun i1 =>
              (∃ i : Nat, i1 = (i : Int) ∧ i ≤ (blocks n S k).length ∧ Ext (· = tb) h2 v13 ∧ Blk v13 tb (tab n (mark S k (if i = 0 then 0 else (blocks n S k).getD (i - 1) 0 + 2 ^ k)))) ∧ (blocks n S k).length - i1.toNat < (blocks n S k).length - (i : Int).toNat) := by
        refine loop1 (a := .i .i64) (fun (t : Int) h'' => ∃ y : Nat, t = (y : Int) ∧ x ≤ y ∧ y ≤ x + 2 ^ k ∧ Ext (· = tb) h2 h'' ∧ Blk h'' tb (tab n (mark S k y))) (fun t _ => x + 2 ^ k - t.toNat) ⟨x, rfl, by omega, by omega, hE', hT'⟩ ?_
        rintro t h'' ⟨y, rfl, hxy, hyx, hE'', hT''⟩
        have hs'' := hs.keep hE'' fun b hb => by omega
        refine rdB hs'' hx (shl1 (by omega) (arN (m := x + 2 ^ k) (by omega) (by omega) ?_))
        refine ifD (fun hlt => ?_) fun hge => ?_
        · have hyr : y / 2 ^ k = r := place_iff.2 (by omega)
          have hcy : can S k (y / 2 ^ k) = true := by rw [hyr]; exact hcan
          have hmy : mark S k y y = false := by simp [mark, below_not hcy]
          refine ix (by omega) (by omega) ?_
          rw [add_lit]
          refine ldI (n := 0) (by rw [hT''.cell, show 0 + ((y : Nat) : Int).toNat * 1 = y by omega, tab_at (by omega), hmy]; rfl) ?_
          refine arN (m := 1) (by omega) (by omega) (ix (by omega) (by omega) ?_)
          rw [show (0 : Nat) = 0 from rfl, show ((y : Nat) : Int).toNat * 1 = y by omega]
          refine hT''.st1 (by rw [tab_len]; omega) fun h5 ho hb5 => ?_
          refine arN (m := y + 1) (by omega) (by omega) ⟨⟨y + 1, rfl, by omega, by omega, hE''.only ho (.inl rfl), ?_⟩, by omega⟩
          have : (tab n (mark S k y)).set y (.int .i64 ((1 : Nat) : Int)) = tab n (mark S k (y + 1)) := by
            refine tab_set fun z hz => ?_
            simp only [mark]
            by_cases hzy : z = y
            · subst hzy; simp [hcy]
            · have h6 : (z == y) = false := by simpa using hzy
              have h7 : decide (z < y + 1) = decide (z < y) := by rw [decide_eq_decide]; omega
              rw [h6, h7, Bool.or_false]
          rw [this] at hb5
          exact hb5
        · have hyeq : y = x + 2 ^ k := by omega
          refine arN (m := i + 1) (by omega) (by omega) ⟨⟨i + 1, rfl, by omega, hE'', ?_⟩, by omega⟩
          rw [if_neg (by omega), Nat.add_sub_cancel, List.getD_eq_getElem?_getD, hx, Option.getD_some, ← hyeq]
          exact hT''
      refine rdB hs' hx (JnB.intro (ifDF (by omega) ?_))
      refine rdB hs' hx (JnB.intro (ifDF (by omega) ?_))
      refine rdB hs' hx (shl1 (by omega) (nz (by omega) (JnB.intro (ifF (by rw [hxr, tmod_mul r (Nat.le_refl k)]; rfl) ?_))))
      refine shl1 (by omega) (rdB hs' hx (arN (m := n - x) (by omega) (by omega) (JnB.intro (ifDF (by omega) ?_))))
      refine JnB.intro ?_
      have tail : (JnB (fun r4 v11 =>
           JnB (fun r5 v12 =>
            If r5 (Yes σ false v12)
             (Ix s.a s.len (i : Int) 1 fun a121 =>
             LdI .i64 a121 v12 fun p =>
             LoopK [(.i .i64)] (fun I2 => I2 p v12) fun J8 (p1 : Int) v13 =>
             Ix s.a s.len (i : Int) 1 fun a126 =>
             LdI .i64 a126 v13 fun t127 =>
             Nn (k : Int) <| Ar .i64 (1 * 2 ^ (min (k : Int).toNat IntKind.i64.bits)) fun t129 =>
             Ar .i64 (t127 + t129) fun t130 =>
             If (decide (p1 < t130)) (Ix (some ⟨tb, 0, none⟩) n p1 1 fun a136 =>
              LdI .i64 a136 v13 fun t137 =>
              Ar .i64 (t137 + 1) fun t138 =>
              Ix (some ⟨tb, 0, none⟩) n p1 1 fun a139 =>
              St1 a139 (.int .i64 t138) v13 fun v14 =>
              Ar .i64 (p1 + 1) fun p2 =>
              J8 p2 v14)
              (Ar .i64 ((i : Int) + 1) fun i1 =>
              (∃ i : Nat, i1 = (i : Int) ∧ i ≤ (blocks n S k).length ∧ Ext (· = tb) h2 v13 ∧ Blk v13 tb (tab n (mark S k (if i = 0 then 0 else (blocks n S k).getD (i - 1) 0 + 2 ^ k)))) ∧ (blocks n S k).length - i1.toNat < (blocks n S k).length - (i : Int).toNat))) fun J7 =>
           If r4 (Ar .i64 ((i : Int) - 1) fun t111 =>
            Ix s.a s.len t111 1 fun a112 =>
            LdI .i64 a112 v11 fun t113 =>
            Nn (k : Int) <| Ar .i64 (2 * 2 ^ (min (k : Int).toNat IntKind.i64.bits)) fun t115 =>
            Nz t115 <|
            J7 ((t113.tmod t115) == 0) v11)
            (J7 false v11)) fun J6 =>
          If (decide ((i : Int) > 0)) (Ix s.a s.len (i : Int) 1 fun a96 =>
           LdI .i64 a96 h' fun t97 =>
           Ar .i64 ((i : Int) - 1) fun t100 =>
           Ix s.a s.len t100 1 fun a101 =>
           LdI .i64 a101 h' fun t102 =>
           Nn (k : Int) <| Ar .i64 (1 * 2 ^ (min (k : Int).toNat IntKind.i64.bits)) fun t104 =>
           Ar .i64 (t102 + t104) fun t105 =>
           J6 (t97 == t105) h')
           (J6 false h')) := by
        refine JnB.intro (ifD (fun hi0 => ?_) fun hi0 => JnB.intro (ifF rfl (ifF rfl (rdB hs' hx main))))
        obtain ⟨y, hy, hyx, hmate⟩ := prev (by omega)
        refine rdB hs' hx (arN (m := i - 1) (by omega) (by omega) (rdB hs' hy (shl1 (by omega) (arN (m := y + 2 ^ k) (by omega) (by omega) ?_))))
        refine JnB.intro (iff_ (fun heq => ?_) fun hne => ifF rfl (rdB hs' hx main))
        have heq' : y + 2 ^ k = x := by
          have := beq_iff_eq.1 heq; omega
        refine arN (m := i - 1) (by omega) (by omega) (rdB hs' hy (nn (by omega) ?_))
        refine shlA (a := 2) (by omega) (by omega) (nz (by omega) (ifF ?_ (rdB hs' hx main)))
        have hm := hmate heq'
        have : ((y : Int).tmod ((2 * 2 ^ k : Nat) : Int)) = ((y % (2 * 2 ^ k) : Nat) : Int) := by rw [tmod_nn (by omega)]; simp
        rw [this]
        simp only [beq_eq_false_iff_ne, ne_eq]
        omega
      refine ifD (fun hi0 => ?_) fun hi0 => ifF rfl tail
      obtain ⟨y, hy, hyx, _⟩ := prev (by omega)
      refine arN (m := i - 1) (by omega) (by omega) (rdB hs' hy (rdB hs' hx ?_))
      rw [decide_eq_false (show ¬ (y : Int) ≥ (x : Int) by omega)]
      exact ifF rfl tail
    · have hieq : i = (blocks n S k).length := by omega
      subst hieq
      rw [mark_end bnd rfl] at hT'
      exact arN (m := k + 1) (by omega) (by omega) ⟨⟨k + 1, rfl, by omega, (hE.trans0 e2).trans hE', hT'⟩, by omega⟩
  · have : k = 11 := by omega
    subst this
    have hU : tab n (below S 11) = tab n S := tab_congr fun x _ => below_all hB x
    rw [hU] at hT
    refine loop2 (a := .i .i64) (bb := .i .i64) (fun (c : Int) (t : Int) h' => ∃ x : Nat, t = (x : Int) ∧ x ≤ n ∧ c = (((List.range x).countP S : Nat) : Int) ∧ h' = h) (fun _ t _ => n - t.toNat) ⟨0, rfl, by omega, rfl, rfl⟩ ?_
    rintro c t h' ⟨x, rfl, hx, rfl, rfl⟩
    have hcl : (List.range x).countP S ≤ x := Nat.le_trans List.countP_le_length (by simp)
    refine ifD (fun hlt => ?_) fun hge => ?_
    · have hxn : x < n := by omega
      have hcell : ∀ h'', Blk h'' tb (tab n S) → cell h'' ⟨tb, 0 + ((x : Nat) : Int).toNat * 1, none⟩ = some (.int .i64 (if S x then 1 else 0)) := fun h'' hb => by
        rw [hb.cell, show 0 + ((x : Nat) : Int).toNat * 1 = x by omega, tab_at hxn]
      refine Jn.intro ⟨fun h'' => Blk h'' tb (tab n S), hT, ix (by omega) (by omega) ?_⟩
      rw [add_lit]
      refine ⟨if S x then 1 else 0, hcell, ?_⟩
      refine ifDF (by split <;> omega) (ix (by omega) (by omega) ?_)
      rw [add_lit]
      refine ⟨if S x then 1 else 0, hcell, ?_⟩
      refine isFree_ok hBh _ ⟨hT, ?_⟩
      have : isF S (x : Int) = S x := by simp [isF]
      rw [this]
      refine ifF (by cases S x <;> simp) (ix (by omega) (by omega) ?_)
      rw [add_lit]
      refine ldI (hcell h' hT) ?_
      have hnext : (List.range (x + 1)).countP S = (List.range x).countP S + (if S x then 1 else 0) := by
        rw [List.range_succ, List.countP_append]
        simp [List.countP_cons]
      refine arN (m := (List.range (x + 1)).countP S) (by rw [hnext]; split <;> omega) (by rw [hnext]; split <;> omega) (arN (m := x + 1) (by omega) (by omega) ⟨⟨x + 1, rfl, by omega, rfl, rfl⟩, by omega⟩)
    · have : x = n := by omega
      subst this
      refine Free_ok hBh (JnB.intro (ifT ?_ (alive_jn (fresh hE))))
      simp [cnt]

end Go.Bu
