/- Runs of free pages: what they are, and that the heap returns them; comparing lists. -/
import Derived.Test.YtimoepajidnmjaaBuG
namespace Go.Bu
open Go Go.Vc Go.Proofs
set_option linter.unusedSimpArgs false
set_option linter.unusedVariables false

variable {σ : Hp} {p n sb : Nat} {S : Nat → Bool} {ms : List Nat}

/-! ## Runs -/
/-- A run of `m` pages from `p` on, behind all others. -/
def ext (l : List (Nat × Nat)) (p m : Nat) : List (Nat × Nat) := match l.getLast? with
  | some (a, c) => if a + c = p then l.dropLast ++ [(a, c + m)] else l ++ [(p, m)]
  | none => [(p, m)]
def runs (S : Nat → Bool) : Nat → List (Nat × Nat)
  | 0 => []
  | p + 1 => if S p then ext (runs S p) p 1 else runs S p

theorem ext_nil (p m : Nat) : ext [] p m = [(p, m)] := rfl
theorem ext_snoc (l : List (Nat × Nat)) (a c p m : Nat) : ext (l ++ [(a, c)]) p m = if a + c = p then l ++ [(a, c + m)] else l ++ [(a, c)] ++ [(p, m)] := by
  simp [ext]
theorem ext_ext (l : List (Nat × Nat)) (p m k : Nat) (hm : 0 < m) : ext (ext l p m) (p + m) k = ext l p (m + k) := by
  rcases List.eq_nil_or_concat l with rfl | ⟨l', ⟨a, c⟩, rfl⟩
  · have := ext_snoc [] p m (p + m) k
    simp only [List.nil_append] at this
    rw [ext_nil, ext_nil, this]
    simp
  · rw [List.concat_eq_append, ext_snoc, ext_snoc]
    split
    · rename_i h
      rw [ext_snoc, if_pos (by omega), Nat.add_assoc]
    · rw [ext_snoc, if_pos rfl]
theorem runs_more (S : Nat → Bool) (p : Nat) : ∀ m, 0 < m → (∀ y, p ≤ y → y < p + m → S y = true) → runs S (p + m) = ext (runs S p) p m
  | 0, h, _ => by omega
  | 1, _, h => by rw [runs, if_pos (h p (by omega) (by omega))]
  | m + 2, _, h => by
    have ih := runs_more S p (m + 1) (by omega) fun y h1 h2 => h y h1 (by omega)
    rw [show p + (m + 2) = (p + (m + 1)) + 1 from rfl, runs, if_pos (h _ (by omega) (by omega)), ih, ext_ext _ _ _ _ (by omega)]
theorem ext_len (l : List (Nat × Nat)) (p m : Nat) : (ext l p m).length ≤ l.length + 1 := by
  rcases List.eq_nil_or_concat l with rfl | ⟨l', ⟨a, c⟩, rfl⟩
  · simp [ext_nil]
  · rw [List.concat_eq_append, ext_snoc]
    split <;> simp
theorem runs_len (S : Nat → Bool) : ∀ p, (runs S p).length ≤ p
  | 0 => by simp [runs]
  | p + 1 => by
    have ih := runs_len S p
    rw [runs]
    split
    · have := ext_len (runs S p) p 1; omega
    · omega
/-- Each run lies below the page. -/
theorem runs_below (S : Nat → Bool) : ∀ p, ∀ r ∈ runs S p, r.1 + r.2 ≤ p
  | 0 => by simp [runs]
  | p + 1 => by
    have ih := runs_below S p
    rw [runs]
    split
    · rcases List.eq_nil_or_concat (runs S p) with h | ⟨l', ⟨a, c⟩, h⟩
      · rw [h, ext_nil]; simp
      · rw [h, List.concat_eq_append] at ih
        rw [h, List.concat_eq_append, ext_snoc]
        split
        · rename_i hac
          intro r hr
          rcases List.mem_append.1 hr with h1 | h1
          · have := ih r (List.mem_append_left _ h1); omega
          · simp at h1; subst h1; simp only; omega
        · intro r hr
          rcases List.mem_append.1 hr with h1 | h1
          · have := ih r h1; omega
          · simp at h1; subst h1; simp only; omega
    · intro r hr
      have := ih r hr; omega

def runsV (l : List (Nat × Nat)) : List Value := l.flatMap fun r => [.int .i64 (r.1 : Int), .int .i64 (r.2 : Int)]
theorem runsV_len (l : List (Nat × Nat)) : (runsV l).length = l.length * 2 := by
  induction l with
  | nil => rfl
  | cons x l ih => simp only [runsV, List.flatMap_cons, List.length_append, List.length_cons, List.length_nil] at *; omega
theorem runsV_app (l k : List (Nat × Nat)) : runsV (l ++ k) = runsV l ++ runsV k := by simp [runsV]
theorem runsV_at {l : List (Nat × Nat)} {i a c : Nat} (h : l[i]? = some (a, c)) : (runsV l)[i * 2]? = some (.int .i64 (a : Int)) ∧ (runsV l)[i * 2 + 1]? = some (.int .i64 (c : Int)) := by
  have hi := (List.getElem?_eq_some_iff.1 h).1
  have hs : l = l.take i ++ (a, c) :: l.drop (i + 1) := by
    have : l[i] = (a, c) := (List.getElem?_eq_some_iff.1 h).2
    rw [← this, List.getElem_cons_drop, List.take_append_drop]
  have hl : (runsV (l.take i)).length = i * 2 := by rw [runsV_len, List.length_take, Nat.min_eq_left (by omega)]
  rw [hs, runsV_app]
  constructor
  · rw [List.getElem?_append_right (by omega), hl, Nat.sub_self]; rfl
  · rw [List.getElem?_append_right (by omega), hl, show i * 2 + 1 - i * 2 = 1 by omega]; rfl

/-! ## Slices of wider elements -/
def SlG (B : Nat) (h : Hp) (s : Sl) (sz : Nat) (xs : List Value) : Prop :=
  xs.length = s.len * sz ∧ (xs = [] ∧ s.a = none ∨ ∃ b cs, B ≤ b ∧ s.a = some ⟨b, 0, none⟩ ∧ Blk h b cs ∧ ∀ j, j < xs.length → cs[j]? = xs[j]?)
theorem SlG.keep {B : Nat} {h h' : Hp} {s : Sl} {sz : Nat} {xs : List Value} {F : Nat → Prop} (hs : SlG B h s sz xs) (e : Ext F h h') (hF : ∀ b, F b → b < B) : SlG B h' s sz xs := by
  refine ⟨hs.1, hs.2.imp id ?_⟩
  rintro ⟨b, cs, hb, ha, hk, hc⟩
  exact ⟨b, cs, hb, ha, e.blk hk (fun hf => by have := hF b hf; omega), hc⟩
theorem SlG.keep0 {B : Nat} {h h' : Hp} {s : Sl} {sz : Nat} {xs : List Value} (hs : SlG B h s sz xs) (e : Ext0 h h') : SlG B h' s sz xs := hs.keep e fun _ h => h.elim
theorem SlG.mono {B B' : Nat} {h : Hp} {s : Sl} {sz : Nat} {xs : List Value} (hs : SlG B h s sz xs) (hB : B' ≤ B) : SlG B' h s sz xs := by
  refine ⟨hs.1, hs.2.imp id ?_⟩
  rintro ⟨b, cs, hb, ha, r⟩
  exact ⟨b, cs, by omega, ha, r⟩
theorem SlG.of_own {B : Nat} {h : Hp} {s : Sl} {sz : Nat} {xs : List Value} {Q : Nat → Prop} (ho : Own Q h s sz xs) (hQ : ∀ b, Q b → B ≤ b) : SlG B h s sz xs := by
  refine ⟨ho.1, ?_⟩
  rcases ho.2 with ⟨ha, hl, _⟩ | ⟨b, cs, hq, ha, hb, _, _, ht⟩
  · left
    have := ho.1; rw [hl] at this; simp at this
    exact ⟨this, ha⟩
  · exact .inr ⟨b, cs, hQ b hq, ha, hb, fun j hj => by rw [← ht, List.getElem?_take, if_pos (by simpa using hj)]⟩
theorem SlG.cell {B : Nat} {h : Hp} {s : Sl} {sz : Nat} {xs : List Value} (hs : SlG B h s sz xs) {j : Nat} {v : Value} (hv : xs[j]? = some v) : ∃ b, s.a = some ⟨b, 0, none⟩ ∧ Vc.cell h ⟨b, j, none⟩ = some v := by
  have hj := (List.getElem?_eq_some_iff.1 hv).1
  rcases hs.2 with ⟨h0, _⟩ | ⟨b, cs, _, ha, hb, hc⟩
  · rw [h0] at hj; simp at hj
  · exact ⟨b, ha, by rw [hb.cell, hc j hj]; exact hv⟩
theorem SlF.to_g {B : Nat} {h : Hp} {s : Sl} {xs : List Value} (hs : SlF B h s xs) : SlG B h s 1 xs := ⟨by have := hs.1; omega, hs.2⟩

/-! ## The heap's runs -/
theorem Runs_nil {R : Sl → Hp → Prop} (hR : R ⟨none, 0, 0⟩ σ) : buddy_Heap_Runs.call none σ R := by
  refine buddy_Heap_Runs.of_vc ?_
  unfold buddy_Heap_Runs.vc
  exact made_nil (ifT rfl hR)

theorem Runs_ok (h : BH σ p n S sb ms) {R : Sl → Hp → Prop} (hR : ∀ s σ', Ext0 σ σ' → SlG σ.size σ' s 2 (runsV (runs S n)) → R s σ') : buddy_Heap_Runs.call (some ⟨p, 0, none⟩) σ R := by
  refine buddy_Heap_Runs.of_vc ?_
  unfold buddy_Heap_Runs.vc
  have hn2 := h.n2
  refine made_ok h (ifF rfl ?_)
  refine loop2 (a := .s) (bb := .i .i64) (fun (out : Sl) (t : Int) h' => ∃ x : Nat, t = (x : Int) ∧ x ≤ n ∧ Ext0 σ h' ∧ Own (fun b => σ.size ≤ b) h' out 2 (runsV (runs S x)) ∧ ∀ k q, can S k q = true → x / 2 ^ k = q → x = q * 2 ^ k)
    (fun _ t _ => n - t.toNat) ⟨0, rfl, by omega, Ext.refl _ _, Own.nil _ _ _, fun k q _ hq => by rw [Nat.zero_div] at hq; rw [← hq, Nat.zero_mul]⟩ ?_
  rintro out t h' ⟨x, rfl, hx, hE, hO, hat⟩
  have hB := h.keep0 hE
  refine nilP (hB.rN (ifD (fun hlt => ?_) fun hge => ?_))
  · have hlen : out.len = (runs S x).length := by have := hO.1; rw [runsV_len] at this; omega
    have hrl := runs_len S x
    refine covered_ok hB x (by omega) (fun k q hc hq => ifF rfl ?_) fun hs => ifT rfl ?_
    · have hxq := hat k q hc hq
      have hfb := full_bound h.bnd (can_iff.1 hc).1
      have hk := h.fits hfb
      have hl := h.len
      have hpk := Nat.two_pow_pos k
      have hmore : runs S (x + 2 ^ k) = ext (runs S x) x (2 ^ k) := runs_more S x _ hpk fun y h1 h2 => can_free hc (place_iff.2 (by omega))
      have fin : ∀ (out1 : Sl) (v3 : Hp), Ext0 σ v3 → Own (fun b => σ.size ≤ b) v3 out1 2 (runsV (runs S (x + 2 ^ k))) →
          Nn (k : Int) (Ar .i64 (1 * 2 ^ (min (k : Int).toNat IntKind.i64.bits)) fun t68 => Ar .i64 ((x : Int) + t68) fun p2 =>
            (∃ x : Nat, p2 = (x : Int) ∧ x ≤ n ∧ Ext0 σ v3 ∧ Own (fun b => σ.size ≤ b) v3 out1 2 (runsV (runs S x)) ∧ ∀ k q, can S k q = true → x / 2 ^ k = q → x = q * 2 ^ k) ∧ n - p2.toNat < n - (x : Int).toNat) := by
        intro out1 v3 e3 hO3
        refine shl1 (by omega) (arN (m := x + 2 ^ k) (by omega) (by omega) ⟨⟨x + 2 ^ k, rfl, by omega, e3, hO3, fun k' q' hc' hq' => ?_⟩, by omega⟩)
        have hin := place_iff.1 hq'
        rcases Nat.lt_or_ge (q' * 2 ^ k') (x + 2 ^ k) with h1 | h1
        · have hlast : (x + 2 ^ k - 1) / 2 ^ k' = q' := place_iff.2 (by omega)
          have hlast2 : (x + 2 ^ k - 1) / 2 ^ k = q := place_iff.2 (by omega)
          obtain ⟨e1, e2⟩ := can_unique hc' hc hlast hlast2
          subst e1; subst e2
          omega
        · omega
      refine Jn.intro ?_
      refine ar (by omega) (by omega) (JnB.intro ?_)
      -- a run of its own
      have new : ext (runs S x) x (2 ^ k) = runs S x ++ [(x, 2 ^ k)] → (Nn (k : Int) <| Ar .i64 (1 * 2 ^ (min (k : Int).toNat IntKind.i64.bits)) fun t62 =>
          Nw (.cells #[.int .i64 (x : Int), .int .i64 t62] 80 (0, 0)) h' fun n64 v6 =>
          App out 2 16 80 [.int .i64 0, .int .i64 0] ⟨(some n64), 1, 1⟩ v6 fun out2 v7 =>
          Nn (k : Int) (Ar .i64 (1 * 2 ^ (min (k : Int).toNat IntKind.i64.bits)) fun t68 => Ar .i64 ((x : Int) + t68) fun p2 =>
            (∃ x : Nat, p2 = (x : Int) ∧ x ≤ n ∧ Ext0 σ v7 ∧ Own (fun b => σ.size ≤ b) v7 out2 2 (runsV (runs S x)) ∧ ∀ k q, can S k q = true → x / 2 ^ k = q → x = q * 2 ^ k) ∧ n - p2.toNat < n - (x : Int).toNat)) := by
        intro hext
        refine shl1 (by omega) ?_
        unfold Nw
        have e1 := ext_push h' (.cells #[.int .i64 (x : Int), .int .i64 ((2 ^ k : Nat) : Int)] 80 (0, 0))
        refine (hO.keep0 e1).app (ys := [.int .i64 (x : Int), .int .i64 ((2 ^ k : Nat) : Int)]) (fun b hb => by have := hE.1; simp at hb; omega) rfl rfl rd_two (by simp [one1]) (by simp only; omega) (by simp only; omega) Nat.zero_lt_one fun s' h2 hl2 he2 hO2 _ => ?_
        refine fin s' h2 (Ext.fresh (hE.trans e1) he2 fun i hi => (hO.blk_lt hi).1) ?_
        rw [hmore, hext, runsV_app]
        exact hO2
      rcases List.eq_nil_or_concat (runs S x) with hnil | ⟨init, ⟨a, c⟩, hcons⟩
      · rw [hnil] at hlen
        refine ifDF (by simp [hlen]) (ifF rfl (new (by rw [hnil]; rfl)))
      · rw [List.concat_eq_append] at hcons
        have hll : out.len = init.length + 1 := by rw [hlen, hcons]; simp
        have hlast : (runs S x)[init.length]? = some (a, c) := by rw [hcons]; simp
        obtain ⟨hv1, hv2⟩ := runsV_at hlast
        have hbel := runs_below S x (a, c) (by rw [hcons]; simp)
        simp only at hbel
        obtain ⟨b, hba, hc1⟩ := hO.cell hv1
        obtain ⟨b', hba', hc2⟩ := hO.cell hv2
        rw [hba] at hba'; cases hba'
        have hlast1 : ((out.len : Nat) : Int) - 1 = ((init.length : Nat) : Int) := by omega
        refine ifDT (by omega) ?_
        rw [hlast1, hba]
        refine ix (by omega) (by omega) ?_
        rw [add_lit, add_lit]
        refine ldI (by rw [show 0 + ((init.length : Nat) : Int).toNat * 2 + 0 = init.length * 2 by omega]; exact hc1) ?_
        refine ix (by omega) (by omega) ?_
        rw [add_lit, add_lit]
        refine ldI (by rw [show 0 + ((init.length : Nat) : Int).toNat * 2 + 1 = init.length * 2 + 1 by omega]; exact hc2) ?_
        refine arN (m := a + c) (by omega) (by omega) ?_
        refine iff_ (fun he => ?_) (fun he => ?_)
        · have he' : a + c = x := by have := beq_iff_eq.1 he; omega
          refine ix (by omega) (by omega) ?_
          rw [add_lit, add_lit]
          refine ldI (by rw [show 0 + ((init.length : Nat) : Int).toNat * 2 + 1 = init.length * 2 + 1 by omega]; exact hc2) ?_
          refine shl1 (by omega) (arN (m := c + 2 ^ k) (by omega) (by omega) ?_)
          refine ix (by omega) (by omega) ?_
          refine hO.st (j := init.length * 2 + 1) (by rw [runsV_len, hcons]; simp; omega) (fun b' hb' => ?_) fun h2 he2 hO2 => ?_
          · rw [hba] at hb'; cases hb'
            rw [add_lit, add_lit]
            congr 1; omega
          · refine fin out h2 (Ext.fresh hE he2 fun i hi => (hO.blk_lt hi).1) ?_
            have e : (runsV (runs S x)).set (init.length * 2 + 1) (.int .i64 ((c + 2 ^ k : Nat) : Int)) = runsV (runs S (x + 2 ^ k)) := by
              rw [hmore, hcons, ext_snoc, if_pos he', runsV_app, runsV_app]
              have hil : (runsV init).length = init.length * 2 := runsV_len init
              rw [List.set_append_right _ _ (by omega), hil, show init.length * 2 + 1 - init.length * 2 = 1 by omega]
              rfl
            rw [e] at hO2
            exact hO2
        · refine new ?_
          rw [hcons, ext_snoc, if_neg]
          intro e; subst e
          simp at he
    · refine arN (m := x + 1) (by omega) (by omega) ⟨⟨x + 1, rfl, by omega, hE, ?_, fun k q hc hq => ?_⟩, by omega⟩
      · rw [runs, if_neg (by simp [hs])]; exact hO
      · have hin := place_iff.1 hq
        apply Classical.byContradiction
        intro hne
        have : x / 2 ^ k = q := place_iff.2 (by omega)
        rw [can_free hc this] at hs; cases hs
  · have : x = n := by omega
    subst this
    exact hR out h' hE (SlG.of_own hO fun b hb => hb)

/-! ## Comparing -/
theorem Ints_ok {B C : Nat} {s t : Sl} {xs ys : List Nat} (hs : SlF B σ s (ints xs)) (ht : SlF C σ t (ints ys)) (hl : xs.length < 1000000000) {R : Bool → Hp → Prop} (hR : R (decide (xs = ys)) σ) : freeholdref01_Ints.call s t σ R := by
  refine freeholdref01_Ints.of_vc ?_
  unfold freeholdref01_Ints.vc
  have h1 : s.len = xs.length := by rw [hs.1]; simp [ints]
  have h2 : t.len = ys.length := by rw [ht.1]; simp [ints]
  refine iff_ (fun hne => ?_) (fun he => ?_)
  · have : ¬ xs = ys := fun e => by subst e; rw [h1, h2] at hne; simp at hne
    rw [decide_eq_false this] at hR
    exact hR
  · have hlen : xs.length = ys.length := by
      have : ((s.len : Nat) : Int) = ((t.len : Nat) : Int) := by simpa using he
      omega
    refine loop1 (a := .i .i64) (fun (t : Int) h' => ∃ k : Nat, t = (k : Int) ∧ k ≤ xs.length ∧ h' = σ ∧ xs.take k = ys.take k) (fun t _ => xs.length - t.toNat) ⟨0, rfl, by omega, rfl, by simp⟩ ?_
    rintro c h' ⟨k, rfl, hk, rfl, htk⟩
    refine ifD (fun hlt => ?_) (fun hge => ?_)
    · have hkx : k < xs.length := by omega
      have hky : k < ys.length := by omega
      have hx : (xs.map fun (x : Nat) => (x : Int))[k]? = some (xs[k] : Int) := by simp [hkx]
      have hy : (ys.map fun (x : Nat) => (x : Int))[k]? = some (ys[k] : Int) := by simp [hky]
      have es : ints xs = (xs.map fun (x : Nat) => (x : Int)).map (Value.int .i64) := by simp [ints, List.map_map, Function.comp_def]
      have et : ints ys = (ys.map fun (x : Nat) => (x : Int)).map (Value.int .i64) := by simp [ints, List.map_map, Function.comp_def]
      rw [es] at hs
      rw [et] at ht
      refine hs.ixI hx (ht.ixI hy ?_)
      refine iff_ (fun hne => ?_) (fun he2 => ?_)
      · have : ¬ xs = ys := fun e => by subst e; simp at hne
        rw [decide_eq_false this] at hR
        exact hR
      · have e : xs[k] = ys[k] := by
          have : (xs[k] : Int) = (ys[k] : Int) := by simpa using he2
          omega
        refine arN (m := k + 1) (by omega) (by omega) ⟨⟨k + 1, rfl, by omega, rfl, ?_⟩, by omega⟩
        rw [List.take_add_one, List.take_add_one, htk, List.getElem?_eq_getElem hkx, List.getElem?_eq_getElem hky, e]
    · have : xs = ys := by
        have e1 : k = xs.length := by omega
        rw [e1, List.take_length, hlen, List.take_length] at htk
        exact htk
      rw [decide_eq_true this] at hR
      exact hR

theorem RunsEq_ok {B C : Nat} {s t : Sl} {xs ys : List (Nat × Nat)} (hs : SlG B σ s 2 (runsV xs)) (ht : SlG C σ t 2 (runsV ys)) (hl : xs.length < 1000000000) {R : Bool → Hp → Prop} (hR : R (decide (xs = ys)) σ) : freeholdref01_Runs.call s t σ R := by
  refine freeholdref01_Runs.of_vc ?_
  unfold freeholdref01_Runs.vc
  have h1 : s.len = xs.length := by have := hs.1; rw [runsV_len] at this; omega
  have h2 : t.len = ys.length := by have := ht.1; rw [runsV_len] at this; omega
  refine iff_ (fun hne => ?_) (fun he => ?_)
  · have : ¬ xs = ys := fun e => by subst e; rw [h1, h2] at hne; simp at hne
    rw [decide_eq_false this] at hR
    exact hR
  · have hlen : xs.length = ys.length := by
      have : ((s.len : Nat) : Int) = ((t.len : Nat) : Int) := by simpa using he
      omega
    refine loop1 (a := .i .i64) (fun (t : Int) h' => ∃ k : Nat, t = (k : Int) ∧ k ≤ xs.length ∧ h' = σ ∧ xs.take k = ys.take k) (fun t _ => xs.length - t.toNat) ⟨0, rfl, by omega, rfl, by simp⟩ ?_
    rintro c h' ⟨k, rfl, hk, rfl, htk⟩
    refine ifD (fun hlt => ?_) (fun hge => ?_)
    · have hkx : k < xs.length := by omega
      have hky : k < ys.length := by omega
      obtain ⟨hx1, hx2⟩ := runsV_at (l := xs) (i := k) (a := xs[k].1) (c := xs[k].2) (by simp [hkx])
      obtain ⟨hy1, hy2⟩ := runsV_at (l := ys) (i := k) (a := ys[k].1) (c := ys[k].2) (by simp [hky])
      obtain ⟨b1, ha1, hc1⟩ := hs.cell hx1
      obtain ⟨b1', ha1', hc2⟩ := hs.cell hx2
      rw [ha1] at ha1'; cases ha1'
      obtain ⟨b2, ha2, hc3⟩ := ht.cell hy1
      obtain ⟨b2', ha2', hc4⟩ := ht.cell hy2
      rw [ha2] at ha2'; cases ha2'
      have e0 : 0 + ((k : Nat) : Int).toNat * 2 + 0 = k * 2 := by omega
      have e1 : 0 + ((k : Nat) : Int).toNat * 2 + 1 = k * 2 + 1 := by omega
      rw [ha1]
      refine ix (by omega) (by omega) ?_
      rw [add_lit, add_lit]
      refine ldI (by rw [e0]; exact hc1) ?_
      rw [add_lit]
      refine ldI (by rw [e1]; exact hc2) ?_
      rw [ha2]
      refine ix (by omega) (by omega) ?_
      rw [add_lit, add_lit]
      refine ldI (by rw [e0]; exact hc3) ?_
      rw [add_lit]
      refine ldI (by rw [e1]; exact hc4) ?_
      refine iff_ (fun hne => ?_) (fun he2 => ?_)
      · have : ¬ xs = ys := fun e => by subst e; simp at hne
        rw [decide_eq_false this] at hR
        exact hR
      · have e : xs[k] = ys[k] := by
          simp only [Bool.not_eq_false', Bool.and_eq_true, beq_iff_eq, and_true] at he2
          have h1 : xs[k].1 = ys[k].1 := by omega
          have h2 : xs[k].2 = ys[k].2 := by omega
          exact Prod.ext h1 h2
        refine arN (m := k + 1) (by omega) (by omega) ⟨⟨k + 1, rfl, by omega, rfl, ?_⟩, by omega⟩
        rw [List.take_add_one, List.take_add_one, htk, List.getElem?_eq_getElem hkx, List.getElem?_eq_getElem hky, e]
    · have : xs = ys := by
        have e1 : k = xs.length := by omega
        rw [e1, List.take_length, hlen, List.take_length] at htk
        exact htk
      rw [decide_eq_true this] at hR
      exact hR

theorem Power_ok (a : Int) {R : Bool → Hp → Prop} (hR : R (isPow a) σ) : freeholdref01_Power.call a 1024 σ R := by
  refine freeholdref01_Power.of_vc ?_
  unfold freeholdref01_Power.vc
  refine loop1 (a := .i .i64) (fun (t : Int) h' => ∃ k : Nat, t = ((2 ^ k : Nat) : Int) ∧ k ≤ 11 ∧ h' = σ ∧ ∀ j, j < k → a ≠ ((2 ^ j : Nat) : Int)) (fun t _ => 2049 - t.toNat) ⟨0, rfl, by omega, rfl, fun j hj => by omega⟩ ?_
  rintro t h' ⟨k, rfl, hk, rfl, hno⟩
  have hpk := Nat.two_pow_pos k
  refine ifD (fun hle => ?_) (fun hgt => ?_)
  · have hk10 : k ≤ 10 := by
      apply Classical.byContradiction
      intro hc
      have : 2 ^ 11 ≤ 2 ^ k := Nat.pow_le_pow_right (by decide) (by omega)
      omega
    refine iff_ (fun he => ?_) (fun he => ?_)
    · have he' : ((2 ^ k : Nat) : Int) = a := by simpa using he
      have : isPow a = true := by
        unfold isPow
        rw [List.any_eq_true]
        exact ⟨k, List.mem_range.2 (by omega), by simp [← he']⟩
      rw [this] at hR
      exact hR
    · have he' : ((2 ^ k : Nat) : Int) ≠ a := by simpa using he
      refine arN (m := 2 ^ (k + 1)) (by rw [Nat.pow_succ]; omega) (by rw [Nat.pow_succ]; omega) ⟨⟨k + 1, rfl, by omega, rfl, fun j hj => ?_⟩, by rw [Nat.pow_succ]; omega⟩
      by_cases e : j = k
      · subst e; exact fun h => he' h.symm
      · exact hno j (by omega)
  · have hk11 : k = 11 := by
      apply Classical.byContradiction
      intro hc
      have : 2 ^ k ≤ 2 ^ 10 := Nat.pow_le_pow_right (by decide) (by omega)
      omega
    have : isPow a = false := by
      unfold isPow
      rw [List.any_eq_false]
      intro j hj
      have := hno j (by rw [List.mem_range] at hj; omega)
      simpa using this
    rw [this] at hR
    exact hR

end Go.Bu
