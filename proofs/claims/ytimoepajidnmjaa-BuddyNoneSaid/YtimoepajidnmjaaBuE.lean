/- The library's functions on maps with whole numbers as keys: their keys, collected or sorted; clones. -/
import Derived.Test.YtimoepajidnmjaaShA
import Derived.Test.YtimoepajidnmjaaGC
import Derived.Test.YtimoepajidnmjaaVcL
namespace Go.Bu
open Go Go.Vc Go.Proofs Go.RowKit Go.Maps Go.Sort Go.Shelf
set_option linter.unusedSimpArgs false
set_option linter.unusedVariables false

variable {σ : Hp}

/-- A slice in a block that is not older than `B`, or nil: its elements. -/
def SlF (B : Nat) (h : Hp) (s : Sl) (xs : List Value) : Prop :=
  s.len = xs.length ∧ (xs = [] ∧ s.a = none ∨ ∃ b cs, B ≤ b ∧ s.a = some ⟨b, 0, none⟩ ∧ Blk h b cs ∧ ∀ j, j < xs.length → cs[j]? = xs[j]?)
theorem SlF.keep {B : Nat} {h h' : Hp} {s : Sl} {xs : List Value} {F : Nat → Prop} (hs : SlF B h s xs) (e : Ext F h h') (hF : ∀ b, F b → b < B) : SlF B h' s xs := by
  refine ⟨hs.1, hs.2.imp id ?_⟩
  rintro ⟨b, cs, hb, ha, hk, hc⟩
  exact ⟨b, cs, hb, ha, e.blk hk (fun hf => by have := hF b hf; omega), hc⟩
theorem SlF.keep0 {B : Nat} {h h' : Hp} {s : Sl} {xs : List Value} (hs : SlF B h s xs) (e : Ext0 h h') : SlF B h' s xs := hs.keep e fun _ h => h.elim
theorem SlF.mono {B B' : Nat} {h : Hp} {s : Sl} {xs : List Value} (hs : SlF B h s xs) (hB : B' ≤ B) : SlF B' h s xs := by
  refine ⟨hs.1, hs.2.imp id ?_⟩
  rintro ⟨b, cs, hb, ha, hk, hc⟩
  exact ⟨b, cs, by omega, ha, hk, hc⟩

/-- An element of the slice, read. -/
theorem SlF.ixI {B : Nat} {h : Hp} {s : Sl} {xs : List Int} (hs : SlF B h s (xs.map (Value.int .i64))) {i : Nat} {x : Int} (hx : xs[i]? = some x) {K : Int → Prop} (hK : K x) :
    Ix s.a s.len (i : Int) 1 fun a => LdI .i64 a h K := by
  have hi : i < xs.length := (List.getElem?_eq_some_iff.1 hx).1
  rcases hs.2 with ⟨h0, _⟩ | ⟨b, cs, _, ha, hb, hc⟩
  · simp at h0; subst h0; simp at hi
  · rw [ha]
    refine ix (by omega) (by rw [hs.1]; simp; omega) ?_
    rw [add_lit]
    refine ldI ?_ hK
    rw [hb.cell]
    have := hc i (by simpa using hi)
    simpa [hx] using this

theorem ext0_below {w w' : World} (h : Below w.heap.size w w') : Ext0 w.heap w'.heap := ⟨h.size, fun b hb _ => h.block b hb⟩
theorem io_below {n : Nat} {w w' : World} (h : Below n w w') : IOsame w w' := ⟨h.os, h.tape, h.output, h.size⟩

/-! ## The keys -/
def keysFn : Nat := Try.keysL_ren.f 10
def keysTy : Nat := Try.keysL_ren.t 23

theorem keys_ok (m : Option Nat) {R : Fv → Hp → Prop} (hR : R ⟨keysFn, #[], #[.pointer (some ⟨σ.size, 0, none⟩)]⟩ (σ.push (.cells #[.map m] keysTy (0, 0)))) :
    maps_Keys_map_int_bool_int_bool.call m σ R := by
  rintro w rfl
  refine (callsIn_wide.1 (AnyZI.keys_in Try.keysL Fence.wide 5 trivial rfl m w)).mono ?_
  rintro e w' ⟨rfl, rfl⟩
  exact ⟨⟨rfl, rfl, rfl, Nat.le_of_lt (by show _ < (w.heap.push _).size; simp)⟩, [.func (.func keysFn) #[] #[.pointer (some ⟨w.heap.size, 0, none⟩)]], rfl, ⟨keysFn, #[], #[.pointer (some ⟨w.heap.size, 0, none⟩)]⟩, rfl, hR⟩

/-- A number of 64 bits. -/
def I64 (x : Int) : Prop := -9223372036854775808 ≤ x ∧ x ≤ 9223372036854775807

theorem owns_of_map {P : Program} {kt : Nat} (hk : P.underlying kt = some (.int .i64)) {w : World} {m : Nat} {c : CK} {B : List (Int × c.T)} (h : MapL w.heap m .i64 c B) (hb : ∀ x ∈ B, I64 x.1) (hs : B.length ≤ 1000000) :
    ∃ D : DataW Unit, w.ownsMap P kt (fun _ => some (.nil, [])) m B.length D ∧ (intKeys D).Perm (B.map (·.1)) ∧ Maps.size D = B.length := by
  obtain ⟨es, clk, hr, he, hn, hp, hlt⟩ := h
  have hlen : es.size = B.length := by simpa using congrArg List.length he
  have hkey : ∀ e ∈ es.toList, ∃ x : Int, e.key = .int .i64 x ∧ I64 x := by
    intro e hme
    have : (e.key, e.val) ∈ es.toList.map (fun e => (e.key, e.val)) := List.mem_map_of_mem hme
    rw [he] at this
    obtain ⟨y, hy, e2⟩ := List.mem_map.1 this
    simp only [Prod.mk.injEq] at e2
    exact ⟨y.1, e2.1.symm, hb y hy⟩
  have wf : ∀ x : Int, I64 x → (Lit.int .i64 x).wf = true := by
    rintro x ⟨h1, h2⟩
    simp [Lit.wf, IntKind.min, IntKind.max, IntKind.bits, IntKind.signed]
    omega
  have hrd : ∀ e ∈ es.toList, ∃ x : Int, e.key = .int .i64 x ∧ Go.WideElems.rd P kt (fun _ => some ((.nil : DataW Unit), [])) e = some (.int .i64 x, .nil) := by
    intro e hme
    obtain ⟨x, hx, hi⟩ := hkey e hme
    refine ⟨x, hx, ?_⟩
    simp [Go.WideElems.rd, keyOf, hk, hx, mapKey, wf x hi]
  refine ⟨.map ((es.toList.map (Go.WideElems.rg P kt (fun _ => some (.nil, [])))).foldr DataW.insert []), ⟨es, clk, hr, ⟨?_, ⟨fun x hx => hlt x hx, ?_, ?_⟩, fun x hx => ?_⟩, by omega, rfl⟩, ?_, ?_⟩
  · have : 1000000 ≤ maxLen := by unfold maxLen; omega
    omega
  · exact hp.imp (fun h => Nat.ne_of_lt h)
  · have e3 : es.toList.map (·.key) = (B.map (·.1)).map (Value.int .i64) := by
      have := congrArg (List.map Prod.fst) he
      simpa [List.map_map, Function.comp_def] using this
    rw [e3]
    exact List.Pairwise.map _ (fun a b (hne : a ≠ b) hab => hne (by simpa using hab)) hn
  · obtain ⟨x1, _, h1⟩ := hrd x hx
    exact ⟨_, h1⟩
  · simp only [intKeys]
    refine ((Go.WideShapes.sorted_perm _).map _).trans ?_
    rw [List.map_map]
    have : es.toList.map ((fun p => Go.intOf p.1) ∘ Go.WideElems.rg P kt (fun _ => some ((.nil : DataW Unit), []))) = B.map (·.1) := by
      have e3 : es.toList.map (·.key) = (B.map (·.1)).map (Value.int .i64) := by
        have := congrArg (List.map Prod.fst) he
        simpa [List.map_map, Function.comp_def] using this
      have e4 : es.toList.map ((fun p => Go.intOf p.1) ∘ Go.WideElems.rg P kt (fun _ => some ((.nil : DataW Unit), []))) = (es.toList.map (·.key)).map (fun v => match v with | .int _ x => x | _ => 0) := by
        rw [List.map_map]
        apply List.map_congr_left
        intro e hme
        obtain ⟨x, hx, h1⟩ := hrd e hme
        simp [Function.comp, Go.WideElems.rg, h1, hx, Go.intOf]
      rw [e4, e3, List.map_map]
      conv => rhs; rw [← List.map_id (B.map (·.1))]
      rfl
    rw [this]
  · simp only [Maps.size]
    rw [(Go.WideShapes.sorted_perm _).length_eq]
    simp [hlen]

theorem slF_owns {w : World} {B e n : Nat} {v : Value} {xs : List Value} (h : w.ownsRow B e 1 v n xs) : ∃ s : Sl, v = .slice s.a s.len s.cap ∧ SlF B w.heap s xs := by
  obtain ⟨hl, h⟩ := h
  rcases h with ⟨rfl, rfl⟩ | ⟨g, cap, cur, rfl, hb, hg, _, _, hcs, ht⟩
  · exact ⟨⟨none, 0, 0⟩, rfl, by simp at hl; simp [hl], .inl ⟨by simpa using hl, rfl⟩⟩
  · refine ⟨⟨some ⟨g, 0, none⟩, n, cap⟩, rfl, by simp at hl; simp [hl], .inr ⟨g, cur.toList, hb, rfl, ⟨e, by simpa using hg⟩, fun j hj => ?_⟩⟩
    rw [← ht, List.getElem?_take, if_pos (by omega)]

theorem keys_seq {w : World} {c m : Nat} {B : List (Int × Bool)} (hc : cell w.heap ⟨c, 0, none⟩ = some (.map (some m))) (hm : MapL w.heap m .i64 .b B) (hb : ∀ x ∈ B, I64 x.1) (hs : B.length ≤ 1000000) (n : Nat) (hn : 1 ≤ n) :
    SeqGives Fence.wide n Try.prog keysFn #[.pointer (some ⟨c, 0, none⟩)] encZ (fun ss => ss.Perm (B.map (·.1))) B.length w := by
  obtain ⟨D, hD, hp, hsz⟩ := owns_of_map (P := Try.prog) Try.keysL.t26 hm hb hs
  have hcl : c < w.heap.size := by
    unfold cell at hc
    split at hc
    · rename_i h; exact (Array.getElem?_eq_some_iff.1 h).1
    · cases hc
  have := AnyZI.keys_gives (ρ := Try.keysL_ren) { Try.keysL with } Fence.wide n trivial rfl hn c m B.length D w hcl hc hD
  intro l J W hW hJ hY h0
  rw [hsz] at this
  refine (this l J W hW hJ hY h0).mono ?_
  rintro e W' ⟨he, ss, h1, h2⟩
  exact ⟨he, ss, h1.trans hp, h2⟩

theorem sorts (m : Nat) : AnyZI.SortsIn Try.prog Try.sortedL_ren Fence.wide m :=
  ⟨fun blk off cap ss W hH hblk hsz => callsIn_wide.2 (AnyM.slices_Sort_int Try.sortL blk off cap ss W hH hblk hsz),
   fun p cap W => callsIn_wide.2 (AnyM.slices_Sort_int_none Try.sortL p cap W)⟩

/-- `slices.Sorted(maps.Keys(m))`, the second half. -/
theorem sorted_ok {c m : Nat} {B : List (Int × Bool)} (hc : cell σ ⟨c, 0, none⟩ = some (.map (some m))) (hm : MapL σ m .i64 .b B) (hb : ∀ x ∈ B, I64 x.1) (hs : B.length ≤ 1000000) {R : Sl → Hp → Prop}
    (hR : ∀ (s : Sl) (σ' : Hp) (ss : List Int), Ext0 σ σ' → ss.Perm (B.map (·.1)) → ss.Pairwise (· ≤ ·) → SlF σ.size σ' s (ss.map (Value.int .i64)) → R s σ') :
    slices_Sorted_int.call ⟨keysFn, #[], #[.pointer (some ⟨c, 0, none⟩)]⟩ σ R := by
  rintro w rfl
  have hseq := keys_seq hc hm hb hs 2 (by omega)
  have hml : B.length ≤ maxLen := by unfold maxLen; omega
  have cS := AnyZI.sorted_in Try.sortedL Fence.wide 5 trivial trivial trivial trivial rfl (by omega) (sorts _) (Try.sortL.f5.enters rfl) keysFn #[.pointer (some ⟨c, 0, none⟩)] trivial (Try.keysL.f10.enters rfl) _ _ hml (by omega) _ hseq
  refine (callsIn_wide.1 cS).mono ?_
  rintro e w' ⟨v, ss, rfl, hp, hrow, hnil, hbe⟩
  obtain ⟨s, rfl, hsl⟩ := slF_owns hrow
  refine ⟨io_below hbe, [.slice s.a s.len s.cap], rfl, s, rfl, ?_⟩
  refine hR s _ (ss.mergeSort fun x y => decide (x ≤ y)) (ext0_below hbe) ((List.mergeSort_perm _ _).trans hp) ?_ hsl
  have := List.pairwise_mergeSort (le := fun x y : Int => decide (x ≤ y)) (fun a b c h1 h2 => by simp at *; omega) (fun a b => by simp; omega) ss
  exact this.imp (fun h => by simpa using h)

theorem collect_ok {c m : Nat} {B : List (Int × Bool)} (hc : cell σ ⟨c, 0, none⟩ = some (.map (some m))) (hm : MapL σ m .i64 .b B) (hb : ∀ x ∈ B, I64 x.1) (hs : B.length ≤ 1000000) {R : Sl → Hp → Prop}
    (hR : ∀ (s : Sl) (σ' : Hp) (ss : List Int), Ext0 σ σ' → ss.Perm (B.map (·.1)) → SlF σ.size σ' s (ss.map (Value.int .i64)) → R s σ') :
    slices_Collect_int.call ⟨keysFn, #[], #[.pointer (some ⟨c, 0, none⟩)]⟩ σ R := by
  rintro w rfl
  have hseq := keys_seq hc hm hb hs 3 (by omega)
  have hml : B.length ≤ maxLen := by unfold maxLen; omega
  have cS := AnyZI.collect_in Try.collL Fence.wide 5 trivial trivial rfl (by omega) keysFn #[.pointer (some ⟨c, 0, none⟩)] trivial (Try.keysL.f10.enters rfl) _ _ hml (by omega) _ hseq
  refine (callsIn_wide.1 cS).mono ?_
  rintro e w' ⟨v, ss, rfl, hp, hrow, hnil, hbe⟩
  obtain ⟨s, rfl, hsl⟩ := slF_owns hrow
  exact ⟨io_below hbe, [.slice s.a s.len s.cap], rfl, s, rfl, hR s _ ss (ext0_below hbe) hp hsl⟩

/-! ## maps.Clone -/
theorem clone_ok {m : Nat} {B : List (Int × Bool)} (hm : MapL σ m .i64 .b B) {R : Option Nat → Hp → Prop}
    (hR : ∀ σ', σ'.size = σ.size + 1 → Ext0 σ σ' → MapL σ' σ.size .i64 .b B → R (some σ.size) σ') : maps_Clone_map_int_bool_int_bool.call (some m) σ R := by
  rintro w rfl
  obtain ⟨es, clk, hr, rest⟩ := hm
  refine (AnyW.maps_Clone Try.cloneL m es clk w hr).mono ?_
  rintro e w' ⟨rfl, rfl⟩
  refine ⟨⟨rfl, rfl, rfl, Nat.le_of_lt (by show _ < (w.heap.push _).size; simp)⟩, [.map (some w.heap.size)], rfl, some w.heap.size, rfl, hR _ (by show (w.heap.push _).size = _; simp) (Ext.push _ _ _) ⟨es, clk, ?_, rest⟩⟩
  show (w.heap.push _)[_]? = _
  simp

end Go.Bu
