/- From a contract of the calculus to the walk that a row asks; arguments that are slices of structs of three whole numbers, opened to cells. -/
import Derived.Test.YtimoepajidnmjaaVcM
import Derived.Deep.Slices
import Derived.Deep.Fields
import Derived.ChangeSame
import Derived.Lib.SmallJoins
import Derived.Below
namespace Go.Vc
open Go Go.ChangeShapes Go.WideShapes Go.Deep Go.RowKit
set_option linter.unusedSimpArgs false
set_option linter.unusedVariables false

/-- True, and no old block has turned. -/
def Yes (σ : Hp) : Bool → Hp → Prop := fun b σ' => b = true ∧ Ext0 σ σ'

theorem walk_yes {P : Program} {f : Nat} {args : Array Value} {w : World} (h : CallK P f args [.one .b] w.heap (Yes w.heap)) : Calls P f args w fun e w' => e = .returned (.bool true) ∧ Below w.heap.size w w' := by
  refine (h w rfl).mono ?_
  rintro e w' ⟨io, vs, rfl, hs⟩
  match vs, hs with
  | [v], hs =>
    obtain ⟨x, rfl, hx, he⟩ := hs
    have hx' : x = true := hx
    subst hx'
    exact ⟨rfl, ⟨io.1, io.2.1, io.2.2.1, io.2.2.2, fun k hk => he.2 k hk id⟩⟩

/-- A slice of structs of three whole numbers, in memory. -/
def Acts (h : Hp) (l : Sl) (xs : List (Int × Int × Int)) : Prop := l.len = xs.length ∧ ∀ i x y z, xs[i]? = some (x, y, z) → ∃ b o, l.a = some ⟨b, o, none⟩ ∧ b < h.size ∧
  cell h ⟨b, o + i * 3, none⟩ = some (.int .i64 x) ∧ cell h ⟨b, o + i * 3 + 1, none⟩ = some (.int .i64 y) ∧ cell h ⟨b, o + i * 3 + 2, none⟩ = some (.int .i64 z)

theorem cell_lt {h : Hp} {a : Addr} {v : Value} (hc : cell h a = some v) : a.block < h.size ∧ a.spot = none := by
  unfold cell at hc
  split at hc
  · rename_i heq
    refine ⟨(Array.getElem?_eq_some_iff.1 heq).1, ?_⟩
    cases hs : a.spot with
    | none => rfl
    | some s => rw [hs] at hc; simp at hc
  · cases hc

theorem acts_open {H : Type} {enc : TypeId × Value → H} {P : Program} {w : World} {t e : TypeId} {f0 f1 f2 : Field} {a : Option Addr} {len cap : Nat} {d : DataW H} {ps : List MemPlace}
    (ht : P.underlying t = some (.slice e)) (he : P.underlying e = some (.struct #[f0, f1, f2])) (hone : oneCellFields P #[f0, f1, f2] = true) (hC : P.cellsOf e = 3)
    (h0 : P.underlying f0.type = some (.int .i64)) (h1 : P.underlying f1.type = some (.int .i64)) (h2 : P.underlying f2.type = some (.int .i64))
    (h : DataW.Trod enc P w 0 (fun _ => true) true t (.slice a len cap) d ps) : ∃ xs, Acts w.heap ⟨a, len, cap⟩ xs := by
  obtain ⟨fuel, hf⟩ := h
  rcases open_slice ht hf with ⟨hcs, _⟩ | ⟨ad, len', cap', m, n, D, Pl, hcs, _, hl, hm, hmm, hx, hi⟩
  · simp [Value.cells] at hcs
    obtain ⟨rfl, rfl, rfl⟩ := hcs
    exact ⟨[], rfl, fun i x y z hx => by simp at hx⟩
  · simp [Value.cells] at hcs
    obtain ⟨rfl, rfl, rfl⟩ := hcs
    have hmlen : len ≤ m := by simp at hmm; omega
    have key : ∀ i, i < len → ∃ u : Int × Int × Int, cell w.heap (ad.add (i * 3)) = some (.int .i64 u.1) ∧ cell w.heap ((ad.add (i * 3)).add 1) = some (.int .i64 u.2.1) ∧ cell w.heap ((ad.add (i * 3)).add 2) = some (.int .i64 u.2.2) := by
      intro i hil
      obtain ⟨cs', hc, ht'⟩ := hi i (by omega)
      rw [hC] at hc
      obtain ⟨ys, n', hn', hy, hlen, hyl, hff⟩ := DataW.trod_struct he ht'
      obtain ⟨_, hcl, hat⟩ := World.cells?_some hc
      have one : ∀ (j : Nat) (f : Field), (#[f0, f1, f2] : Array Field)[j]? = some f → P.underlying f.type = some (.int .i64) → j < 3 → ∃ x : Int, cell w.heap ((ad.add (i * 3)).add j) = some (.int .i64 x) := by
        intro j f hj hu hj3
        obtain ⟨ho, hk⟩ := hone_of hone j f hj
        have h3 := hff j f hj
        rw [ho, hk] at h3
        have hjl : j < cs'.length := by omega
        rw [List.drop_eq_getElem_cons hjl] at h3
        have hys : ys[j]? = some (ys[j]'(by simp at hyl; omega)) := List.getElem?_eq_getElem _
        rw [hys] at h3
        obtain ⟨x, hx1, _, _⟩ := DataW.trod_int hu h3
        have hx2 : cs'[j] = Value.int .i64 x := by
          simp only [List.take_succ_cons, List.take_zero, List.cons.injEq, and_true] at hx1
          exact hx1
        refine ⟨x, ?_⟩
        have := hat j (by omega)
        rw [List.getElem?_eq_getElem hjl, hx2] at this
        exact this
      obtain ⟨x, hx⟩ := one 0 f0 rfl h0 (by omega)
      obtain ⟨y, hy⟩ := one 1 f1 rfl h1 (by omega)
      obtain ⟨z, hz⟩ := one 2 f2 rfl h2 (by omega)
      exact ⟨(x, y, z), hx, hy, hz⟩
    let g : Nat → Int × Int × Int := fun i => if hi : i < len then (key i hi).choose else (0, 0, 0)
    refine ⟨(List.range len).map g, by simp, fun i x y z hx => ?_⟩
    have hil : i < len := by
      have := (List.getElem?_eq_some_iff.1 hx).1
      simpa using this
    have hgi : g i = (x, y, z) := by simpa [hil] using hx
    have hsp := (key i hil).choose_spec
    have e0 : (key i hil).choose = (x, y, z) := by rw [← hgi]; simp only [g, hil, dif_pos]
    rw [e0] at hsp
    simp only at hsp
    obtain ⟨x0, hz0, _⟩ := key 0 (by omega)
    have hspot := (cell_lt hz0).2
    have hblk := (cell_lt hz0).1
    simp only [Nat.zero_mul, Addr.add_zero'] at hspot hblk
    obtain ⟨b, o, s⟩ := ad
    simp only at hspot hblk
    subst hspot
    rw [add_lit, add_lit, add_lit] at hsp
    exact ⟨b, o, rfl, hblk, hsp.1, hsp.2.1, hsp.2.2⟩

end Go.Vc
