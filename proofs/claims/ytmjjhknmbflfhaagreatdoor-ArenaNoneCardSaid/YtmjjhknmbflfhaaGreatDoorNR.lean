/- ArenaNone: for every input the law returns true, and each argument reads behind the call as it read before; the package's variables hold at first what the program's text lays. -/
import Derived.LaidLaws
import Derived.Test.YtmjjhknmbflfhaaGreatDoorTie
import Derived.SevenTiedAt
import Derived.Test.YtmjjhknmbflfhaaGreatDoorN5
import Derived.Test.YtmjjhknmbflfhaaGreatDoorJfNone
import Derived.Test.YtmjjhknmbflfhaaGreatDoorJgNone
namespace Go.Proofs.YtmjjhknmbflfhaaGreatDoor.arenaNone
open Go.ChangeShapes Go.WideShapes Go.ChangeAt Go.RowKit Go.Joins Go.Vc Go.Ar
set_option linter.unusedVariables false

theorem own : ownKnob Tryz.prog.godebug = none := by kernel_rfl
theorem laidOut : laidOutB Tryz.prog = true := by kernel_rfl
theorem gU : Tryz.prog.globalNamed "freehold/space.unmapped" = some 1 := by kernel_rfl
theorem gC : Tryz.prog.globalNamed "freehold/space.clean" = some 0 := by kernel_rfl
theorem tU : (Tryz.prog.globals[1]?).map (·.type) = some 126 := by kernel_rfl
theorem tC : (Tryz.prog.globals[0]?).map (·.type) = some 126 := by kernel_rfl

theorem gl_of {W : World} (h : laidMet Tryz.prog Rows.arenaNoneRow.laid W) : Gl W.heap := by
  obtain ⟨ps, ⟨g, t, cs, fuel, p, q, hg, ht, hvar, hd, ⟨g', t', cs', fuel', p', q', hg', ht', hvar', hd', _, _⟩, _⟩, _⟩ := h
  obtain rfl := Option.some.inj (gU.symm.trans hg)
  obtain rfl := Option.some.inj (tU.symm.trans ht)
  obtain rfl := Option.some.inj (gC.symm.trans hg')
  obtain rfl := Option.some.inj (tC.symm.trans ht')
  have e1 := two_cells Tryz.underlying126 (by kernel_rfl) (by kernel_rfl) Tryz.underlying4 Tryz.underlying4 hd
  have e2 := two_cells Tryz.underlying126 (by kernel_rfl) (by kernel_rfl) Tryz.underlying4 Tryz.underlying4 hd'
  subst e1; subst e2
  exact ⟨cell_of (World.var?_cell hg' hvar' 0), cell_of (World.var?_cell hg' hvar' 1), cell_of (World.var?_cell hg hvar 0), cell_of (World.var?_cell hg hvar 1)⟩

/-! ## A start in which the variables hold that -/
def cellsU : Array Value := #[.bool false, .bool false]
def cellsC : Array Value := #[.bool true, .bool false]
def args0 : Array Value := #[.slice none 0 0, .int .i64 0, .agg #[.int .i64 0, .int .i64 0, .int .i64 0, .int .i64 0, .int .i64 0, .slice none 0 0]]
def putCells (cs : Array Value) (o : Obj) : Obj := match o with
  | .cells _ t frozen => .cells cs t frozen
  | o => o
noncomputable def laidWorld (os : Os) : World :=
  { World.holding Tryz.prog os ⟨#[], #[], []⟩ with heap := ((World.holding Tryz.prog os ⟨#[], #[], []⟩).heap.modify 1 (putCells cellsU)).modify 0 (putCells cellsC) }
theorem rowU (os : Os) : ((laidWorld os).forCall (fun _ _ => 0) ⟨#[], args0, []⟩).memory.heap[1]? = some (.cells cellsU 126 (0, 0)) := by kernel_rfl
theorem rowC (os : Os) : ((laidWorld os).forCall (fun _ _ => 0) ⟨#[], args0, []⟩).memory.heap[0]? = some (.cells cellsC 126 (0, 0)) := by kernel_rfl
theorem laid0 (os : Os) : laidMet Tryz.prog Rows.arenaNoneRow.laid ((laidWorld os).forCall (fun _ _ => 0) ⟨#[], args0, []⟩).memory :=
  ⟨_, ⟨1, 126, cellsU, 8, [], _, by kernel_rfl, by kernel_rfl, by kernel_rfl, by kernel_rfl, ⟨0, 126, cellsC, 8, [], [], by kernel_rfl, by kernel_rfl, by kernel_rfl, by kernel_rfl, rfl, rfl⟩, rfl⟩, by decide, fun b off h => by
    have h' : MemPlace.cell b off ∈ [MemPlace.cell 1 0, .cell 1 1, .cell 0 0, .cell 0 1] := h
    simp at h'
    rcases h' with ⟨rfl, rfl⟩ | ⟨rfl, rfl⟩ | ⟨rfl, rfl⟩ | ⟨rfl, rfl⟩
    · exact ⟨⟨_, _, rowU os⟩, fun u v hc => by simp only [World.cell?, rowU os] at hc; simp [cellsU] at hc⟩
    · exact ⟨⟨_, _, rowU os⟩, fun u v hc => by simp only [World.cell?, rowU os] at hc; simp [cellsU] at hc⟩
    · exact ⟨⟨_, _, rowC os⟩, fun u v hc => by simp only [World.cell?, rowC os] at hc; simp [cellsC] at hc⟩
    · exact ⟨⟨_, _, rowC os⟩, fun u v hc => by simp only [World.cell?, rowC os] at hc; simp [cellsC] at hc⟩⟩

set_option maxRecDepth 100000 in
theorem lifted (os : Os) (started : os.Started) (H : Type) (enc : TypeId × Value → H) :
    ReturnsInHanded {} Tryz.checked os 10 .any (fun w args => (Rows.arenaNoneSpec.pre enc Tryz.prog Tryz.f10 Rows.arenaNoneRow.domain false w args ∧ laidMet Tryz.prog Rows.arenaNoneRow.laid w) ∧ sizedMet enc Tryz.prog Tryz.f10 (OpenSpec.ofChange Rows.arenaNoneSpec) false w args)
      (Rows.arenaNoneSpec.post enc Tryz.prog Tryz.f10 false true false false) := by
  refine returnsInHanded_of_change_and (C := Tryz.checked) (X := fun w _ => laidMet Tryz.prog Rows.arenaNoneRow.laid w) (fun _ _ _ hh h => h.of_heap hh) own started (by kernel_rfl) Tryz.func10
    (ChangeSpec.witness_at (enc := enc) (C := Tryz.checked) (os := os) (X := fun w _ => laidMet Tryz.prog Rows.arenaNoneRow.laid w) false (laidWorld os) args0 8 rfl (by kernel_rfl) (by kernel_rfl) (by kernel_rfl) (by kernel_rfl) (by kernel_rfl) (laid0 os)) ?_
  intro W base args ds gs before hval0 hW hcnd _ hL _
  have hval : ∀ (j : Nat) t v, Tryz.f10.params[j]? = some t → args[j]? = some v → Value.okWide Tryz.prog W .any base t v := hval0
  have hW' := hW
  obtain ⟨p, q, hA0, hV, rfl, hfz, hnd⟩ := hW
  have hA : DataW.TrodAll enc Tryz.prog W 0 (fun _ => true) true Tryz.f10.params.toList args.toList ds p := hA0
  rw [Tryz.params10] at hA hval
  obtain ⟨v0, vs0, d0, ds0, p0, q0, hargs, rfl, rfl, h0, r0⟩ := trodAll_cons hA
  obtain ⟨v1, vs1, d1, ds1, p1, q1, rfl, rfl, rfl, h1, r1⟩ := trodAll_cons r0
  obtain ⟨v2, vs2, d2, ds2, p2, q2, rfl, rfl, rfl, h2, r2⟩ := trodAll_cons r1
  obtain ⟨rfl, rfl, rfl⟩ := trodAll_nil r2
  obtain rfl : args = #[v0, v1, v2] := by cases args; simp_all
  obtain ⟨rfl, rfl⟩ := trodVars_none hV
  obtain ⟨a0, len0, cap0, rfl⟩ := okWide_slice Tryz.underlying22 (hval 0 22 v0 rfl rfl)
  have k0 := h0
  have lt0 : ∀ x ∈ p0, x.block < W.heap.size := by obtain ⟨m, hm⟩ := k0; exact DataW.trod_lt m _ _ _ hm
  obtain ⟨xs0, A0⟩ := acts_open Tryz.underlying22 Tryz.underlying51 (by kernel_rfl) (by kernel_rfl) Tryz.underlying3 Tryz.underlying3 Tryz.underlying3 h0
  obtain ⟨a1, rfl, rfl, rfl, w1⟩ := open_int Tryz.underlying3 (hval 1 3 v1 rfl rfl) h1
  have k2 := h2
  have lt2 : ∀ x ∈ p2, x.block < W.heap.size := by obtain ⟨m, hm⟩ := k2; exact DataW.trod_lt m _ _ _ hm
  obtain ⟨x0, x1, x2, x3, x4, s, rfl⟩ := open_six Tryz.underlying44 (by kernel_rfl) (by kernel_rfl) Tryz.underlying3 Tryz.underlying3 Tryz.underlying3 Tryz.underlying3 Tryz.underlying3 Tryz.underlying42 (hval 2 44 v2 rfl rfl) h2
  clear hA0 hval0
  refine (walk_yes (none_ok (gl_of hL) A0 a1 x0 x1 x2 x3 x4 s fun σ' e => ⟨rfl, e⟩)).mono fun e W' ⟨he, bel⟩ => ?_
  subst he
  exact ⟨_, rfl, _, _, _, [], _, [], hW', trodAll_mk1 (shut_bool Tryz.underlying4 _), (trodAll_cons_mk (Below.trod laidOut (by kernel_rfl) (of_decide_eq_true (by kernel_rfl)) k0 bel lt0) (trodAll_cons_mk (shut_int Tryz.underlying3 w1) (trodAll_cons_mk (Below.trod laidOut (by kernel_rfl) (of_decide_eq_true (by kernel_rfl)) k2 bel lt2) trodAll_mk0))), rfl, bel.frame _, fun h => by cases h⟩

theorem over : Rows.arenaNoneRow.holds Tryz.pinned (OpenSpec.ofChange Rows.arenaNoneSpec) :=
  OpenClaim.holds_of_wide 10 Tryz.f10 rfl rfl rfl rfl rfl rfl rfl ⟨rfl, rfl, rfl, rfl, rfl⟩ rfl rfl rfl rfl rfl (by kernel_rfl) Tryz.func10 closed
    (of_decide_eq_true (by kernel_rfl)) (by unfold Func.isWrapper; first | (rw [if_pos (by decide +kernel)]; kernel_rfl) | (rw [if_neg (by decide +kernel)]; exact ⟨rfl, rfl⟩))
    (fun os started H enc _ => lifted os started H enc)

/-- The statement. -/
theorem proved : Rows.ArenaNoneSaid := over
#print axioms proved
end Go.Proofs.YtmjjhknmbflfhaaGreatDoor.arenaNone

namespace Go.Proofs.YtmjjhknmbflfhaaGreatDoor.arenaNone
open Go

/-- The tied card. -/
theorem card : Rows.ArenaNoneCardSaid :=
  Claim7.holds_tied_plain_at .later [] [.data, .data] true (true, "75217a8c9619ddb3644a6d78d47b3e9cee30c14df2b70c9e3f1bb413b399d4b8") true
    over (fun _ h => by cases h) d1 (fun _ h => by cases h) arenaNone_row_tie rfl ⟨rfl, rfl⟩ d2 rfl
    (fun f fn hf hfn => by
      obtain rfl : f = 10 := Option.some.inj ((show Tryz.prog.funcNamed "freehold/freeholdlaw10.ArenaNone" = some 10 by kernel_rfl).symm.trans hf) |>.symm
      obtain rfl : fn = Tryz.f10 := (Option.some.inj (Tryz.func10.symm.trans hfn)).symm
      exact ⟨d3, fun j t ht => by
        rw [Tryz.params10] at ht
        have hm : t ∈ [22, 3, 44] := by simpa using Array.mem_of_getElem? ht
        exact (show Tryz.prog.wantsStandIn t = false by simpa using List.all_eq_true.1 d4 t hm)⟩)
    d5
#print axioms card
end Go.Proofs.YtmjjhknmbflfhaaGreatDoor.arenaNone

