/- ResizeNone: for every input the law returns true, and each argument reads behind the call as it read before; the package's variables hold at first what the program's text lays. -/
import Derived.Test.YtehhfakcnbnipaaGreatDoorTie
import Derived.LaidLaws
import Derived.SevenTiedAt
import Derived.Test.YtehhfakcnbnipaaGreatDoorZ6
import Derived.Test.YtehhfakcnbnipaaGreatDoorJf16None
import Derived.Test.YtehhfakcnbnipaaGreatDoorJg16None
namespace Go.Proofs.YtehhfakcnbnipaaGreatDoor.resizeNone
open Go Go.ChangeShapes Go.WideShapes Go.ChangeAt Go.RowKit Go.Joins Go.Vc Go.Ar
set_option linter.unusedVariables false

theorem own : ownKnob Tryz.prog.godebug = none := by kernel_rfl
theorem laidOut : laidOutB Tryz.prog = true := by kernel_rfl
theorem g0 : Tryz.prog.globalNamed "freehold/space.unmapped" = some 0 := by kernel_rfl
theorem t0 : (Tryz.prog.globals[0]?).map (·.type) = some 245 := by kernel_rfl
theorem g1 : Tryz.prog.globalNamed "freehold/space.clean" = some 2 := by kernel_rfl
theorem t1 : (Tryz.prog.globals[2]?).map (·.type) = some 245 := by kernel_rfl
theorem g2 : Tryz.prog.globalNamed "freehold/space.dirty" = some 1 := by kernel_rfl
theorem t2 : (Tryz.prog.globals[1]?).map (·.type) = some 245 := by kernel_rfl
theorem gl_of {W : World} (h : laidMet Tryz.prog Rows.resizeNoneRow.laid W) : Gl W.heap ∧ Gd W.heap := by
  obtain ⟨ps, ⟨g0', t0', cs0, fuel0, p0, q0, hg0, ht0, hvar0, hd0, ⟨g1', t1', cs1, fuel1, p1, q1, hg1, ht1, hvar1, hd1, ⟨g2', t2', cs2, fuel2, p2, q2, hg2, ht2, hvar2, hd2, _, _⟩, _⟩, _⟩, _⟩ := h
  obtain rfl := Option.some.inj (g0.symm.trans hg0)
  obtain rfl := Option.some.inj (t0.symm.trans ht0)
  have e0 := two_cells Tryz.underlying245 (by kernel_rfl) (by kernel_rfl) Tryz.underlying4 Tryz.underlying4 hd0
  subst e0
  obtain rfl := Option.some.inj (g1.symm.trans hg1)
  obtain rfl := Option.some.inj (t1.symm.trans ht1)
  have e1 := two_cells Tryz.underlying245 (by kernel_rfl) (by kernel_rfl) Tryz.underlying4 Tryz.underlying4 hd1
  subst e1
  obtain rfl := Option.some.inj (g2.symm.trans hg2)
  obtain rfl := Option.some.inj (t2.symm.trans ht2)
  have e2 := two_cells Tryz.underlying245 (by kernel_rfl) (by kernel_rfl) Tryz.underlying4 Tryz.underlying4 hd2
  subst e2
  exact ⟨⟨cell_of (World.var?_cell hg1 hvar1 0), cell_of (World.var?_cell hg1 hvar1 1), cell_of (World.var?_cell hg0 hvar0 0), cell_of (World.var?_cell hg0 hvar0 1)⟩, ⟨cell_of (World.var?_cell hg2 hvar2 0), cell_of (World.var?_cell hg2 hvar2 1)⟩⟩

def cells0 : Array Value := #[.bool false, .bool false]
def cells1 : Array Value := #[.bool true, .bool false]
def cells2 : Array Value := #[.bool true, .bool true]
def args0 : Array Value := #[.int .i64 0, .int .i64 0, .int .i64 0, .slice none 0 0, .string (ByteArray.mk #[]), .bool false]
def putCells (cs : Array Value) (o : Obj) : Obj := match o with
  | .cells _ t frozen => .cells cs t frozen
  | o => o
noncomputable def laidWorld (os : Os) : World :=
  { World.holding Tryz.prog os ⟨#[], #[], []⟩ with heap := ((((World.holding Tryz.prog os ⟨#[], #[], []⟩).heap.modify 0 (putCells cells0)).modify 2 (putCells cells1)).modify 1 (putCells cells2)) }
theorem row0 (os : Os) : ((laidWorld os).forCall (fun _ _ => 0) ⟨#[], args0, []⟩).memory.heap[0]? = some (.cells cells0 245 (0, 0)) := by kernel_rfl
theorem row1 (os : Os) : ((laidWorld os).forCall (fun _ _ => 0) ⟨#[], args0, []⟩).memory.heap[2]? = some (.cells cells1 245 (0, 0)) := by kernel_rfl
theorem row2 (os : Os) : ((laidWorld os).forCall (fun _ _ => 0) ⟨#[], args0, []⟩).memory.heap[1]? = some (.cells cells2 245 (0, 0)) := by kernel_rfl
theorem laid0 (os : Os) : laidMet Tryz.prog Rows.resizeNoneRow.laid ((laidWorld os).forCall (fun _ _ => 0) ⟨#[], args0, []⟩).memory :=
  ⟨_, ⟨0, 245, cells0, 8, [], _, by kernel_rfl, by kernel_rfl, by kernel_rfl, by kernel_rfl, ⟨2, 245, cells1, 8, [], _, by kernel_rfl, by kernel_rfl, by kernel_rfl, by kernel_rfl, ⟨1, 245, cells2, 8, [], [], by kernel_rfl, by kernel_rfl, by kernel_rfl, by kernel_rfl, rfl, rfl⟩, rfl⟩, rfl⟩, by decide, fun b off h => by
    have h' : MemPlace.cell b off ∈ [MemPlace.cell 0 0, .cell 0 1, .cell 2 0, .cell 2 1, .cell 1 0, .cell 1 1] := h
    simp at h'
    rcases h' with ⟨rfl, rfl⟩ | ⟨rfl, rfl⟩ | ⟨rfl, rfl⟩ | ⟨rfl, rfl⟩ | ⟨rfl, rfl⟩ | ⟨rfl, rfl⟩
    · exact ⟨⟨_, _, row0 os⟩, fun u v hc => by simp only [World.cell?, row0 os] at hc; simp [cells0] at hc⟩
    · exact ⟨⟨_, _, row0 os⟩, fun u v hc => by simp only [World.cell?, row0 os] at hc; simp [cells0] at hc⟩
    · exact ⟨⟨_, _, row1 os⟩, fun u v hc => by simp only [World.cell?, row1 os] at hc; simp [cells1] at hc⟩
    · exact ⟨⟨_, _, row1 os⟩, fun u v hc => by simp only [World.cell?, row1 os] at hc; simp [cells1] at hc⟩
    · exact ⟨⟨_, _, row2 os⟩, fun u v hc => by simp only [World.cell?, row2 os] at hc; simp [cells2] at hc⟩
    · exact ⟨⟨_, _, row2 os⟩, fun u v hc => by simp only [World.cell?, row2 os] at hc; simp [cells2] at hc⟩⟩

set_option maxRecDepth 100000 in
theorem lifted (os : Os) (started : os.Started) (H : Type) (enc : TypeId × Value → H) :
    ReturnsInHanded {} Tryz.checked os 3 .any (fun w args => (Rows.resizeNoneSpec.pre enc Tryz.prog Tryz.f3 Rows.resizeNoneRow.domain false w args ∧ laidMet Tryz.prog Rows.resizeNoneRow.laid w) ∧ sizedMet enc Tryz.prog Tryz.f3 (OpenSpec.ofChange Rows.resizeNoneSpec) false w args)
      (Rows.resizeNoneSpec.post enc Tryz.prog Tryz.f3 false true false false) := by
  refine returnsInHanded_of_change_and (C := Tryz.checked) (X := fun w _ => laidMet Tryz.prog Rows.resizeNoneRow.laid w) (fun _ _ _ hh h => h.of_heap hh) own started (by kernel_rfl) Tryz.func3
    (ChangeSpec.witness_at (enc := enc) (C := Tryz.checked) (os := os) (X := fun w _ => laidMet Tryz.prog Rows.resizeNoneRow.laid w) false (laidWorld os) args0 8 rfl (by kernel_rfl) (by kernel_rfl) (by kernel_rfl) (by kernel_rfl) (by kernel_rfl) (laid0 os)) ?_
  intro W base args ds gs before hval0 hW hcnd _ hL _
  have hval : ∀ (j : Nat) t v, Tryz.f3.params[j]? = some t → args[j]? = some v → Value.okWide Tryz.prog W .any base t v := hval0
  have hW' := hW
  obtain ⟨p, q, hA0, hV, rfl, hfz, hnd⟩ := hW
  have hA : DataW.TrodAll enc Tryz.prog W 0 (fun _ => true) true Tryz.f3.params.toList args.toList ds p := hA0
  rw [Tryz.params3] at hA hval
  obtain ⟨v0, vs0, d0, ds0, p0, q0, hargs, rfl, rfl, h0, r0⟩ := trodAll_cons hA
  obtain ⟨v1, vs1, d1, ds1, p1, q1, rfl, rfl, rfl, h1, r1⟩ := trodAll_cons r0
  obtain ⟨v2, vs2, d2, ds2, p2, q2, rfl, rfl, rfl, h2, r2⟩ := trodAll_cons r1
  obtain ⟨v3, vs3, d3, ds3, p3, q3, rfl, rfl, rfl, h3, r3⟩ := trodAll_cons r2
  obtain ⟨v4, vs4, d4, ds4, p4, q4, rfl, rfl, rfl, h4, r4⟩ := trodAll_cons r3
  obtain ⟨v5, vs5, d5, ds5, p5, q5, rfl, rfl, rfl, h5, r5⟩ := trodAll_cons r4
  obtain ⟨rfl, rfl, rfl⟩ := trodAll_nil r5
  obtain rfl : args = #[v0, v1, v2, v3, v4, v5] := by cases args; simp_all
  obtain ⟨rfl, rfl⟩ := trodVars_none hV
  obtain ⟨a0, rfl, rfl, rfl, w0⟩ := open_int Tryz.underlying3 (hval 0 3 v0 rfl rfl) h0
  obtain ⟨a1, rfl, rfl, rfl, w1⟩ := open_int Tryz.underlying3 (hval 1 3 v1 rfl rfl) h1
  obtain ⟨a2, rfl, rfl, rfl, w2⟩ := open_int Tryz.underlying3 (hval 2 3 v2 rfl rfl) h2
  have k3 := h3
  have lt3 : ∀ x ∈ p3, x.block < W.heap.size := by obtain ⟨m, hm⟩ := k3; exact DataW.trod_lt m _ _ _ hm
  obtain ⟨a3, len3, cap3, rfl⟩ := okWide_slice Tryz.underlying22 (hval 3 22 v3 rfl rfl)
  have k4 := h4
  have lt4 : ∀ x ∈ p4, x.block < W.heap.size := by obtain ⟨m, hm⟩ := k4; exact DataW.trod_lt m _ _ _ hm
  obtain ⟨s4, rfl⟩ := okWide_string Tryz.underlying9 (hval 4 9 v4 rfl rfl)
  have k5 := h5
  have lt5 : ∀ x ∈ p5, x.block < W.heap.size := by obtain ⟨m, hm⟩ := k5; exact DataW.trod_lt m _ _ _ hm
  obtain ⟨b5, rfl⟩ := okWide_bool Tryz.underlying4 (hval 5 4 v5 rfl rfl)
  clear hA0 hval0
  refine (walk_yes (none16_ok (gl_of hL).1 (gl_of hL).2 a0 a1 a2 ⟨a3, len3, cap3⟩ s4 b5 fun σ' e => ⟨rfl, e⟩)).mono fun e W' ⟨he, bel⟩ => ?_
  subst he
  exact ⟨_, rfl, _, _, _, [], _, [], hW', trodAll_mk1 (shut_bool Tryz.underlying4 _), (trodAll_cons_mk (shut_int Tryz.underlying3 w0) (trodAll_cons_mk (shut_int Tryz.underlying3 w1) (trodAll_cons_mk (shut_int Tryz.underlying3 w2) (trodAll_cons_mk (Below.trod laidOut (by kernel_rfl) (of_decide_eq_true (by kernel_rfl)) k3 bel lt3) (trodAll_cons_mk (Below.trod laidOut (by kernel_rfl) (of_decide_eq_true (by kernel_rfl)) k4 bel lt4) (trodAll_cons_mk (Below.trod laidOut (by kernel_rfl) (of_decide_eq_true (by kernel_rfl)) k5 bel lt5) trodAll_mk0)))))), rfl, bel.frame _, fun h => by cases h⟩

theorem over : Rows.resizeNoneRow.holds Tryz.pinned (OpenSpec.ofChange Rows.resizeNoneSpec) :=
  OpenClaim.holds_of_wide 3 Tryz.f3 rfl rfl rfl rfl rfl rfl rfl ⟨rfl, rfl, rfl, rfl, rfl⟩ rfl rfl rfl rfl rfl (by kernel_rfl) Tryz.func3 closed
    (of_decide_eq_true (by kernel_rfl)) (by unfold Func.isWrapper; first | (rw [if_pos (by decide +kernel)]; kernel_rfl) | (rw [if_neg (by decide +kernel)]; exact ⟨rfl, rfl⟩))
    (fun os started H enc _ => lifted os started H enc)

/-- The tied card. -/
theorem card : Rows.ResizeNoneCardSaid :=
  Claim7.holds_tied_plain_at .later [] [.data, .data, .data] true (true, "63850df2994f27f5a3ace9533e86eca3b31972c4f358253999b72d13bbff30fd") true
    over (fun _ h => by cases h) d1 (fun _ h => by cases h) resizeNone_row_tie rfl ⟨rfl, rfl⟩ d2 rfl
    (fun f fn hf hfn => by
      obtain rfl : f = 3 := Option.some.inj ((show Tryz.prog.funcNamed "freehold/freeholdlaw16.ResizeNone" = some 3 by kernel_rfl).symm.trans hf) |>.symm
      obtain rfl : fn = Tryz.f3 := (Option.some.inj (Tryz.func3.symm.trans hfn)).symm
      exact ⟨d3, fun j t ht => by
        rw [Tryz.params3] at ht
        have hm : t ∈ [3, 3, 3, 22, 9, 4] := by simpa using Array.mem_of_getElem? ht
        exact (show Tryz.prog.wantsStandIn t = false by simpa using List.all_eq_true.1 d4 t hm)⟩)
    d5
#print axioms card
end Go.Proofs.YtehhfakcnbnipaaGreatDoor.resizeNone

