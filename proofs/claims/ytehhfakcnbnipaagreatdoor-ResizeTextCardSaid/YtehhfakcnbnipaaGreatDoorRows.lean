/-
  NARROWER THAN 'FOR EVERY INPUT', by the rows' own cells (each row's printed sentence says how): ResizeNone: laid · ResizeText: laid · ResizeGood: laid · ResizeZero: laid · ResizeContents: laid · ResizeMany: laid · ResizeNothing: laid · ResizeMoves: laid.
  DERIVED. THE GIVEN ROWS OF THIS SEAT. 8 by the template 'for every input the law returns true; each argument reads behind the call as it read before'; 0 by the template 'total and deterministic' (their statements: YtehhfakcnbnipaaGreatDoorTotals.lean).
  GIVEN WITH THE SEED: the statements are not yours to turn. If you find one false, say at which input.
  Laid BY PROGRAM, IN A SANDBOX (cutbox-rows.mjs): the forced cells as the released guide's own fill.sh prints them over the translation 30a61abb13ca38b4… (all of the seat's roots in one cut). By AI agents, Wed Nov 11 2026. No macro, syntax, notation, axiom, sorry.
-/
import Derived.Test.YtehhfakcnbnipaaGreatDoorChecked
import GoSem.Claim
import GoSem.ClaimJoined
import GoSem.ClaimMapViews
import Derived.JoinedTies
import Derived.KernelRfl
namespace Go.Proofs.YtehhfakcnbnipaaGreatDoor
/- THE CELL 'sum', in the pinned program and in every row, IS THE sha256 OF THE DUMP (.gsa) THAT YtehhfakcnbnipaaGreatDoorProg.lean LOADS. Nothing in Lean hashes anything: it is a label: what it is worth is what the hold of that sum in a sandbox is worth. -/
noncomputable def Tryz.pinned : Pinned := { name := "ytehhfakcnbnipaagreatdoor", sum := "30a61abb13ca38b467c0fbb61496efe23a99f7a21e7c1d29f4c4ba43def6bf6e", checked := Tryz.checked }
namespace Rows
def none {H : Type} : Left H := { results := [], args := [] }

/- WHAT THE LISTED PACKAGE-LEVEL VARIABLES READ AS WHEN THE CALL BEGINS. Each datum BY PROGRAM (the guide's laid-datum.mjs) off the statement by which the dump's own 'gosem.cut.vars' lays the variable. In a bare row this is a premise. The card (YtehhfakcnbnipaaGreatDoorCards.lean) ties it to the program's text. -/
def laid_freehold_space_unmapped {H : Type} : DataW H := .agg [.lit (.bool false), .lit (.bool false)]
def laid_freehold_space_clean {H : Type} : DataW H := .agg [.lit (.bool true), .lit (.bool false)]
def laid_freehold_space_dirty {H : Type} : DataW H := .agg [.lit (.bool true), .lit (.bool true)]

/-- 'freeholdlaw16.ResizeNone': WHATEVER THE INPUT: true; the input reads as it did. -/
def resizeNoneSpec : ChangeSpec := { name := "resizeNone", fn := fun _ => fun
  | [d1, d2, d3, d4, d5, d6] => { results := [.lit (.bool true)], args := [d1, d2, d3, d4, d5, d6] }
  | _ => none }
def resizeNoneRow : OpenClaim := { program := "ytehhfakcnbnipaagreatdoor", sum := "30a61abb13ca38b467c0fbb61496efe23a99f7a21e7c1d29f4c4ba43def6bf6e", func := "freehold/freeholdlaw16.ResizeNone", spec := "resizeNone", inPlace := ["slices.overlaps[freehold/central.entry]"], unfollowed := true, recurses := true, named := ["freehold/space.clean", "freehold/space.unmapped", "freehold/space.dirty"], apart := false, laid := [("freehold/space.unmapped", laid_freehold_space_unmapped), ("freehold/space.clean", laid_freehold_space_clean), ("freehold/space.dirty", laid_freehold_space_dirty)] }
def ResizeNoneSaid : Prop := resizeNoneRow.holds Tryz.pinned (OpenSpec.ofChange resizeNoneSpec)

/-- ITS FALSE NEIGHBOUR: 'it returns false'. Refute it at one input. -/
def resizeNoneWrong : ChangeSpec := { name := "resizeNone", fn := fun _ => fun
  | [d1, d2, d3, d4, d5, d6] => { results := [.lit (.bool false)], args := [d1, d2, d3, d4, d5, d6] }
  | _ => none }
def ResizeNoneWrongFalsely : Prop := resizeNoneRow.holds Tryz.pinned (OpenSpec.ofChange resizeNoneWrong)

/-- 'freeholdlaw16.ResizeText': WHATEVER THE INPUT: true; the input reads as it did. -/
def resizeTextSpec : ChangeSpec := { name := "resizeText", fn := fun _ => fun
  | [d1, d2, d3, d4] => { results := [.lit (.bool true)], args := [d1, d2, d3, d4] }
  | _ => none }
def resizeTextRow : OpenClaim := { program := "ytehhfakcnbnipaagreatdoor", sum := "30a61abb13ca38b467c0fbb61496efe23a99f7a21e7c1d29f4c4ba43def6bf6e", func := "freehold/freeholdlaw16.ResizeText", spec := "resizeText", inPlace := ["slices.overlaps[freehold/central.entry]"], unfollowed := true, recurses := true, named := ["freehold/space.clean", "freehold/space.unmapped", "freehold/space.dirty"], apart := false, laid := [("freehold/space.unmapped", laid_freehold_space_unmapped), ("freehold/space.clean", laid_freehold_space_clean), ("freehold/space.dirty", laid_freehold_space_dirty)] }
def ResizeTextSaid : Prop := resizeTextRow.holds Tryz.pinned (OpenSpec.ofChange resizeTextSpec)

/-- ITS FALSE NEIGHBOUR: 'it returns false'. Refute it at one input. -/
def resizeTextWrong : ChangeSpec := { name := "resizeText", fn := fun _ => fun
  | [d1, d2, d3, d4] => { results := [.lit (.bool false)], args := [d1, d2, d3, d4] }
  | _ => none }
def ResizeTextWrongFalsely : Prop := resizeTextRow.holds Tryz.pinned (OpenSpec.ofChange resizeTextWrong)

/-- 'freeholdlaw16.ResizeGood': WHATEVER THE INPUT: true; the input reads as it did. -/
def resizeGoodSpec : ChangeSpec := { name := "resizeGood", fn := fun _ => fun
  | [d1, d2, d3, d4, d5] => { results := [.lit (.bool true)], args := [d1, d2, d3, d4, d5] }
  | _ => none }
def resizeGoodRow : OpenClaim := { program := "ytehhfakcnbnipaagreatdoor", sum := "30a61abb13ca38b467c0fbb61496efe23a99f7a21e7c1d29f4c4ba43def6bf6e", func := "freehold/freeholdlaw16.ResizeGood", spec := "resizeGood", inPlace := ["slices.overlaps[freehold/central.entry]"], unfollowed := true, recurses := true, named := ["freehold/space.clean", "freehold/space.unmapped", "freehold/space.dirty"], apart := false, laid := [("freehold/space.unmapped", laid_freehold_space_unmapped), ("freehold/space.clean", laid_freehold_space_clean), ("freehold/space.dirty", laid_freehold_space_dirty)] }
def ResizeGoodSaid : Prop := resizeGoodRow.holds Tryz.pinned (OpenSpec.ofChange resizeGoodSpec)

/-- ITS FALSE NEIGHBOUR: 'it returns false'. Refute it at one input. -/
def resizeGoodWrong : ChangeSpec := { name := "resizeGood", fn := fun _ => fun
  | [d1, d2, d3, d4, d5] => { results := [.lit (.bool false)], args := [d1, d2, d3, d4, d5] }
  | _ => none }
def ResizeGoodWrongFalsely : Prop := resizeGoodRow.holds Tryz.pinned (OpenSpec.ofChange resizeGoodWrong)

/-- 'freeholdlaw16.ResizeZero': WHATEVER THE INPUT: true; the input reads as it did. -/
def resizeZeroSpec : ChangeSpec := { name := "resizeZero", fn := fun _ => fun
  | [d1, d2, d3, d4, d5] => { results := [.lit (.bool true)], args := [d1, d2, d3, d4, d5] }
  | _ => none }
def resizeZeroRow : OpenClaim := { program := "ytehhfakcnbnipaagreatdoor", sum := "30a61abb13ca38b467c0fbb61496efe23a99f7a21e7c1d29f4c4ba43def6bf6e", func := "freehold/freeholdlaw16.ResizeZero", spec := "resizeZero", inPlace := ["slices.overlaps[freehold/central.entry]"], unfollowed := true, recurses := true, named := ["freehold/space.clean", "freehold/space.unmapped", "freehold/space.dirty"], apart := false, laid := [("freehold/space.unmapped", laid_freehold_space_unmapped), ("freehold/space.clean", laid_freehold_space_clean), ("freehold/space.dirty", laid_freehold_space_dirty)] }
def ResizeZeroSaid : Prop := resizeZeroRow.holds Tryz.pinned (OpenSpec.ofChange resizeZeroSpec)

/-- ITS FALSE NEIGHBOUR: 'it returns false'. Refute it at one input. -/
def resizeZeroWrong : ChangeSpec := { name := "resizeZero", fn := fun _ => fun
  | [d1, d2, d3, d4, d5] => { results := [.lit (.bool false)], args := [d1, d2, d3, d4, d5] }
  | _ => none }
def ResizeZeroWrongFalsely : Prop := resizeZeroRow.holds Tryz.pinned (OpenSpec.ofChange resizeZeroWrong)

/-- 'freeholdlaw16.ResizeContents': WHATEVER THE INPUT: true; the input reads as it did. -/
def resizeContentsSpec : ChangeSpec := { name := "resizeContents", fn := fun _ => fun
  | [d1, d2, d3, d4, d5] => { results := [.lit (.bool true)], args := [d1, d2, d3, d4, d5] }
  | _ => none }
def resizeContentsRow : OpenClaim := { program := "ytehhfakcnbnipaagreatdoor", sum := "30a61abb13ca38b467c0fbb61496efe23a99f7a21e7c1d29f4c4ba43def6bf6e", func := "freehold/freeholdlaw16.ResizeContents", spec := "resizeContents", inPlace := ["slices.overlaps[freehold/central.entry]"], unfollowed := true, recurses := true, named := ["freehold/space.clean", "freehold/space.unmapped", "freehold/space.dirty"], apart := false, laid := [("freehold/space.unmapped", laid_freehold_space_unmapped), ("freehold/space.clean", laid_freehold_space_clean), ("freehold/space.dirty", laid_freehold_space_dirty)] }
def ResizeContentsSaid : Prop := resizeContentsRow.holds Tryz.pinned (OpenSpec.ofChange resizeContentsSpec)

/-- ITS FALSE NEIGHBOUR: 'it returns false'. Refute it at one input. -/
def resizeContentsWrong : ChangeSpec := { name := "resizeContents", fn := fun _ => fun
  | [d1, d2, d3, d4, d5] => { results := [.lit (.bool false)], args := [d1, d2, d3, d4, d5] }
  | _ => none }
def ResizeContentsWrongFalsely : Prop := resizeContentsRow.holds Tryz.pinned (OpenSpec.ofChange resizeContentsWrong)

/-- 'freeholdlaw16.ResizeMany': WHATEVER THE INPUT: true; the input reads as it did. -/
def resizeManySpec : ChangeSpec := { name := "resizeMany", fn := fun _ => fun
  | [d1, d2, d3, d4] => { results := [.lit (.bool true)], args := [d1, d2, d3, d4] }
  | _ => none }
def resizeManyRow : OpenClaim := { program := "ytehhfakcnbnipaagreatdoor", sum := "30a61abb13ca38b467c0fbb61496efe23a99f7a21e7c1d29f4c4ba43def6bf6e", func := "freehold/freeholdlaw16.ResizeMany", spec := "resizeMany", inPlace := ["slices.overlaps[freehold/central.entry]"], unfollowed := true, recurses := true, named := ["freehold/space.clean", "freehold/space.unmapped", "freehold/space.dirty"], apart := false, laid := [("freehold/space.unmapped", laid_freehold_space_unmapped), ("freehold/space.clean", laid_freehold_space_clean), ("freehold/space.dirty", laid_freehold_space_dirty)] }
def ResizeManySaid : Prop := resizeManyRow.holds Tryz.pinned (OpenSpec.ofChange resizeManySpec)

/-- ITS FALSE NEIGHBOUR: 'it returns false'. Refute it at one input. -/
def resizeManyWrong : ChangeSpec := { name := "resizeMany", fn := fun _ => fun
  | [d1, d2, d3, d4] => { results := [.lit (.bool false)], args := [d1, d2, d3, d4] }
  | _ => none }
def ResizeManyWrongFalsely : Prop := resizeManyRow.holds Tryz.pinned (OpenSpec.ofChange resizeManyWrong)

/-- 'freeholdlaw16.ResizeNothing': WHATEVER THE INPUT: true; the input reads as it did. -/
def resizeNothingSpec : ChangeSpec := { name := "resizeNothing", fn := fun _ => fun
  | [d1, d2, d3] => { results := [.lit (.bool true)], args := [d1, d2, d3] }
  | _ => none }
def resizeNothingRow : OpenClaim := { program := "ytehhfakcnbnipaagreatdoor", sum := "30a61abb13ca38b467c0fbb61496efe23a99f7a21e7c1d29f4c4ba43def6bf6e", func := "freehold/freeholdlaw16.ResizeNothing", spec := "resizeNothing", inPlace := ["slices.overlaps[freehold/central.entry]"], unfollowed := true, recurses := true, named := ["freehold/space.clean", "freehold/space.unmapped", "freehold/space.dirty"], apart := false, laid := [("freehold/space.unmapped", laid_freehold_space_unmapped), ("freehold/space.clean", laid_freehold_space_clean), ("freehold/space.dirty", laid_freehold_space_dirty)] }
def ResizeNothingSaid : Prop := resizeNothingRow.holds Tryz.pinned (OpenSpec.ofChange resizeNothingSpec)

/-- ITS FALSE NEIGHBOUR: 'it returns false'. Refute it at one input. -/
def resizeNothingWrong : ChangeSpec := { name := "resizeNothing", fn := fun _ => fun
  | [d1, d2, d3] => { results := [.lit (.bool false)], args := [d1, d2, d3] }
  | _ => none }
def ResizeNothingWrongFalsely : Prop := resizeNothingRow.holds Tryz.pinned (OpenSpec.ofChange resizeNothingWrong)

/-- 'freeholdlaw16.ResizeMoves': WHATEVER THE INPUT: true; the input reads as it did. -/
def resizeMovesSpec : ChangeSpec := { name := "resizeMoves", fn := fun _ => fun
  | [d1, d2, d3, d4, d5] => { results := [.lit (.bool true)], args := [d1, d2, d3, d4, d5] }
  | _ => none }
def resizeMovesRow : OpenClaim := { program := "ytehhfakcnbnipaagreatdoor", sum := "30a61abb13ca38b467c0fbb61496efe23a99f7a21e7c1d29f4c4ba43def6bf6e", func := "freehold/freeholdlaw16.ResizeMoves", spec := "resizeMoves", inPlace := ["slices.overlaps[freehold/central.entry]", "maps.clone"], unfollowed := true, recurses := true, named := ["freehold/space.clean", "freehold/space.unmapped", "freehold/space.dirty"], apart := false, laid := [("freehold/space.unmapped", laid_freehold_space_unmapped), ("freehold/space.clean", laid_freehold_space_clean), ("freehold/space.dirty", laid_freehold_space_dirty)] }
def ResizeMovesSaid : Prop := resizeMovesRow.holds Tryz.pinned (OpenSpec.ofChange resizeMovesSpec)

/-- ITS FALSE NEIGHBOUR: 'it returns false'. Refute it at one input. -/
def resizeMovesWrong : ChangeSpec := { name := "resizeMoves", fn := fun _ => fun
  | [d1, d2, d3, d4, d5] => { results := [.lit (.bool false)], args := [d1, d2, d3, d4, d5] }
  | _ => none }
def ResizeMovesWrongFalsely : Prop := resizeMovesRow.holds Tryz.pinned (OpenSpec.ofChange resizeMovesWrong)

/- THE SECOND FORM. 'bulk': how many values and letters a reading holds, each counted each time it is reached (what is shared counts as often as it is met; a slice's spare places count too). A statement '..UptoSaid' is the law's where the arguments, and the package variables that the reading takes, are together of bulk at most 1048576: NARROWER than '..Said'. Prove '..Said' where nothing that the law and all that it calls make is longer than what came in: it says more and counts as full. Else prove '..UptoSaid'. A law counts once. -/
mutual
def uptoBulk {H : Type} : DataW H → Nat
  | .lit (.string bytes) => bytes.length + 1
  | .lit _ => 1
  | .nil => 1
  | .ptr d => uptoBulk d + 1
  | .slice elems spare => uptoBulkAll elems + uptoBulkAll spare + 1
  | .agg parts => uptoBulkAll parts + 1
  | .iface _ d => uptoBulk d + 1
  | .map entries => uptoBulkEntries entries + 1
  | .held _ => 1
def uptoBulkAll {H : Type} : List (DataW H) → Nat
  | [] => 0
  | d :: r => uptoBulk d + uptoBulkAll r
def uptoBulkEntries {H : Type} : List (Lit × DataW H) → Nat
  | [] => 0
  | x :: r => uptoBulkEntry x + uptoBulkEntries r
def uptoBulkEntry {H : Type} : Lit × DataW H → Nat
  | (.string bytes, d) => bytes.length + uptoBulk d + 1
  | (_, d) => uptoBulk d + 1
 end
def uptoSmall : (H : Type) → List (DataW H) → Bool := fun _ ds => decide (uptoBulkAll ds ≤ 1048576)
def OpenSpec.upto (s : _root_.Go.ChangeSpec) : _root_.Go.OpenSpec := { _root_.Go.OpenSpec.ofChange s with cond := some uptoSmall }

/-- 'freeholdlaw16.ResizeNone', WHERE WHAT IT READS IS OF BULK AT MOST 1048576: true; the input reads as it did. -/
def resizeNoneUptoRow : OpenClaim := { program := "ytehhfakcnbnipaagreatdoor", sum := "30a61abb13ca38b467c0fbb61496efe23a99f7a21e7c1d29f4c4ba43def6bf6e", func := "freehold/freeholdlaw16.ResizeNone", spec := "resizeNone", inPlace := ["slices.overlaps[freehold/central.entry]"], unfollowed := true, recurses := true, named := ["freehold/space.clean", "freehold/space.unmapped", "freehold/space.dirty"], apart := false, laid := [("freehold/space.unmapped", laid_freehold_space_unmapped), ("freehold/space.clean", laid_freehold_space_clean), ("freehold/space.dirty", laid_freehold_space_dirty)], narrowed := true }
def ResizeNoneUptoSaid : Prop := resizeNoneUptoRow.holds Tryz.pinned (OpenSpec.upto resizeNoneSpec)

/-- 'freeholdlaw16.ResizeText', WHERE WHAT IT READS IS OF BULK AT MOST 1048576: true; the input reads as it did. -/
def resizeTextUptoRow : OpenClaim := { program := "ytehhfakcnbnipaagreatdoor", sum := "30a61abb13ca38b467c0fbb61496efe23a99f7a21e7c1d29f4c4ba43def6bf6e", func := "freehold/freeholdlaw16.ResizeText", spec := "resizeText", inPlace := ["slices.overlaps[freehold/central.entry]"], unfollowed := true, recurses := true, named := ["freehold/space.clean", "freehold/space.unmapped", "freehold/space.dirty"], apart := false, laid := [("freehold/space.unmapped", laid_freehold_space_unmapped), ("freehold/space.clean", laid_freehold_space_clean), ("freehold/space.dirty", laid_freehold_space_dirty)], narrowed := true }
def ResizeTextUptoSaid : Prop := resizeTextUptoRow.holds Tryz.pinned (OpenSpec.upto resizeTextSpec)

/-- 'freeholdlaw16.ResizeGood', WHERE WHAT IT READS IS OF BULK AT MOST 1048576: true; the input reads as it did. -/
def resizeGoodUptoRow : OpenClaim := { program := "ytehhfakcnbnipaagreatdoor", sum := "30a61abb13ca38b467c0fbb61496efe23a99f7a21e7c1d29f4c4ba43def6bf6e", func := "freehold/freeholdlaw16.ResizeGood", spec := "resizeGood", inPlace := ["slices.overlaps[freehold/central.entry]"], unfollowed := true, recurses := true, named := ["freehold/space.clean", "freehold/space.unmapped", "freehold/space.dirty"], apart := false, laid := [("freehold/space.unmapped", laid_freehold_space_unmapped), ("freehold/space.clean", laid_freehold_space_clean), ("freehold/space.dirty", laid_freehold_space_dirty)], narrowed := true }
def ResizeGoodUptoSaid : Prop := resizeGoodUptoRow.holds Tryz.pinned (OpenSpec.upto resizeGoodSpec)

/-- 'freeholdlaw16.ResizeZero', WHERE WHAT IT READS IS OF BULK AT MOST 1048576: true; the input reads as it did. -/
def resizeZeroUptoRow : OpenClaim := { program := "ytehhfakcnbnipaagreatdoor", sum := "30a61abb13ca38b467c0fbb61496efe23a99f7a21e7c1d29f4c4ba43def6bf6e", func := "freehold/freeholdlaw16.ResizeZero", spec := "resizeZero", inPlace := ["slices.overlaps[freehold/central.entry]"], unfollowed := true, recurses := true, named := ["freehold/space.clean", "freehold/space.unmapped", "freehold/space.dirty"], apart := false, laid := [("freehold/space.unmapped", laid_freehold_space_unmapped), ("freehold/space.clean", laid_freehold_space_clean), ("freehold/space.dirty", laid_freehold_space_dirty)], narrowed := true }
def ResizeZeroUptoSaid : Prop := resizeZeroUptoRow.holds Tryz.pinned (OpenSpec.upto resizeZeroSpec)

/-- 'freeholdlaw16.ResizeContents', WHERE WHAT IT READS IS OF BULK AT MOST 1048576: true; the input reads as it did. -/
def resizeContentsUptoRow : OpenClaim := { program := "ytehhfakcnbnipaagreatdoor", sum := "30a61abb13ca38b467c0fbb61496efe23a99f7a21e7c1d29f4c4ba43def6bf6e", func := "freehold/freeholdlaw16.ResizeContents", spec := "resizeContents", inPlace := ["slices.overlaps[freehold/central.entry]"], unfollowed := true, recurses := true, named := ["freehold/space.clean", "freehold/space.unmapped", "freehold/space.dirty"], apart := false, laid := [("freehold/space.unmapped", laid_freehold_space_unmapped), ("freehold/space.clean", laid_freehold_space_clean), ("freehold/space.dirty", laid_freehold_space_dirty)], narrowed := true }
def ResizeContentsUptoSaid : Prop := resizeContentsUptoRow.holds Tryz.pinned (OpenSpec.upto resizeContentsSpec)

/-- 'freeholdlaw16.ResizeMany', WHERE WHAT IT READS IS OF BULK AT MOST 1048576: true; the input reads as it did. -/
def resizeManyUptoRow : OpenClaim := { program := "ytehhfakcnbnipaagreatdoor", sum := "30a61abb13ca38b467c0fbb61496efe23a99f7a21e7c1d29f4c4ba43def6bf6e", func := "freehold/freeholdlaw16.ResizeMany", spec := "resizeMany", inPlace := ["slices.overlaps[freehold/central.entry]"], unfollowed := true, recurses := true, named := ["freehold/space.clean", "freehold/space.unmapped", "freehold/space.dirty"], apart := false, laid := [("freehold/space.unmapped", laid_freehold_space_unmapped), ("freehold/space.clean", laid_freehold_space_clean), ("freehold/space.dirty", laid_freehold_space_dirty)], narrowed := true }
def ResizeManyUptoSaid : Prop := resizeManyUptoRow.holds Tryz.pinned (OpenSpec.upto resizeManySpec)

/-- 'freeholdlaw16.ResizeNothing', WHERE WHAT IT READS IS OF BULK AT MOST 1048576: true; the input reads as it did. -/
def resizeNothingUptoRow : OpenClaim := { program := "ytehhfakcnbnipaagreatdoor", sum := "30a61abb13ca38b467c0fbb61496efe23a99f7a21e7c1d29f4c4ba43def6bf6e", func := "freehold/freeholdlaw16.ResizeNothing", spec := "resizeNothing", inPlace := ["slices.overlaps[freehold/central.entry]"], unfollowed := true, recurses := true, named := ["freehold/space.clean", "freehold/space.unmapped", "freehold/space.dirty"], apart := false, laid := [("freehold/space.unmapped", laid_freehold_space_unmapped), ("freehold/space.clean", laid_freehold_space_clean), ("freehold/space.dirty", laid_freehold_space_dirty)], narrowed := true }
def ResizeNothingUptoSaid : Prop := resizeNothingUptoRow.holds Tryz.pinned (OpenSpec.upto resizeNothingSpec)

/-- 'freeholdlaw16.ResizeMoves', WHERE WHAT IT READS IS OF BULK AT MOST 1048576: true; the input reads as it did. -/
def resizeMovesUptoRow : OpenClaim := { program := "ytehhfakcnbnipaagreatdoor", sum := "30a61abb13ca38b467c0fbb61496efe23a99f7a21e7c1d29f4c4ba43def6bf6e", func := "freehold/freeholdlaw16.ResizeMoves", spec := "resizeMoves", inPlace := ["slices.overlaps[freehold/central.entry]", "maps.clone"], unfollowed := true, recurses := true, named := ["freehold/space.clean", "freehold/space.unmapped", "freehold/space.dirty"], apart := false, laid := [("freehold/space.unmapped", laid_freehold_space_unmapped), ("freehold/space.clean", laid_freehold_space_clean), ("freehold/space.dirty", laid_freehold_space_dirty)], narrowed := true }
def ResizeMovesUptoSaid : Prop := resizeMovesUptoRow.holds Tryz.pinned (OpenSpec.upto resizeMovesSpec)

end Rows
end Go.Proofs.YtehhfakcnbnipaaGreatDoor
