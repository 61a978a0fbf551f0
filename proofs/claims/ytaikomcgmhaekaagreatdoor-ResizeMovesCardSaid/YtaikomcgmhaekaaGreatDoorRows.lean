/-
  NARROWER THAN 'FOR EVERY INPUT', by the rows' own cells (each row's printed sentence says how): ResizeMany: laid · ResizeNothing: laid · ResizeMoves: laid.
  DERIVED. THE GIVEN ROWS OF THIS SEAT. 3 by the template 'for every input the law returns true; each argument reads behind the call as it read before'; 0 by the template 'total and deterministic' (their statements: YtaikomcgmhaekaaGreatDoorTotals.lean).
  GIVEN WITH THE SEED: the statements are not yours to turn. If you find one false, say at which input.
  Laid BY PROGRAM, IN A SANDBOX (cutbox-rows.mjs): the forced cells as the released guide's own fill.sh prints them over the translation 87d8e7b1294df9b5… (all of the seat's roots in one cut). By AI agents, Wed Nov 11 2026. No macro, syntax, notation, axiom, sorry.
-/
import Derived.Test.YtaikomcgmhaekaaGreatDoorChecked
import GoSem.Claim
import GoSem.ClaimJoined
import GoSem.ClaimMapViews
import Derived.JoinedTies
import Derived.KernelRfl
namespace Go.Proofs.YtaikomcgmhaekaaGreatDoor
/- THE CELL 'sum', in the pinned program and in every row, IS THE sha256 OF THE DUMP (.gsa) THAT YtaikomcgmhaekaaGreatDoorProg.lean LOADS. Nothing in Lean hashes anything: it is a label: what it is worth is what the hold of that sum in a sandbox is worth. -/
noncomputable def Tryz.pinned : Pinned := { name := "ytaikomcgmhaekaagreatdoor", sum := "87d8e7b1294df9b5cd84dadb5dd19e71dd33959b25599ae4f3d8aed8d3ab1c9c", checked := Tryz.checked }
namespace Rows
def none {H : Type} : Left H := { results := [], args := [] }

/- WHAT THE LISTED PACKAGE-LEVEL VARIABLES READ AS WHEN THE CALL BEGINS. Each datum BY PROGRAM (the guide's laid-datum.mjs) off the statement by which the dump's own 'gosem.cut.vars' lays the variable. In a bare row this is a premise. The card (YtaikomcgmhaekaaGreatDoorCards.lean) ties it to the program's text. -/
def laid_freehold_space_unmapped {H : Type} : DataW H := .agg [.lit (.bool false), .lit (.bool false)]
def laid_freehold_space_clean {H : Type} : DataW H := .agg [.lit (.bool true), .lit (.bool false)]
def laid_freehold_space_dirty {H : Type} : DataW H := .agg [.lit (.bool true), .lit (.bool true)]

/-- 'freeholdlaw16.ResizeMany': WHATEVER THE INPUT: true; the input reads as it did. -/
def resizeManySpec : ChangeSpec := { name := "resizeMany", fn := fun _ => fun
  | [d1, d2, d3, d4] => { results := [.lit (.bool true)], args := [d1, d2, d3, d4] }
  | _ => none }
def resizeManyRow : OpenClaim := { program := "ytaikomcgmhaekaagreatdoor", sum := "87d8e7b1294df9b5cd84dadb5dd19e71dd33959b25599ae4f3d8aed8d3ab1c9c", func := "freehold/freeholdlaw16.ResizeMany", spec := "resizeMany", inPlace := ["slices.overlaps[freehold/central.entry]"], unfollowed := true, recurses := true, named := ["freehold/space.clean", "freehold/space.unmapped", "freehold/space.dirty"], apart := false, laid := [("freehold/space.unmapped", laid_freehold_space_unmapped), ("freehold/space.clean", laid_freehold_space_clean), ("freehold/space.dirty", laid_freehold_space_dirty)] }
def ResizeManySaid : Prop := resizeManyRow.holds Tryz.pinned (OpenSpec.ofChange resizeManySpec)

/-- ITS FALSE NEIGHBOUR: 'it returns false'. Refute it at one input. -/
def resizeManyWrong : ChangeSpec := { name := "resizeMany", fn := fun _ => fun
  | [d1, d2, d3, d4] => { results := [.lit (.bool false)], args := [d1, d2, d3, d4] }
  | _ => none }
def ResizeManyWrongFalsely : Prop := resizeManyRow.holds Tryz.pinned (OpenSpec.ofChange resizeManyWrong)

/-- 'freeholdlaw16.ResizeNothing': WHATEVER THE INPUT: true; the input reads as it did. -/
def resizeNothingSpec : ChangeSpec := { name := "resizeNothing", fn := fun _ => fun
  | [d1, d2, d3] => { results := [.lit (.bool true)], args := [d1, d2, d3] }
  | _ => none }
def resizeNothingRow : OpenClaim := { program := "ytaikomcgmhaekaagreatdoor", sum := "87d8e7b1294df9b5cd84dadb5dd19e71dd33959b25599ae4f3d8aed8d3ab1c9c", func := "freehold/freeholdlaw16.ResizeNothing", spec := "resizeNothing", inPlace := ["slices.overlaps[freehold/central.entry]"], unfollowed := true, recurses := true, named := ["freehold/space.clean", "freehold/space.unmapped", "freehold/space.dirty"], apart := false, laid := [("freehold/space.unmapped", laid_freehold_space_unmapped), ("freehold/space.clean", laid_freehold_space_clean), ("freehold/space.dirty", laid_freehold_space_dirty)] }
def ResizeNothingSaid : Prop := resizeNothingRow.holds Tryz.pinned (OpenSpec.ofChange resizeNothingSpec)

/-- ITS FALSE NEIGHBOUR: 'it returns false'. Refute it at one input. -/
def resizeNothingWrong : ChangeSpec := { name := "resizeNothing", fn := fun _ => fun
  | [d1, d2, d3] => { results := [.lit (.bool false)], args := [d1, d2, d3] }
  | _ => none }
def ResizeNothingWrongFalsely : Prop := resizeNothingRow.holds Tryz.pinned (OpenSpec.ofChange resizeNothingWrong)

/-- 'freeholdlaw16.ResizeMoves': WHATEVER THE INPUT: true; the input reads as it did. -/
def resizeMovesSpec : ChangeSpec := { name := "resizeMoves", fn := fun _ => fun
  | [d1, d2, d3, d4, d5] => { results := [.lit (.bool true)], args := [d1, d2, d3, d4, d5] }
  | _ => none }
def resizeMovesRow : OpenClaim := { program := "ytaikomcgmhaekaagreatdoor", sum := "87d8e7b1294df9b5cd84dadb5dd19e71dd33959b25599ae4f3d8aed8d3ab1c9c", func := "freehold/freeholdlaw16.ResizeMoves", spec := "resizeMoves", inPlace := ["slices.overlaps[freehold/central.entry]", "maps.clone"], unfollowed := true, recurses := true, named := ["freehold/space.clean", "freehold/space.unmapped", "freehold/space.dirty"], apart := false, laid := [("freehold/space.unmapped", laid_freehold_space_unmapped), ("freehold/space.clean", laid_freehold_space_clean), ("freehold/space.dirty", laid_freehold_space_dirty)] }
def ResizeMovesSaid : Prop := resizeMovesRow.holds Tryz.pinned (OpenSpec.ofChange resizeMovesSpec)

/-- ITS FALSE NEIGHBOUR: 'it returns false'. Refute it at one input. -/
def resizeMovesWrong : ChangeSpec := { name := "resizeMoves", fn := fun _ => fun
  | [d1, d2, d3, d4, d5] => { results := [.lit (.bool false)], args := [d1, d2, d3, d4, d5] }
  | _ => none }
def ResizeMovesWrongFalsely : Prop := resizeMovesRow.holds Tryz.pinned (OpenSpec.ofChange resizeMovesWrong)

/- THE SECOND FORM. 'bulk': how many values and letters a reading holds, each counted each time it is reached (what is shared counts as often as it is met; a slice's spare places count too). A statement '..UptoSaid' is the law's where the arguments, and the package variables that the reading takes, are together of bulk at most 1048576: NARROWER than '..Said'. Prove '..Said' where nothing that the law and all that it calls make is longer than what came in: it says more and counts as full. Else prove '..UptoSaid'. A law counts once. -/
mutual
def uptoBulk {H : Type} : DataW H → Nat
  | .lit (.string bytes) => bytes.length + 1
  | .lit _ => 1
  | .nil => 1
  | .ptr d => uptoBulk d + 1
  | .slice elems spare => uptoBulkAll elems + uptoBulkAll spare + 1
  | .agg parts => uptoBulkAll parts + 1
  | .iface _ d => uptoBulk d + 1
  | .map entries => uptoBulkEntries entries + 1
  | .held _ => 1
def uptoBulkAll {H : Type} : List (DataW H) → Nat
  | [] => 0
  | d :: r => uptoBulk d + uptoBulkAll r
def uptoBulkEntries {H : Type} : List (Lit × DataW H) → Nat
  | [] => 0
  | x :: r => uptoBulkEntry x + uptoBulkEntries r
def uptoBulkEntry {H : Type} : Lit × DataW H → Nat
  | (.string bytes, d) => bytes.length + uptoBulk d + 1
  | (_, d) => uptoBulk d + 1
 end
def uptoSmall : (H : Type) → List (DataW H) → Bool := fun _ ds => decide (uptoBulkAll ds ≤ 1048576)
def OpenSpec.upto (s : _root_.Go.ChangeSpec) : _root_.Go.OpenSpec := { _root_.Go.OpenSpec.ofChange s with cond := some uptoSmall }

/-- 'freeholdlaw16.ResizeMany', WHERE WHAT IT READS IS OF BULK AT MOST 1048576: true; the input reads as it did. -/
def resizeManyUptoRow : OpenClaim := { program := "ytaikomcgmhaekaagreatdoor", sum := "87d8e7b1294df9b5cd84dadb5dd19e71dd33959b25599ae4f3d8aed8d3ab1c9c", func := "freehold/freeholdlaw16.ResizeMany", spec := "resizeMany", inPlace := ["slices.overlaps[freehold/central.entry]"], unfollowed := true, recurses := true, named := ["freehold/space.clean", "freehold/space.unmapped", "freehold/space.dirty"], apart := false, laid := [("freehold/space.unmapped", laid_freehold_space_unmapped), ("freehold/space.clean", laid_freehold_space_clean), ("freehold/space.dirty", laid_freehold_space_dirty)], narrowed := true }
def ResizeManyUptoSaid : Prop := resizeManyUptoRow.holds Tryz.pinned (OpenSpec.upto resizeManySpec)

/-- 'freeholdlaw16.ResizeNothing', WHERE WHAT IT READS IS OF BULK AT MOST 1048576: true; the input reads as it did. -/
def resizeNothingUptoRow : OpenClaim := { program := "ytaikomcgmhaekaagreatdoor", sum := "87d8e7b1294df9b5cd84dadb5dd19e71dd33959b25599ae4f3d8aed8d3ab1c9c", func := "freehold/freeholdlaw16.ResizeNothing", spec := "resizeNothing", inPlace := ["slices.overlaps[freehold/central.entry]"], unfollowed := true, recurses := true, named := ["freehold/space.clean", "freehold/space.unmapped", "freehold/space.dirty"], apart := false, laid := [("freehold/space.unmapped", laid_freehold_space_unmapped), ("freehold/space.clean", laid_freehold_space_clean), ("freehold/space.dirty", laid_freehold_space_dirty)], narrowed := true }
def ResizeNothingUptoSaid : Prop := resizeNothingUptoRow.holds Tryz.pinned (OpenSpec.upto resizeNothingSpec)

/-- 'freeholdlaw16.ResizeMoves', WHERE WHAT IT READS IS OF BULK AT MOST 1048576: true; the input reads as it did. -/
def resizeMovesUptoRow : OpenClaim := { program := "ytaikomcgmhaekaagreatdoor", sum := "87d8e7b1294df9b5cd84dadb5dd19e71dd33959b25599ae4f3d8aed8d3ab1c9c", func := "freehold/freeholdlaw16.ResizeMoves", spec := "resizeMoves", inPlace := ["slices.overlaps[freehold/central.entry]", "maps.clone"], unfollowed := true, recurses := true, named := ["freehold/space.clean", "freehold/space.unmapped", "freehold/space.dirty"], apart := false, laid := [("freehold/space.unmapped", laid_freehold_space_unmapped), ("freehold/space.clean", laid_freehold_space_clean), ("freehold/space.dirty", laid_freehold_space_dirty)], narrowed := true }
def ResizeMovesUptoSaid : Prop := resizeMovesUptoRow.holds Tryz.pinned (OpenSpec.upto resizeMovesSpec)

end Rows
end Go.Proofs.YtaikomcgmhaekaaGreatDoor
