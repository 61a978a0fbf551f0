/-
  NARROWER THAN 'FOR EVERY INPUT', by the rows' own cells (each row's printed sentence says how): GuardFresh: laid · GuardInside: laid · GuardFinds: laid · GuardApart: laid · GuardCaught: laid · GuardFrees: laid · GuardNone: laid · GuardRefuses: laid.
  DERIVED. THE GIVEN ROWS OF THIS SEAT. 8 by the template 'for every input the law returns true; each argument reads behind the call as it read before'; 0 by the template 'total and deterministic' (their statements: YteihenagckcobaaGreatDoorTotals.lean).
  GIVEN WITH THE SEED: the statements are not yours to turn. If you find one false, say at which input.
  Laid BY PROGRAM, IN A SANDBOX (cutbox-rows.mjs): the forced cells as the released guide's own fill.sh prints them over the translation fb0238742fb3ff17… (all of the seat's roots in one cut). By AI agents, Wed Nov 11 2026. No macro, syntax, notation, axiom, sorry.
-/
import Derived.Test.YteihenagckcobaaGreatDoorChecked
import GoSem.Claim
import GoSem.ClaimJoined
import GoSem.ClaimMapViews
import Derived.JoinedTies
import Derived.KernelRfl
namespace Go.Proofs.YteihenagckcobaaGreatDoor
/- THE CELL 'sum', in the pinned program and in every row, IS THE sha256 OF THE DUMP (.gsa) THAT YteihenagckcobaaGreatDoorProg.lean LOADS. Nothing in Lean hashes anything: it is a label: what it is worth is what the hold of that sum in a sandbox is worth. -/
noncomputable def Tryz.pinned : Pinned := { name := "yteihenagckcobaagreatdoor", sum := "fb0238742fb3ff17da185dbb402d57956fc4c20fe04248e5b4dea944ce88cc6c", checked := Tryz.checked }
namespace Rows
def none {H : Type} : Left H := { results := [], args := [] }

/- WHAT THE LISTED PACKAGE-LEVEL VARIABLES READ AS WHEN THE CALL BEGINS. Each datum BY PROGRAM (the guide's laid-datum.mjs) off the statement by which the dump's own 'gosem.cut.vars' lays the variable. In a bare row this is a premise. The card (YteihenagckcobaaGreatDoorCards.lean) ties it to the program's text. -/
def laid_freehold_space_unmapped {H : Type} : DataW H := .agg [.lit (.bool false), .lit (.bool false)]
def laid_freehold_space_clean {H : Type} : DataW H := .agg [.lit (.bool true), .lit (.bool false)]
def laid_freehold_space_dirty {H : Type} : DataW H := .agg [.lit (.bool true), .lit (.bool true)]

/-- 'freeholdlaw12.GuardFresh': WHATEVER THE INPUT: true; the input reads as it did. -/
def guardFreshSpec : ChangeSpec := { name := "guardFresh", fn := fun _ => fun
  | [d1, d2, d3, d4, d5, d6, d7] => { results := [.lit (.bool true)], args := [d1, d2, d3, d4, d5, d6, d7] }
  | _ => none }
def guardFreshRow : OpenClaim := { program := "yteihenagckcobaagreatdoor", sum := "fb0238742fb3ff17da185dbb402d57956fc4c20fe04248e5b4dea944ce88cc6c", func := "freehold/freeholdlaw12.GuardFresh", spec := "guardFresh", inPlace := ["slices.overlaps[freehold/central.entry]"], unfollowed := true, recurses := true, named := ["freehold/space.clean", "freehold/space.unmapped", "freehold/space.dirty"], apart := false, laid := [("freehold/space.unmapped", laid_freehold_space_unmapped), ("freehold/space.clean", laid_freehold_space_clean), ("freehold/space.dirty", laid_freehold_space_dirty)] }
def GuardFreshSaid : Prop := guardFreshRow.holds Tryz.pinned (OpenSpec.ofChange guardFreshSpec)

/-- ITS FALSE NEIGHBOUR: 'it returns false'. Refute it at one input. -/
def guardFreshWrong : ChangeSpec := { name := "guardFresh", fn := fun _ => fun
  | [d1, d2, d3, d4, d5, d6, d7] => { results := [.lit (.bool false)], args := [d1, d2, d3, d4, d5, d6, d7] }
  | _ => none }
def GuardFreshWrongFalsely : Prop := guardFreshRow.holds Tryz.pinned (OpenSpec.ofChange guardFreshWrong)

/-- 'freeholdlaw12.GuardInside': WHATEVER THE INPUT: true; the input reads as it did. -/
def guardInsideSpec : ChangeSpec := { name := "guardInside", fn := fun _ => fun
  | [d1, d2] => { results := [.lit (.bool true)], args := [d1, d2] }
  | _ => none }
def guardInsideRow : OpenClaim := { program := "yteihenagckcobaagreatdoor", sum := "fb0238742fb3ff17da185dbb402d57956fc4c20fe04248e5b4dea944ce88cc6c", func := "freehold/freeholdlaw12.GuardInside", spec := "guardInside", inPlace := ["slices.overlaps[freehold/central.entry]"], unfollowed := true, recurses := true, named := ["freehold/space.clean", "freehold/space.unmapped", "freehold/space.dirty"], apart := false, laid := [("freehold/space.unmapped", laid_freehold_space_unmapped), ("freehold/space.clean", laid_freehold_space_clean), ("freehold/space.dirty", laid_freehold_space_dirty)] }
def GuardInsideSaid : Prop := guardInsideRow.holds Tryz.pinned (OpenSpec.ofChange guardInsideSpec)

/-- ITS FALSE NEIGHBOUR: 'it returns false'. Refute it at one input. -/
def guardInsideWrong : ChangeSpec := { name := "guardInside", fn := fun _ => fun
  | [d1, d2] => { results := [.lit (.bool false)], args := [d1, d2] }
  | _ => none }
def GuardInsideWrongFalsely : Prop := guardInsideRow.holds Tryz.pinned (OpenSpec.ofChange guardInsideWrong)

/-- 'freeholdlaw12.GuardFinds': WHATEVER THE INPUT: true; the input reads as it did. -/
def guardFindsSpec : ChangeSpec := { name := "guardFinds", fn := fun _ => fun
  | [d1, d2, d3, d4] => { results := [.lit (.bool true)], args := [d1, d2, d3, d4] }
  | _ => none }
def guardFindsRow : OpenClaim := { program := "yteihenagckcobaagreatdoor", sum := "fb0238742fb3ff17da185dbb402d57956fc4c20fe04248e5b4dea944ce88cc6c", func := "freehold/freeholdlaw12.GuardFinds", spec := "guardFinds", inPlace := ["slices.overlaps[freehold/central.entry]"], unfollowed := true, recurses := true, named := ["freehold/space.clean", "freehold/space.unmapped", "freehold/space.dirty"], apart := false, laid := [("freehold/space.unmapped", laid_freehold_space_unmapped), ("freehold/space.clean", laid_freehold_space_clean), ("freehold/space.dirty", laid_freehold_space_dirty)] }
def GuardFindsSaid : Prop := guardFindsRow.holds Tryz.pinned (OpenSpec.ofChange guardFindsSpec)

/-- ITS FALSE NEIGHBOUR: 'it returns false'. Refute it at one input. -/
def guardFindsWrong : ChangeSpec := { name := "guardFinds", fn := fun _ => fun
  | [d1, d2, d3, d4] => { results := [.lit (.bool false)], args := [d1, d2, d3, d4] }
  | _ => none }
def GuardFindsWrongFalsely : Prop := guardFindsRow.holds Tryz.pinned (OpenSpec.ofChange guardFindsWrong)

/-- 'freeholdlaw12.GuardApart': WHATEVER THE INPUT: true; the input reads as it did. -/
def guardApartSpec : ChangeSpec := { name := "guardApart", fn := fun _ => fun
  | [d1, d2] => { results := [.lit (.bool true)], args := [d1, d2] }
  | _ => none }
def guardApartRow : OpenClaim := { program := "yteihenagckcobaagreatdoor", sum := "fb0238742fb3ff17da185dbb402d57956fc4c20fe04248e5b4dea944ce88cc6c", func := "freehold/freeholdlaw12.GuardApart", spec := "guardApart", inPlace := ["slices.overlaps[freehold/central.entry]"], unfollowed := true, recurses := true, named := ["freehold/space.clean", "freehold/space.unmapped", "freehold/space.dirty"], apart := false, laid := [("freehold/space.unmapped", laid_freehold_space_unmapped), ("freehold/space.clean", laid_freehold_space_clean), ("freehold/space.dirty", laid_freehold_space_dirty)] }
def GuardApartSaid : Prop := guardApartRow.holds Tryz.pinned (OpenSpec.ofChange guardApartSpec)

/-- ITS FALSE NEIGHBOUR: 'it returns false'. Refute it at one input. -/
def guardApartWrong : ChangeSpec := { name := "guardApart", fn := fun _ => fun
  | [d1, d2] => { results := [.lit (.bool false)], args := [d1, d2] }
  | _ => none }
def GuardApartWrongFalsely : Prop := guardApartRow.holds Tryz.pinned (OpenSpec.ofChange guardApartWrong)

/-- 'freeholdlaw12.GuardCaught': WHATEVER THE INPUT: true; the input reads as it did. -/
def guardCaughtSpec : ChangeSpec := { name := "guardCaught", fn := fun _ => fun
  | [d1, d2, d3, d4, d5] => { results := [.lit (.bool true)], args := [d1, d2, d3, d4, d5] }
  | _ => none }
def guardCaughtRow : OpenClaim := { program := "yteihenagckcobaagreatdoor", sum := "fb0238742fb3ff17da185dbb402d57956fc4c20fe04248e5b4dea944ce88cc6c", func := "freehold/freeholdlaw12.GuardCaught", spec := "guardCaught", inPlace := ["slices.overlaps[freehold/central.entry]"], unfollowed := true, recurses := true, named := ["freehold/space.clean", "freehold/space.unmapped", "freehold/space.dirty"], apart := false, laid := [("freehold/space.unmapped", laid_freehold_space_unmapped), ("freehold/space.clean", laid_freehold_space_clean), ("freehold/space.dirty", laid_freehold_space_dirty)] }
def GuardCaughtSaid : Prop := guardCaughtRow.holds Tryz.pinned (OpenSpec.ofChange guardCaughtSpec)

/-- ITS FALSE NEIGHBOUR: 'it returns false'. Refute it at one input. -/
def guardCaughtWrong : ChangeSpec := { name := "guardCaught", fn := fun _ => fun
  | [d1, d2, d3, d4, d5] => { results := [.lit (.bool false)], args := [d1, d2, d3, d4, d5] }
  | _ => none }
def GuardCaughtWrongFalsely : Prop := guardCaughtRow.holds Tryz.pinned (OpenSpec.ofChange guardCaughtWrong)

/-- 'freeholdlaw12.GuardFrees': WHATEVER THE INPUT: true; the input reads as it did. -/
def guardFreesSpec : ChangeSpec := { name := "guardFrees", fn := fun _ => fun
  | [d1, d2, d3] => { results := [.lit (.bool true)], args := [d1, d2, d3] }
  | _ => none }
def guardFreesRow : OpenClaim := { program := "yteihenagckcobaagreatdoor", sum := "fb0238742fb3ff17da185dbb402d57956fc4c20fe04248e5b4dea944ce88cc6c", func := "freehold/freeholdlaw12.GuardFrees", spec := "guardFrees", inPlace := ["slices.overlaps[freehold/central.entry]"], unfollowed := true, recurses := true, named := ["freehold/space.clean", "freehold/space.unmapped", "freehold/space.dirty"], apart := false, laid := [("freehold/space.unmapped", laid_freehold_space_unmapped), ("freehold/space.clean", laid_freehold_space_clean), ("freehold/space.dirty", laid_freehold_space_dirty)] }
def GuardFreesSaid : Prop := guardFreesRow.holds Tryz.pinned (OpenSpec.ofChange guardFreesSpec)

/-- ITS FALSE NEIGHBOUR: 'it returns false'. Refute it at one input. -/
def guardFreesWrong : ChangeSpec := { name := "guardFrees", fn := fun _ => fun
  | [d1, d2, d3] => { results := [.lit (.bool false)], args := [d1, d2, d3] }
  | _ => none }
def GuardFreesWrongFalsely : Prop := guardFreesRow.holds Tryz.pinned (OpenSpec.ofChange guardFreesWrong)

/-- 'freeholdlaw12.GuardNone': WHATEVER THE INPUT: true; the input reads as it did. -/
def guardNoneSpec : ChangeSpec := { name := "guardNone", fn := fun _ => fun
  | [d1, d2, d3, d4] => { results := [.lit (.bool true)], args := [d1, d2, d3, d4] }
  | _ => none }
def guardNoneRow : OpenClaim := { program := "yteihenagckcobaagreatdoor", sum := "fb0238742fb3ff17da185dbb402d57956fc4c20fe04248e5b4dea944ce88cc6c", func := "freehold/freeholdlaw12.GuardNone", spec := "guardNone", inPlace := ["slices.overlaps[freehold/central.entry]", "maps.clone"], unfollowed := true, recurses := true, named := ["freehold/space.clean", "freehold/space.unmapped", "freehold/space.dirty"], apart := false, laid := [("freehold/space.unmapped", laid_freehold_space_unmapped), ("freehold/space.clean", laid_freehold_space_clean), ("freehold/space.dirty", laid_freehold_space_dirty)] }
def GuardNoneSaid : Prop := guardNoneRow.holds Tryz.pinned (OpenSpec.ofChange guardNoneSpec)

/-- ITS FALSE NEIGHBOUR: 'it returns false'. Refute it at one input. -/
def guardNoneWrong : ChangeSpec := { name := "guardNone", fn := fun _ => fun
  | [d1, d2, d3, d4] => { results := [.lit (.bool false)], args := [d1, d2, d3, d4] }
  | _ => none }
def GuardNoneWrongFalsely : Prop := guardNoneRow.holds Tryz.pinned (OpenSpec.ofChange guardNoneWrong)

/-- 'freeholdlaw12.GuardRefuses': WHATEVER THE INPUT: true; the input reads as it did. -/
def guardRefusesSpec : ChangeSpec := { name := "guardRefuses", fn := fun _ => fun
  | [d1, d2, d3] => { results := [.lit (.bool true)], args := [d1, d2, d3] }
  | _ => none }
def guardRefusesRow : OpenClaim := { program := "yteihenagckcobaagreatdoor", sum := "fb0238742fb3ff17da185dbb402d57956fc4c20fe04248e5b4dea944ce88cc6c", func := "freehold/freeholdlaw12.GuardRefuses", spec := "guardRefuses", inPlace := ["slices.overlaps[freehold/central.entry]"], unfollowed := true, recurses := true, named := ["freehold/space.clean", "freehold/space.unmapped", "freehold/space.dirty"], apart := false, laid := [("freehold/space.unmapped", laid_freehold_space_unmapped), ("freehold/space.clean", laid_freehold_space_clean), ("freehold/space.dirty", laid_freehold_space_dirty)] }
def GuardRefusesSaid : Prop := guardRefusesRow.holds Tryz.pinned (OpenSpec.ofChange guardRefusesSpec)

/-- ITS FALSE NEIGHBOUR: 'it returns false'. Refute it at one input. -/
def guardRefusesWrong : ChangeSpec := { name := "guardRefuses", fn := fun _ => fun
  | [d1, d2, d3] => { results := [.lit (.bool false)], args := [d1, d2, d3] }
  | _ => none }
def GuardRefusesWrongFalsely : Prop := guardRefusesRow.holds Tryz.pinned (OpenSpec.ofChange guardRefusesWrong)

/- THE SECOND FORM. 'bulk': how many values and letters a reading holds, each counted each time it is reached (what is shared counts as often as it is met; a slice's spare places count too). A statement '..UptoSaid' is the law's where the arguments, and the package variables that the reading takes, are together of bulk at most 1048576: NARROWER than '..Said'. Prove '..Said' where nothing that the law and all that it calls make is longer than what came in: it says more and counts as full. Else prove '..UptoSaid'. A law counts once. -/
mutual
def uptoBulk {H : Type} : DataW H → Nat
  | .lit (.string bytes) => bytes.length + 1
  | .lit _ => 1
  | .nil => 1
  | .ptr d => uptoBulk d + 1
  | .slice elems spare => uptoBulkAll elems + uptoBulkAll spare + 1
  | .agg parts => uptoBulkAll parts + 1
  | .iface _ d => uptoBulk d + 1
  | .map entries => uptoBulkEntries entries + 1
  | .held _ => 1
def uptoBulkAll {H : Type} : List (DataW H) → Nat
  | [] => 0
  | d :: r => uptoBulk d + uptoBulkAll r
def uptoBulkEntries {H : Type} : List (Lit × DataW H) → Nat
  | [] => 0
  | x :: r => uptoBulkEntry x + uptoBulkEntries r
def uptoBulkEntry {H : Type} : Lit × DataW H → Nat
  | (.string bytes, d) => bytes.length + uptoBulk d + 1
  | (_, d) => uptoBulk d + 1
 end
def uptoSmall : (H : Type) → List (DataW H) → Bool := fun _ ds => decide (uptoBulkAll ds ≤ 1048576)
def OpenSpec.upto (s : _root_.Go.ChangeSpec) : _root_.Go.OpenSpec := { _root_.Go.OpenSpec.ofChange s with cond := some uptoSmall }

/-- 'freeholdlaw12.GuardFresh', WHERE WHAT IT READS IS OF BULK AT MOST 1048576: true; the input reads as it did. -/
def guardFreshUptoRow : OpenClaim := { program := "yteihenagckcobaagreatdoor", sum := "fb0238742fb3ff17da185dbb402d57956fc4c20fe04248e5b4dea944ce88cc6c", func := "freehold/freeholdlaw12.GuardFresh", spec := "guardFresh", inPlace := ["slices.overlaps[freehold/central.entry]"], unfollowed := true, recurses := true, named := ["freehold/space.clean", "freehold/space.unmapped", "freehold/space.dirty"], apart := false, laid := [("freehold/space.unmapped", laid_freehold_space_unmapped), ("freehold/space.clean", laid_freehold_space_clean), ("freehold/space.dirty", laid_freehold_space_dirty)], narrowed := true }
def GuardFreshUptoSaid : Prop := guardFreshUptoRow.holds Tryz.pinned (OpenSpec.upto guardFreshSpec)

/-- 'freeholdlaw12.GuardInside', WHERE WHAT IT READS IS OF BULK AT MOST 1048576: true; the input reads as it did. -/
def guardInsideUptoRow : OpenClaim := { program := "yteihenagckcobaagreatdoor", sum := "fb0238742fb3ff17da185dbb402d57956fc4c20fe04248e5b4dea944ce88cc6c", func := "freehold/freeholdlaw12.GuardInside", spec := "guardInside", inPlace := ["slices.overlaps[freehold/central.entry]"], unfollowed := true, recurses := true, named := ["freehold/space.clean", "freehold/space.unmapped", "freehold/space.dirty"], apart := false, laid := [("freehold/space.unmapped", laid_freehold_space_unmapped), ("freehold/space.clean", laid_freehold_space_clean), ("freehold/space.dirty", laid_freehold_space_dirty)], narrowed := true }
def GuardInsideUptoSaid : Prop := guardInsideUptoRow.holds Tryz.pinned (OpenSpec.upto guardInsideSpec)

/-- 'freeholdlaw12.GuardFinds', WHERE WHAT IT READS IS OF BULK AT MOST 1048576: true; the input reads as it did. -/
def guardFindsUptoRow : OpenClaim := { program := "yteihenagckcobaagreatdoor", sum := "fb0238742fb3ff17da185dbb402d57956fc4c20fe04248e5b4dea944ce88cc6c", func := "freehold/freeholdlaw12.GuardFinds", spec := "guardFinds", inPlace := ["slices.overlaps[freehold/central.entry]"], unfollowed := true, recurses := true, named := ["freehold/space.clean", "freehold/space.unmapped", "freehold/space.dirty"], apart := false, laid := [("freehold/space.unmapped", laid_freehold_space_unmapped), ("freehold/space.clean", laid_freehold_space_clean), ("freehold/space.dirty", laid_freehold_space_dirty)], narrowed := true }
def GuardFindsUptoSaid : Prop := guardFindsUptoRow.holds Tryz.pinned (OpenSpec.upto guardFindsSpec)

/-- 'freeholdlaw12.GuardApart', WHERE WHAT IT READS IS OF BULK AT MOST 1048576: true; the input reads as it did. -/
def guardApartUptoRow : OpenClaim := { program := "yteihenagckcobaagreatdoor", sum := "fb0238742fb3ff17da185dbb402d57956fc4c20fe04248e5b4dea944ce88cc6c", func := "freehold/freeholdlaw12.GuardApart", spec := "guardApart", inPlace := ["slices.overlaps[freehold/central.entry]"], unfollowed := true, recurses := true, named := ["freehold/space.clean", "freehold/space.unmapped", "freehold/space.dirty"], apart := false, laid := [("freehold/space.unmapped", laid_freehold_space_unmapped), ("freehold/space.clean", laid_freehold_space_clean), ("freehold/space.dirty", laid_freehold_space_dirty)], narrowed := true }
def GuardApartUptoSaid : Prop := guardApartUptoRow.holds Tryz.pinned (OpenSpec.upto guardApartSpec)

/-- 'freeholdlaw12.GuardCaught', WHERE WHAT IT READS IS OF BULK AT MOST 1048576: true; the input reads as it did. -/
def guardCaughtUptoRow : OpenClaim := { program := "yteihenagckcobaagreatdoor", sum := "fb0238742fb3ff17da185dbb402d57956fc4c20fe04248e5b4dea944ce88cc6c", func := "freehold/freeholdlaw12.GuardCaught", spec := "guardCaught", inPlace := ["slices.overlaps[freehold/central.entry]"], unfollowed := true, recurses := true, named := ["freehold/space.clean", "freehold/space.unmapped", "freehold/space.dirty"], apart := false, laid := [("freehold/space.unmapped", laid_freehold_space_unmapped), ("freehold/space.clean", laid_freehold_space_clean), ("freehold/space.dirty", laid_freehold_space_dirty)], narrowed := true }
def GuardCaughtUptoSaid : Prop := guardCaughtUptoRow.holds Tryz.pinned (OpenSpec.upto guardCaughtSpec)

/-- 'freeholdlaw12.GuardFrees', WHERE WHAT IT READS IS OF BULK AT MOST 1048576: true; the input reads as it did. -/
def guardFreesUptoRow : OpenClaim := { program := "yteihenagckcobaagreatdoor", sum := "fb0238742fb3ff17da185dbb402d57956fc4c20fe04248e5b4dea944ce88cc6c", func := "freehold/freeholdlaw12.GuardFrees", spec := "guardFrees", inPlace := ["slices.overlaps[freehold/central.entry]"], unfollowed := true, recurses := true, named := ["freehold/space.clean", "freehold/space.unmapped", "freehold/space.dirty"], apart := false, laid := [("freehold/space.unmapped", laid_freehold_space_unmapped), ("freehold/space.clean", laid_freehold_space_clean), ("freehold/space.dirty", laid_freehold_space_dirty)], narrowed := true }
def GuardFreesUptoSaid : Prop := guardFreesUptoRow.holds Tryz.pinned (OpenSpec.upto guardFreesSpec)

/-- 'freeholdlaw12.GuardNone', WHERE WHAT IT READS IS OF BULK AT MOST 1048576: true; the input reads as it did. -/
def guardNoneUptoRow : OpenClaim := { program := "yteihenagckcobaagreatdoor", sum := "fb0238742fb3ff17da185dbb402d57956fc4c20fe04248e5b4dea944ce88cc6c", func := "freehold/freeholdlaw12.GuardNone", spec := "guardNone", inPlace := ["slices.overlaps[freehold/central.entry]", "maps.clone"], unfollowed := true, recurses := true, named := ["freehold/space.clean", "freehold/space.unmapped", "freehold/space.dirty"], apart := false, laid := [("freehold/space.unmapped", laid_freehold_space_unmapped), ("freehold/space.clean", laid_freehold_space_clean), ("freehold/space.dirty", laid_freehold_space_dirty)], narrowed := true }
def GuardNoneUptoSaid : Prop := guardNoneUptoRow.holds Tryz.pinned (OpenSpec.upto guardNoneSpec)

/-- 'freeholdlaw12.GuardRefuses', WHERE WHAT IT READS IS OF BULK AT MOST 1048576: true; the input reads as it did. -/
def guardRefusesUptoRow : OpenClaim := { program := "yteihenagckcobaagreatdoor", sum := "fb0238742fb3ff17da185dbb402d57956fc4c20fe04248e5b4dea944ce88cc6c", func := "freehold/freeholdlaw12.GuardRefuses", spec := "guardRefuses", inPlace := ["slices.overlaps[freehold/central.entry]"], unfollowed := true, recurses := true, named := ["freehold/space.clean", "freehold/space.unmapped", "freehold/space.dirty"], apart := false, laid := [("freehold/space.unmapped", laid_freehold_space_unmapped), ("freehold/space.clean", laid_freehold_space_clean), ("freehold/space.dirty", laid_freehold_space_dirty)], narrowed := true }
def GuardRefusesUptoSaid : Prop := guardRefusesUptoRow.holds Tryz.pinned (OpenSpec.upto guardRefusesSpec)

end Rows
end Go.Proofs.YteihenagckcobaaGreatDoor
