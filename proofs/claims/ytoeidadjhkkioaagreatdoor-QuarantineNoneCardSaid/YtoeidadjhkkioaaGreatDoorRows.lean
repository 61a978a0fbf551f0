/-
  NARROWER THAN 'FOR EVERY INPUT', by the rows' own cells (each row's printed sentence says how): QuarantineOrder: laid · QuarantineKept: laid · QuarantineLimits: laid · QuarantineUsed: laid · QuarantineClean: laid · QuarantineAll: laid · QuarantineNone: laid · QuarantineClones: laid · QuarantineRefuses: laid · GuardClones: laid.
  DERIVED. THE GIVEN ROWS OF THIS SEAT. 10 by the template 'for every input the law returns true; each argument reads behind the call as it read before'; 0 by the template 'total and deterministic' (their statements: YtoeidadjhkkioaaGreatDoorTotals.lean).
  GIVEN WITH THE SEED: the statements are not yours to turn. If you find one false, say at which input.
  Laid BY PROGRAM, IN A SANDBOX (cutbox-rows.mjs): the forced cells as the released guide's own fill.sh prints them over the translation 7bc65eaae5999218… (all of the seat's roots in one cut). By AI agents, Wed Nov 11 2026. No macro, syntax, notation, axiom, sorry.
-/
import Derived.Test.YtoeidadjhkkioaaGreatDoorChecked
import GoSem.Claim
import GoSem.ClaimJoined
import GoSem.ClaimMapViews
import Derived.JoinedTies
import Derived.KernelRfl
namespace Go.Proofs.YtoeidadjhkkioaaGreatDoor
/- THE CELL 'sum', in the pinned program and in every row, IS THE sha256 OF THE DUMP (.gsa) THAT YtoeidadjhkkioaaGreatDoorProg.lean LOADS. Nothing in Lean hashes anything: it is a label: what it is worth is what the hold of that sum in a sandbox is worth. -/
noncomputable def Tryz.pinned : Pinned := { name := "ytoeidadjhkkioaagreatdoor", sum := "7bc65eaae5999218c99cb9ce9e4e8af0528470189df5d5f8be68104e5bfc87df", checked := Tryz.checked }
namespace Rows
def none {H : Type} : Left H := { results := [], args := [] }

/- WHAT THE LISTED PACKAGE-LEVEL VARIABLES READ AS WHEN THE CALL BEGINS. Each datum BY PROGRAM (the guide's laid-datum.mjs) off the statement by which the dump's own 'gosem.cut.vars' lays the variable. In a bare row this is a premise. The card (YtoeidadjhkkioaaGreatDoorCards.lean) ties it to the program's text. -/
def laid_freehold_space_unmapped {H : Type} : DataW H := .agg [.lit (.bool false), .lit (.bool false)]
def laid_freehold_space_clean {H : Type} : DataW H := .agg [.lit (.bool true), .lit (.bool false)]
def laid_freehold_space_dirty {H : Type} : DataW H := .agg [.lit (.bool true), .lit (.bool true)]

/-- 'freeholdlaw13.QuarantineOrder': WHATEVER THE INPUT: true; the input reads as it did. -/
def quarantineOrderSpec : ChangeSpec := { name := "quarantineOrder", fn := fun _ => fun
  | [d1, d2, d3, d4] => { results := [.lit (.bool true)], args := [d1, d2, d3, d4] }
  | _ => none }
def quarantineOrderRow : OpenClaim := { program := "ytoeidadjhkkioaagreatdoor", sum := "7bc65eaae5999218c99cb9ce9e4e8af0528470189df5d5f8be68104e5bfc87df", func := "freehold/freeholdlaw13.QuarantineOrder", spec := "quarantineOrder", inPlace := ["slices.overlaps[freehold/central.entry]"], unfollowed := true, recurses := true, named := ["freehold/space.clean", "freehold/space.unmapped", "freehold/space.dirty"], apart := false, laid := [("freehold/space.unmapped", laid_freehold_space_unmapped), ("freehold/space.clean", laid_freehold_space_clean), ("freehold/space.dirty", laid_freehold_space_dirty)] }
def QuarantineOrderSaid : Prop := quarantineOrderRow.holds Tryz.pinned (OpenSpec.ofChange quarantineOrderSpec)

/-- ITS FALSE NEIGHBOUR: 'it returns false'. Refute it at one input. -/
def quarantineOrderWrong : ChangeSpec := { name := "quarantineOrder", fn := fun _ => fun
  | [d1, d2, d3, d4] => { results := [.lit (.bool false)], args := [d1, d2, d3, d4] }
  | _ => none }
def QuarantineOrderWrongFalsely : Prop := quarantineOrderRow.holds Tryz.pinned (OpenSpec.ofChange quarantineOrderWrong)

/-- 'freeholdlaw13.QuarantineKept': WHATEVER THE INPUT: true; the input reads as it did. -/
def quarantineKeptSpec : ChangeSpec := { name := "quarantineKept", fn := fun _ => fun
  | [d1, d2, d3, d4, d5] => { results := [.lit (.bool true)], args := [d1, d2, d3, d4, d5] }
  | _ => none }
def quarantineKeptRow : OpenClaim := { program := "ytoeidadjhkkioaagreatdoor", sum := "7bc65eaae5999218c99cb9ce9e4e8af0528470189df5d5f8be68104e5bfc87df", func := "freehold/freeholdlaw13.QuarantineKept", spec := "quarantineKept", inPlace := ["slices.overlaps[freehold/central.entry]"], unfollowed := true, recurses := true, named := ["freehold/space.clean", "freehold/space.unmapped", "freehold/space.dirty"], apart := false, laid := [("freehold/space.unmapped", laid_freehold_space_unmapped), ("freehold/space.clean", laid_freehold_space_clean), ("freehold/space.dirty", laid_freehold_space_dirty)] }
def QuarantineKeptSaid : Prop := quarantineKeptRow.holds Tryz.pinned (OpenSpec.ofChange quarantineKeptSpec)

/-- ITS FALSE NEIGHBOUR: 'it returns false'. Refute it at one input. -/
def quarantineKeptWrong : ChangeSpec := { name := "quarantineKept", fn := fun _ => fun
  | [d1, d2, d3, d4, d5] => { results := [.lit (.bool false)], args := [d1, d2, d3, d4, d5] }
  | _ => none }
def QuarantineKeptWrongFalsely : Prop := quarantineKeptRow.holds Tryz.pinned (OpenSpec.ofChange quarantineKeptWrong)

/-- 'freeholdlaw13.QuarantineLimits': WHATEVER THE INPUT: true; the input reads as it did. -/
def quarantineLimitsSpec : ChangeSpec := { name := "quarantineLimits", fn := fun _ => fun
  | [d1, d2, d3, d4] => { results := [.lit (.bool true)], args := [d1, d2, d3, d4] }
  | _ => none }
def quarantineLimitsRow : OpenClaim := { program := "ytoeidadjhkkioaagreatdoor", sum := "7bc65eaae5999218c99cb9ce9e4e8af0528470189df5d5f8be68104e5bfc87df", func := "freehold/freeholdlaw13.QuarantineLimits", spec := "quarantineLimits", inPlace := ["slices.overlaps[freehold/central.entry]"], unfollowed := true, recurses := true, named := ["freehold/space.clean", "freehold/space.unmapped", "freehold/space.dirty"], apart := false, laid := [("freehold/space.unmapped", laid_freehold_space_unmapped), ("freehold/space.clean", laid_freehold_space_clean), ("freehold/space.dirty", laid_freehold_space_dirty)] }
def QuarantineLimitsSaid : Prop := quarantineLimitsRow.holds Tryz.pinned (OpenSpec.ofChange quarantineLimitsSpec)

/-- ITS FALSE NEIGHBOUR: 'it returns false'. Refute it at one input. -/
def quarantineLimitsWrong : ChangeSpec := { name := "quarantineLimits", fn := fun _ => fun
  | [d1, d2, d3, d4] => { results := [.lit (.bool false)], args := [d1, d2, d3, d4] }
  | _ => none }
def QuarantineLimitsWrongFalsely : Prop := quarantineLimitsRow.holds Tryz.pinned (OpenSpec.ofChange quarantineLimitsWrong)

/-- 'freeholdlaw13.QuarantineUsed': WHATEVER THE INPUT: true; the input reads as it did. -/
def quarantineUsedSpec : ChangeSpec := { name := "quarantineUsed", fn := fun _ => fun
  | [d1, d2, d3, d4, d5, d6, d7] => { results := [.lit (.bool true)], args := [d1, d2, d3, d4, d5, d6, d7] }
  | _ => none }
def quarantineUsedRow : OpenClaim := { program := "ytoeidadjhkkioaagreatdoor", sum := "7bc65eaae5999218c99cb9ce9e4e8af0528470189df5d5f8be68104e5bfc87df", func := "freehold/freeholdlaw13.QuarantineUsed", spec := "quarantineUsed", inPlace := ["slices.overlaps[freehold/central.entry]"], unfollowed := true, recurses := true, named := ["freehold/space.clean", "freehold/space.unmapped", "freehold/space.dirty"], apart := false, laid := [("freehold/space.unmapped", laid_freehold_space_unmapped), ("freehold/space.clean", laid_freehold_space_clean), ("freehold/space.dirty", laid_freehold_space_dirty)] }
def QuarantineUsedSaid : Prop := quarantineUsedRow.holds Tryz.pinned (OpenSpec.ofChange quarantineUsedSpec)

/-- ITS FALSE NEIGHBOUR: 'it returns false'. Refute it at one input. -/
def quarantineUsedWrong : ChangeSpec := { name := "quarantineUsed", fn := fun _ => fun
  | [d1, d2, d3, d4, d5, d6, d7] => { results := [.lit (.bool false)], args := [d1, d2, d3, d4, d5, d6, d7] }
  | _ => none }
def QuarantineUsedWrongFalsely : Prop := quarantineUsedRow.holds Tryz.pinned (OpenSpec.ofChange quarantineUsedWrong)

/-- 'freeholdlaw13.QuarantineClean': WHATEVER THE INPUT: true; the input reads as it did. -/
def quarantineCleanSpec : ChangeSpec := { name := "quarantineClean", fn := fun _ => fun
  | [d1, d2, d3, d4] => { results := [.lit (.bool true)], args := [d1, d2, d3, d4] }
  | _ => none }
def quarantineCleanRow : OpenClaim := { program := "ytoeidadjhkkioaagreatdoor", sum := "7bc65eaae5999218c99cb9ce9e4e8af0528470189df5d5f8be68104e5bfc87df", func := "freehold/freeholdlaw13.QuarantineClean", spec := "quarantineClean", inPlace := ["slices.overlaps[freehold/central.entry]"], unfollowed := true, recurses := true, named := ["freehold/space.clean", "freehold/space.unmapped", "freehold/space.dirty"], apart := false, laid := [("freehold/space.unmapped", laid_freehold_space_unmapped), ("freehold/space.clean", laid_freehold_space_clean), ("freehold/space.dirty", laid_freehold_space_dirty)] }
def QuarantineCleanSaid : Prop := quarantineCleanRow.holds Tryz.pinned (OpenSpec.ofChange quarantineCleanSpec)

/-- ITS FALSE NEIGHBOUR: 'it returns false'. Refute it at one input. -/
def quarantineCleanWrong : ChangeSpec := { name := "quarantineClean", fn := fun _ => fun
  | [d1, d2, d3, d4] => { results := [.lit (.bool false)], args := [d1, d2, d3, d4] }
  | _ => none }
def QuarantineCleanWrongFalsely : Prop := quarantineCleanRow.holds Tryz.pinned (OpenSpec.ofChange quarantineCleanWrong)

/-- 'freeholdlaw13.QuarantineAll': WHATEVER THE INPUT: true; the input reads as it did. -/
def quarantineAllSpec : ChangeSpec := { name := "quarantineAll", fn := fun _ => fun
  | [d1, d2, d3, d4] => { results := [.lit (.bool true)], args := [d1, d2, d3, d4] }
  | _ => none }
def quarantineAllRow : OpenClaim := { program := "ytoeidadjhkkioaagreatdoor", sum := "7bc65eaae5999218c99cb9ce9e4e8af0528470189df5d5f8be68104e5bfc87df", func := "freehold/freeholdlaw13.QuarantineAll", spec := "quarantineAll", inPlace := ["slices.overlaps[freehold/central.entry]"], unfollowed := true, recurses := true, named := ["freehold/space.clean", "freehold/space.unmapped", "freehold/space.dirty"], apart := false, laid := [("freehold/space.unmapped", laid_freehold_space_unmapped), ("freehold/space.clean", laid_freehold_space_clean), ("freehold/space.dirty", laid_freehold_space_dirty)] }
def QuarantineAllSaid : Prop := quarantineAllRow.holds Tryz.pinned (OpenSpec.ofChange quarantineAllSpec)

/-- ITS FALSE NEIGHBOUR: 'it returns false'. Refute it at one input. -/
def quarantineAllWrong : ChangeSpec := { name := "quarantineAll", fn := fun _ => fun
  | [d1, d2, d3, d4] => { results := [.lit (.bool false)], args := [d1, d2, d3, d4] }
  | _ => none }
def QuarantineAllWrongFalsely : Prop := quarantineAllRow.holds Tryz.pinned (OpenSpec.ofChange quarantineAllWrong)

/-- 'freeholdlaw13.QuarantineNone': WHATEVER THE INPUT: true; the input reads as it did. -/
def quarantineNoneSpec : ChangeSpec := { name := "quarantineNone", fn := fun _ => fun
  | [d1, d2, d3, d4] => { results := [.lit (.bool true)], args := [d1, d2, d3, d4] }
  | _ => none }
def quarantineNoneRow : OpenClaim := { program := "ytoeidadjhkkioaagreatdoor", sum := "7bc65eaae5999218c99cb9ce9e4e8af0528470189df5d5f8be68104e5bfc87df", func := "freehold/freeholdlaw13.QuarantineNone", spec := "quarantineNone", inPlace := ["slices.overlaps[freehold/central.entry]", "maps.clone"], unfollowed := true, recurses := true, named := ["freehold/space.clean", "freehold/space.unmapped", "freehold/space.dirty"], apart := false, laid := [("freehold/space.unmapped", laid_freehold_space_unmapped), ("freehold/space.clean", laid_freehold_space_clean), ("freehold/space.dirty", laid_freehold_space_dirty)] }
def QuarantineNoneSaid : Prop := quarantineNoneRow.holds Tryz.pinned (OpenSpec.ofChange quarantineNoneSpec)

/-- ITS FALSE NEIGHBOUR: 'it returns false'. Refute it at one input. -/
def quarantineNoneWrong : ChangeSpec := { name := "quarantineNone", fn := fun _ => fun
  | [d1, d2, d3, d4] => { results := [.lit (.bool false)], args := [d1, d2, d3, d4] }
  | _ => none }
def QuarantineNoneWrongFalsely : Prop := quarantineNoneRow.holds Tryz.pinned (OpenSpec.ofChange quarantineNoneWrong)

/-- 'freeholdlaw13.QuarantineClones': WHATEVER THE INPUT: true; the input reads as it did. -/
def quarantineClonesSpec : ChangeSpec := { name := "quarantineClones", fn := fun _ => fun
  | [d1, d2, d3, d4, d5, d6] => { results := [.lit (.bool true)], args := [d1, d2, d3, d4, d5, d6] }
  | _ => none }
def quarantineClonesRow : OpenClaim := { program := "ytoeidadjhkkioaagreatdoor", sum := "7bc65eaae5999218c99cb9ce9e4e8af0528470189df5d5f8be68104e5bfc87df", func := "freehold/freeholdlaw13.QuarantineClones", spec := "quarantineClones", inPlace := ["slices.overlaps[freehold/central.entry]", "maps.clone"], unfollowed := true, recurses := true, named := ["freehold/space.clean", "freehold/space.unmapped", "freehold/space.dirty"], apart := false, laid := [("freehold/space.unmapped", laid_freehold_space_unmapped), ("freehold/space.clean", laid_freehold_space_clean), ("freehold/space.dirty", laid_freehold_space_dirty)] }
def QuarantineClonesSaid : Prop := quarantineClonesRow.holds Tryz.pinned (OpenSpec.ofChange quarantineClonesSpec)

/-- ITS FALSE NEIGHBOUR: 'it returns false'. Refute it at one input. -/
def quarantineClonesWrong : ChangeSpec := { name := "quarantineClones", fn := fun _ => fun
  | [d1, d2, d3, d4, d5, d6] => { results := [.lit (.bool false)], args := [d1, d2, d3, d4, d5, d6] }
  | _ => none }
def QuarantineClonesWrongFalsely : Prop := quarantineClonesRow.holds Tryz.pinned (OpenSpec.ofChange quarantineClonesWrong)

/-- 'freeholdlaw13.QuarantineRefuses': WHATEVER THE INPUT: true; the input reads as it did. -/
def quarantineRefusesSpec : ChangeSpec := { name := "quarantineRefuses", fn := fun _ => fun
  | [d1, d2, d3, d4, d5] => { results := [.lit (.bool true)], args := [d1, d2, d3, d4, d5] }
  | _ => none }
def quarantineRefusesRow : OpenClaim := { program := "ytoeidadjhkkioaagreatdoor", sum := "7bc65eaae5999218c99cb9ce9e4e8af0528470189df5d5f8be68104e5bfc87df", func := "freehold/freeholdlaw13.QuarantineRefuses", spec := "quarantineRefuses", inPlace := ["slices.overlaps[freehold/central.entry]"], unfollowed := true, recurses := true, named := ["freehold/space.clean", "freehold/space.unmapped", "freehold/space.dirty"], apart := false, laid := [("freehold/space.unmapped", laid_freehold_space_unmapped), ("freehold/space.clean", laid_freehold_space_clean), ("freehold/space.dirty", laid_freehold_space_dirty)] }
def QuarantineRefusesSaid : Prop := quarantineRefusesRow.holds Tryz.pinned (OpenSpec.ofChange quarantineRefusesSpec)

/-- ITS FALSE NEIGHBOUR: 'it returns false'. Refute it at one input. -/
def quarantineRefusesWrong : ChangeSpec := { name := "quarantineRefuses", fn := fun _ => fun
  | [d1, d2, d3, d4, d5] => { results := [.lit (.bool false)], args := [d1, d2, d3, d4, d5] }
  | _ => none }
def QuarantineRefusesWrongFalsely : Prop := quarantineRefusesRow.holds Tryz.pinned (OpenSpec.ofChange quarantineRefusesWrong)

/-- 'freeholdlaw12.GuardClones': WHATEVER THE INPUT: true; the input reads as it did. -/
def guardClonesSpec : ChangeSpec := { name := "guardClones", fn := fun _ => fun
  | [d1, d2, d3, d4] => { results := [.lit (.bool true)], args := [d1, d2, d3, d4] }
  | _ => none }
def guardClonesRow : OpenClaim := { program := "ytoeidadjhkkioaagreatdoor", sum := "7bc65eaae5999218c99cb9ce9e4e8af0528470189df5d5f8be68104e5bfc87df", func := "freehold/freeholdlaw12.GuardClones", spec := "guardClones", inPlace := ["slices.overlaps[freehold/central.entry]", "maps.clone"], unfollowed := true, recurses := true, named := ["freehold/space.clean", "freehold/space.unmapped", "freehold/space.dirty"], apart := false, laid := [("freehold/space.unmapped", laid_freehold_space_unmapped), ("freehold/space.clean", laid_freehold_space_clean), ("freehold/space.dirty", laid_freehold_space_dirty)] }
def GuardClonesSaid : Prop := guardClonesRow.holds Tryz.pinned (OpenSpec.ofChange guardClonesSpec)

/-- ITS FALSE NEIGHBOUR: 'it returns false'. Refute it at one input. -/
def guardClonesWrong : ChangeSpec := { name := "guardClones", fn := fun _ => fun
  | [d1, d2, d3, d4] => { results := [.lit (.bool false)], args := [d1, d2, d3, d4] }
  | _ => none }
def GuardClonesWrongFalsely : Prop := guardClonesRow.holds Tryz.pinned (OpenSpec.ofChange guardClonesWrong)

/- THE SECOND FORM. 'bulk': how many values and letters a reading holds, each counted each time it is reached (what is shared counts as often as it is met; a slice's spare places count too). A statement '..UptoSaid' is the law's where the arguments, and the package variables that the reading takes, are together of bulk at most 1048576: NARROWER than '..Said'. Prove '..Said' where nothing that the law and all that it calls make is longer than what came in: it says more and counts as full. Else prove '..UptoSaid'. A law counts once. -/
mutual
def uptoBulk {H : Type} : DataW H → Nat
  | .lit (.string bytes) => bytes.length + 1
  | .lit _ => 1
  | .nil => 1
  | .ptr d => uptoBulk d + 1
  | .slice elems spare => uptoBulkAll elems + uptoBulkAll spare + 1
  | .agg parts => uptoBulkAll parts + 1
  | .iface _ d => uptoBulk d + 1
  | .map entries => uptoBulkEntries entries + 1
  | .held _ => 1
def uptoBulkAll {H : Type} : List (DataW H) → Nat
  | [] => 0
  | d :: r => uptoBulk d + uptoBulkAll r
def uptoBulkEntries {H : Type} : List (Lit × DataW H) → Nat
  | [] => 0
  | x :: r => uptoBulkEntry x + uptoBulkEntries r
def uptoBulkEntry {H : Type} : Lit × DataW H → Nat
  | (.string bytes, d) => bytes.length + uptoBulk d + 1
  | (_, d) => uptoBulk d + 1
 end
def uptoSmall : (H : Type) → List (DataW H) → Bool := fun _ ds => decide (uptoBulkAll ds ≤ 1048576)
def OpenSpec.upto (s : _root_.Go.ChangeSpec) : _root_.Go.OpenSpec := { _root_.Go.OpenSpec.ofChange s with cond := some uptoSmall }

/-- 'freeholdlaw13.QuarantineOrder', WHERE WHAT IT READS IS OF BULK AT MOST 1048576: true; the input reads as it did. -/
def quarantineOrderUptoRow : OpenClaim := { program := "ytoeidadjhkkioaagreatdoor", sum := "7bc65eaae5999218c99cb9ce9e4e8af0528470189df5d5f8be68104e5bfc87df", func := "freehold/freeholdlaw13.QuarantineOrder", spec := "quarantineOrder", inPlace := ["slices.overlaps[freehold/central.entry]"], unfollowed := true, recurses := true, named := ["freehold/space.clean", "freehold/space.unmapped", "freehold/space.dirty"], apart := false, laid := [("freehold/space.unmapped", laid_freehold_space_unmapped), ("freehold/space.clean", laid_freehold_space_clean), ("freehold/space.dirty", laid_freehold_space_dirty)], narrowed := true }
def QuarantineOrderUptoSaid : Prop := quarantineOrderUptoRow.holds Tryz.pinned (OpenSpec.upto quarantineOrderSpec)

/-- 'freeholdlaw13.QuarantineKept', WHERE WHAT IT READS IS OF BULK AT MOST 1048576: true; the input reads as it did. -/
def quarantineKeptUptoRow : OpenClaim := { program := "ytoeidadjhkkioaagreatdoor", sum := "7bc65eaae5999218c99cb9ce9e4e8af0528470189df5d5f8be68104e5bfc87df", func := "freehold/freeholdlaw13.QuarantineKept", spec := "quarantineKept", inPlace := ["slices.overlaps[freehold/central.entry]"], unfollowed := true, recurses := true, named := ["freehold/space.clean", "freehold/space.unmapped", "freehold/space.dirty"], apart := false, laid := [("freehold/space.unmapped", laid_freehold_space_unmapped), ("freehold/space.clean", laid_freehold_space_clean), ("freehold/space.dirty", laid_freehold_space_dirty)], narrowed := true }
def QuarantineKeptUptoSaid : Prop := quarantineKeptUptoRow.holds Tryz.pinned (OpenSpec.upto quarantineKeptSpec)

/-- 'freeholdlaw13.QuarantineLimits', WHERE WHAT IT READS IS OF BULK AT MOST 1048576: true; the input reads as it did. -/
def quarantineLimitsUptoRow : OpenClaim := { program := "ytoeidadjhkkioaagreatdoor", sum := "7bc65eaae5999218c99cb9ce9e4e8af0528470189df5d5f8be68104e5bfc87df", func := "freehold/freeholdlaw13.QuarantineLimits", spec := "quarantineLimits", inPlace := ["slices.overlaps[freehold/central.entry]"], unfollowed := true, recurses := true, named := ["freehold/space.clean", "freehold/space.unmapped", "freehold/space.dirty"], apart := false, laid := [("freehold/space.unmapped", laid_freehold_space_unmapped), ("freehold/space.clean", laid_freehold_space_clean), ("freehold/space.dirty", laid_freehold_space_dirty)], narrowed := true }
def QuarantineLimitsUptoSaid : Prop := quarantineLimitsUptoRow.holds Tryz.pinned (OpenSpec.upto quarantineLimitsSpec)

/-- 'freeholdlaw13.QuarantineUsed', WHERE WHAT IT READS IS OF BULK AT MOST 1048576: true; the input reads as it did. -/
def quarantineUsedUptoRow : OpenClaim := { program := "ytoeidadjhkkioaagreatdoor", sum := "7bc65eaae5999218c99cb9ce9e4e8af0528470189df5d5f8be68104e5bfc87df", func := "freehold/freeholdlaw13.QuarantineUsed", spec := "quarantineUsed", inPlace := ["slices.overlaps[freehold/central.entry]"], unfollowed := true, recurses := true, named := ["freehold/space.clean", "freehold/space.unmapped", "freehold/space.dirty"], apart := false, laid := [("freehold/space.unmapped", laid_freehold_space_unmapped), ("freehold/space.clean", laid_freehold_space_clean), ("freehold/space.dirty", laid_freehold_space_dirty)], narrowed := true }
def QuarantineUsedUptoSaid : Prop := quarantineUsedUptoRow.holds Tryz.pinned (OpenSpec.upto quarantineUsedSpec)

/-- 'freeholdlaw13.QuarantineClean', WHERE WHAT IT READS IS OF BULK AT MOST 1048576: true; the input reads as it did. -/
def quarantineCleanUptoRow : OpenClaim := { program := "ytoeidadjhkkioaagreatdoor", sum := "7bc65eaae5999218c99cb9ce9e4e8af0528470189df5d5f8be68104e5bfc87df", func := "freehold/freeholdlaw13.QuarantineClean", spec := "quarantineClean", inPlace := ["slices.overlaps[freehold/central.entry]"], unfollowed := true, recurses := true, named := ["freehold/space.clean", "freehold/space.unmapped", "freehold/space.dirty"], apart := false, laid := [("freehold/space.unmapped", laid_freehold_space_unmapped), ("freehold/space.clean", laid_freehold_space_clean), ("freehold/space.dirty", laid_freehold_space_dirty)], narrowed := true }
def QuarantineCleanUptoSaid : Prop := quarantineCleanUptoRow.holds Tryz.pinned (OpenSpec.upto quarantineCleanSpec)

/-- 'freeholdlaw13.QuarantineAll', WHERE WHAT IT READS IS OF BULK AT MOST 1048576: true; the input reads as it did. -/
def quarantineAllUptoRow : OpenClaim := { program := "ytoeidadjhkkioaagreatdoor", sum := "7bc65eaae5999218c99cb9ce9e4e8af0528470189df5d5f8be68104e5bfc87df", func := "freehold/freeholdlaw13.QuarantineAll", spec := "quarantineAll", inPlace := ["slices.overlaps[freehold/central.entry]"], unfollowed := true, recurses := true, named := ["freehold/space.clean", "freehold/space.unmapped", "freehold/space.dirty"], apart := false, laid := [("freehold/space.unmapped", laid_freehold_space_unmapped), ("freehold/space.clean", laid_freehold_space_clean), ("freehold/space.dirty", laid_freehold_space_dirty)], narrowed := true }
def QuarantineAllUptoSaid : Prop := quarantineAllUptoRow.holds Tryz.pinned (OpenSpec.upto quarantineAllSpec)

/-- 'freeholdlaw13.QuarantineNone', WHERE WHAT IT READS IS OF BULK AT MOST 1048576: true; the input reads as it did. -/
def quarantineNoneUptoRow : OpenClaim := { program := "ytoeidadjhkkioaagreatdoor", sum := "7bc65eaae5999218c99cb9ce9e4e8af0528470189df5d5f8be68104e5bfc87df", func := "freehold/freeholdlaw13.QuarantineNone", spec := "quarantineNone", inPlace := ["slices.overlaps[freehold/central.entry]", "maps.clone"], unfollowed := true, recurses := true, named := ["freehold/space.clean", "freehold/space.unmapped", "freehold/space.dirty"], apart := false, laid := [("freehold/space.unmapped", laid_freehold_space_unmapped), ("freehold/space.clean", laid_freehold_space_clean), ("freehold/space.dirty", laid_freehold_space_dirty)], narrowed := true }
def QuarantineNoneUptoSaid : Prop := quarantineNoneUptoRow.holds Tryz.pinned (OpenSpec.upto quarantineNoneSpec)

/-- 'freeholdlaw13.QuarantineClones', WHERE WHAT IT READS IS OF BULK AT MOST 1048576: true; the input reads as it did. -/
def quarantineClonesUptoRow : OpenClaim := { program := "ytoeidadjhkkioaagreatdoor", sum := "7bc65eaae5999218c99cb9ce9e4e8af0528470189df5d5f8be68104e5bfc87df", func := "freehold/freeholdlaw13.QuarantineClones", spec := "quarantineClones", inPlace := ["slices.overlaps[freehold/central.entry]", "maps.clone"], unfollowed := true, recurses := true, named := ["freehold/space.clean", "freehold/space.unmapped", "freehold/space.dirty"], apart := false, laid := [("freehold/space.unmapped", laid_freehold_space_unmapped), ("freehold/space.clean", laid_freehold_space_clean), ("freehold/space.dirty", laid_freehold_space_dirty)], narrowed := true }
def QuarantineClonesUptoSaid : Prop := quarantineClonesUptoRow.holds Tryz.pinned (OpenSpec.upto quarantineClonesSpec)

/-- 'freeholdlaw13.QuarantineRefuses', WHERE WHAT IT READS IS OF BULK AT MOST 1048576: true; the input reads as it did. -/
def quarantineRefusesUptoRow : OpenClaim := { program := "ytoeidadjhkkioaagreatdoor", sum := "7bc65eaae5999218c99cb9ce9e4e8af0528470189df5d5f8be68104e5bfc87df", func := "freehold/freeholdlaw13.QuarantineRefuses", spec := "quarantineRefuses", inPlace := ["slices.overlaps[freehold/central.entry]"], unfollowed := true, recurses := true, named := ["freehold/space.clean", "freehold/space.unmapped", "freehold/space.dirty"], apart := false, laid := [("freehold/space.unmapped", laid_freehold_space_unmapped), ("freehold/space.clean", laid_freehold_space_clean), ("freehold/space.dirty", laid_freehold_space_dirty)], narrowed := true }
def QuarantineRefusesUptoSaid : Prop := quarantineRefusesUptoRow.holds Tryz.pinned (OpenSpec.upto quarantineRefusesSpec)

/-- 'freeholdlaw12.GuardClones', WHERE WHAT IT READS IS OF BULK AT MOST 1048576: true; the input reads as it did. -/
def guardClonesUptoRow : OpenClaim := { program := "ytoeidadjhkkioaagreatdoor", sum := "7bc65eaae5999218c99cb9ce9e4e8af0528470189df5d5f8be68104e5bfc87df", func := "freehold/freeholdlaw12.GuardClones", spec := "guardClones", inPlace := ["slices.overlaps[freehold/central.entry]", "maps.clone"], unfollowed := true, recurses := true, named := ["freehold/space.clean", "freehold/space.unmapped", "freehold/space.dirty"], apart := false, laid := [("freehold/space.unmapped", laid_freehold_space_unmapped), ("freehold/space.clean", laid_freehold_space_clean), ("freehold/space.dirty", laid_freehold_space_dirty)], narrowed := true }
def GuardClonesUptoSaid : Prop := guardClonesUptoRow.holds Tryz.pinned (OpenSpec.upto guardClonesSpec)

end Rows
end Go.Proofs.YtoeidadjhkkioaaGreatDoor
