/-
  NARROWER THAN 'FOR EVERY INPUT', by the rows' own cells (each row's printed sentence says how): StatsBounds: laid · StatsBound: laid · StatsNone: laid · StatsGiven: laid · StatsUsage: laid · StatsWaste: laid · StatsPeaks: laid · StatsCounts: laid · StatsAll: laid · StatsSplit: laid.
  DERIVED. THE GIVEN ROWS OF THIS SEAT. 10 by the template 'for every input the law returns true; each argument reads behind the call as it read before'; 0 by the template 'total and deterministic' (their statements: YtkabjcanamcbeaaGreatDoorTotals.lean).
  GIVEN WITH THE SEED: the statements are not yours to turn. If you find one false, say at which input.
  Laid BY PROGRAM, IN A SANDBOX (cutbox-rows.mjs): the forced cells as the released guide's own fill.sh prints them over the translation 6b6c6654799d77d1… (all of the seat's roots in one cut). By AI agents, Wed Nov 11 2026. No macro, syntax, notation, axiom, sorry.
-/
import Derived.Test.YtkabjcanamcbeaaGreatDoorChecked
import GoSem.Claim
import GoSem.ClaimJoined
import GoSem.ClaimMapViews
import Derived.JoinedTies
import Derived.KernelRfl
namespace Go.Proofs.YtkabjcanamcbeaaGreatDoor
/- THE CELL 'sum', in the pinned program and in every row, IS THE sha256 OF THE DUMP (.gsa) THAT YtkabjcanamcbeaaGreatDoorProg.lean LOADS. Nothing in Lean hashes anything: it is a label: what it is worth is what the hold of that sum in a sandbox is worth. -/
noncomputable def Tryz.pinned : Pinned := { name := "ytkabjcanamcbeaagreatdoor", sum := "6b6c6654799d77d128f9ae860952ed34487ef954669672c71eb029e7b51654c2", checked := Tryz.checked }
namespace Rows
def none {H : Type} : Left H := { results := [], args := [] }

/- WHAT THE LISTED PACKAGE-LEVEL VARIABLES READ AS WHEN THE CALL BEGINS. Each datum BY PROGRAM (the guide's laid-datum.mjs) off the statement by which the dump's own 'gosem.cut.vars' lays the variable. In a bare row this is a premise. The card (YtkabjcanamcbeaaGreatDoorCards.lean) ties it to the program's text. -/
def laid_freehold_space_unmapped {H : Type} : DataW H := .agg [.lit (.bool false), .lit (.bool false)]
def laid_freehold_space_clean {H : Type} : DataW H := .agg [.lit (.bool true), .lit (.bool false)]
def laid_freehold_space_dirty {H : Type} : DataW H := .agg [.lit (.bool true), .lit (.bool true)]

/-- 'freeholdlaw22.StatsBounds': WHATEVER THE INPUT: true; the input reads as it did. -/
def statsBoundsSpec : ChangeSpec := { name := "statsBounds", fn := fun _ => fun
  | [d1, d2, d3] => { results := [.lit (.bool true)], args := [d1, d2, d3] }
  | _ => none }
def statsBoundsRow : OpenClaim := { program := "ytkabjcanamcbeaagreatdoor", sum := "6b6c6654799d77d128f9ae860952ed34487ef954669672c71eb029e7b51654c2", func := "freehold/freeholdlaw22.StatsBounds", spec := "statsBounds", inPlace := ["slices.overlaps[freehold/central.entry]"], unfollowed := true, recurses := true, named := ["freehold/space.clean", "freehold/space.unmapped"], apart := false, laid := [("freehold/space.unmapped", laid_freehold_space_unmapped), ("freehold/space.clean", laid_freehold_space_clean)] }
def StatsBoundsSaid : Prop := statsBoundsRow.holds Tryz.pinned (OpenSpec.ofChange statsBoundsSpec)

/-- ITS FALSE NEIGHBOUR: 'it returns false'. Refute it at one input. -/
def statsBoundsWrong : ChangeSpec := { name := "statsBounds", fn := fun _ => fun
  | [d1, d2, d3] => { results := [.lit (.bool false)], args := [d1, d2, d3] }
  | _ => none }
def StatsBoundsWrongFalsely : Prop := statsBoundsRow.holds Tryz.pinned (OpenSpec.ofChange statsBoundsWrong)

/-- 'freeholdlaw22.StatsBound': WHATEVER THE INPUT: true; the input reads as it did. -/
def statsBoundSpec : ChangeSpec := { name := "statsBound", fn := fun _ => fun
  | [d1, d2, d3] => { results := [.lit (.bool true)], args := [d1, d2, d3] }
  | _ => none }
def statsBoundRow : OpenClaim := { program := "ytkabjcanamcbeaagreatdoor", sum := "6b6c6654799d77d128f9ae860952ed34487ef954669672c71eb029e7b51654c2", func := "freehold/freeholdlaw22.StatsBound", spec := "statsBound", inPlace := ["slices.overlaps[freehold/central.entry]"], unfollowed := true, recurses := true, named := ["freehold/space.clean", "freehold/space.unmapped"], apart := false, laid := [("freehold/space.unmapped", laid_freehold_space_unmapped), ("freehold/space.clean", laid_freehold_space_clean)] }
def StatsBoundSaid : Prop := statsBoundRow.holds Tryz.pinned (OpenSpec.ofChange statsBoundSpec)

/-- ITS FALSE NEIGHBOUR: 'it returns false'. Refute it at one input. -/
def statsBoundWrong : ChangeSpec := { name := "statsBound", fn := fun _ => fun
  | [d1, d2, d3] => { results := [.lit (.bool false)], args := [d1, d2, d3] }
  | _ => none }
def StatsBoundWrongFalsely : Prop := statsBoundRow.holds Tryz.pinned (OpenSpec.ofChange statsBoundWrong)

/-- 'freeholdlaw22.StatsNone': WHATEVER THE INPUT: true; the input reads as it did. -/
def statsNoneSpec : ChangeSpec := { name := "statsNone", fn := fun _ => fun
  | [d1, d2, d3, d4] => { results := [.lit (.bool true)], args := [d1, d2, d3, d4] }
  | _ => none }
def statsNoneRow : OpenClaim := { program := "ytkabjcanamcbeaagreatdoor", sum := "6b6c6654799d77d128f9ae860952ed34487ef954669672c71eb029e7b51654c2", func := "freehold/freeholdlaw22.StatsNone", spec := "statsNone", inPlace := ["slices.overlaps[freehold/central.entry]", "maps.clone"], unfollowed := true, recurses := true, named := ["freehold/space.clean", "freehold/space.unmapped"], apart := false, laid := [("freehold/space.unmapped", laid_freehold_space_unmapped), ("freehold/space.clean", laid_freehold_space_clean)] }
def StatsNoneSaid : Prop := statsNoneRow.holds Tryz.pinned (OpenSpec.ofChange statsNoneSpec)

/-- ITS FALSE NEIGHBOUR: 'it returns false'. Refute it at one input. -/
def statsNoneWrong : ChangeSpec := { name := "statsNone", fn := fun _ => fun
  | [d1, d2, d3, d4] => { results := [.lit (.bool false)], args := [d1, d2, d3, d4] }
  | _ => none }
def StatsNoneWrongFalsely : Prop := statsNoneRow.holds Tryz.pinned (OpenSpec.ofChange statsNoneWrong)

/-- 'freeholdlaw22.StatsGiven': WHATEVER THE INPUT: true; the input reads as it did. -/
def statsGivenSpec : ChangeSpec := { name := "statsGiven", fn := fun _ => fun
  | [d1, d2] => { results := [.lit (.bool true)], args := [d1, d2] }
  | _ => none }
def statsGivenRow : OpenClaim := { program := "ytkabjcanamcbeaagreatdoor", sum := "6b6c6654799d77d128f9ae860952ed34487ef954669672c71eb029e7b51654c2", func := "freehold/freeholdlaw22.StatsGiven", spec := "statsGiven", inPlace := ["slices.overlaps[freehold/central.entry]"], unfollowed := true, recurses := true, named := ["freehold/space.clean", "freehold/space.unmapped", "freehold/space.dirty"], apart := false, laid := [("freehold/space.unmapped", laid_freehold_space_unmapped), ("freehold/space.clean", laid_freehold_space_clean), ("freehold/space.dirty", laid_freehold_space_dirty)] }
def StatsGivenSaid : Prop := statsGivenRow.holds Tryz.pinned (OpenSpec.ofChange statsGivenSpec)

/-- ITS FALSE NEIGHBOUR: 'it returns false'. Refute it at one input. -/
def statsGivenWrong : ChangeSpec := { name := "statsGiven", fn := fun _ => fun
  | [d1, d2] => { results := [.lit (.bool false)], args := [d1, d2] }
  | _ => none }
def StatsGivenWrongFalsely : Prop := statsGivenRow.holds Tryz.pinned (OpenSpec.ofChange statsGivenWrong)

/-- 'freeholdlaw22.StatsUsage': WHATEVER THE INPUT: true; the input reads as it did. -/
def statsUsageSpec : ChangeSpec := { name := "statsUsage", fn := fun _ => fun
  | [d1, d2] => { results := [.lit (.bool true)], args := [d1, d2] }
  | _ => none }
def statsUsageRow : OpenClaim := { program := "ytkabjcanamcbeaagreatdoor", sum := "6b6c6654799d77d128f9ae860952ed34487ef954669672c71eb029e7b51654c2", func := "freehold/freeholdlaw22.StatsUsage", spec := "statsUsage", inPlace := ["slices.overlaps[freehold/central.entry]"], unfollowed := true, recurses := true, named := ["freehold/space.clean", "freehold/space.unmapped", "freehold/space.dirty"], apart := false, laid := [("freehold/space.unmapped", laid_freehold_space_unmapped), ("freehold/space.clean", laid_freehold_space_clean), ("freehold/space.dirty", laid_freehold_space_dirty)] }
def StatsUsageSaid : Prop := statsUsageRow.holds Tryz.pinned (OpenSpec.ofChange statsUsageSpec)

/-- ITS FALSE NEIGHBOUR: 'it returns false'. Refute it at one input. -/
def statsUsageWrong : ChangeSpec := { name := "statsUsage", fn := fun _ => fun
  | [d1, d2] => { results := [.lit (.bool false)], args := [d1, d2] }
  | _ => none }
def StatsUsageWrongFalsely : Prop := statsUsageRow.holds Tryz.pinned (OpenSpec.ofChange statsUsageWrong)

/-- 'freeholdlaw22.StatsWaste': WHATEVER THE INPUT: true; the input reads as it did. -/
def statsWasteSpec : ChangeSpec := { name := "statsWaste", fn := fun _ => fun
  | [d1, d2] => { results := [.lit (.bool true)], args := [d1, d2] }
  | _ => none }
def statsWasteRow : OpenClaim := { program := "ytkabjcanamcbeaagreatdoor", sum := "6b6c6654799d77d128f9ae860952ed34487ef954669672c71eb029e7b51654c2", func := "freehold/freeholdlaw22.StatsWaste", spec := "statsWaste", inPlace := ["slices.overlaps[freehold/central.entry]"], unfollowed := true, recurses := true, named := ["freehold/space.clean", "freehold/space.unmapped", "freehold/space.dirty"], apart := false, laid := [("freehold/space.unmapped", laid_freehold_space_unmapped), ("freehold/space.clean", laid_freehold_space_clean), ("freehold/space.dirty", laid_freehold_space_dirty)] }
def StatsWasteSaid : Prop := statsWasteRow.holds Tryz.pinned (OpenSpec.ofChange statsWasteSpec)

/-- ITS FALSE NEIGHBOUR: 'it returns false'. Refute it at one input. -/
def statsWasteWrong : ChangeSpec := { name := "statsWaste", fn := fun _ => fun
  | [d1, d2] => { results := [.lit (.bool false)], args := [d1, d2] }
  | _ => none }
def StatsWasteWrongFalsely : Prop := statsWasteRow.holds Tryz.pinned (OpenSpec.ofChange statsWasteWrong)

/-- 'freeholdlaw22.StatsPeaks': WHATEVER THE INPUT: true; the input reads as it did. -/
def statsPeaksSpec : ChangeSpec := { name := "statsPeaks", fn := fun _ => fun
  | [d1, d2] => { results := [.lit (.bool true)], args := [d1, d2] }
  | _ => none }
def statsPeaksRow : OpenClaim := { program := "ytkabjcanamcbeaagreatdoor", sum := "6b6c6654799d77d128f9ae860952ed34487ef954669672c71eb029e7b51654c2", func := "freehold/freeholdlaw22.StatsPeaks", spec := "statsPeaks", inPlace := ["slices.overlaps[freehold/central.entry]"], unfollowed := true, recurses := true, named := ["freehold/space.clean", "freehold/space.unmapped", "freehold/space.dirty"], apart := false, laid := [("freehold/space.unmapped", laid_freehold_space_unmapped), ("freehold/space.clean", laid_freehold_space_clean), ("freehold/space.dirty", laid_freehold_space_dirty)] }
def StatsPeaksSaid : Prop := statsPeaksRow.holds Tryz.pinned (OpenSpec.ofChange statsPeaksSpec)

/-- ITS FALSE NEIGHBOUR: 'it returns false'. Refute it at one input. -/
def statsPeaksWrong : ChangeSpec := { name := "statsPeaks", fn := fun _ => fun
  | [d1, d2] => { results := [.lit (.bool false)], args := [d1, d2] }
  | _ => none }
def StatsPeaksWrongFalsely : Prop := statsPeaksRow.holds Tryz.pinned (OpenSpec.ofChange statsPeaksWrong)

/-- 'freeholdlaw22.StatsCounts': WHATEVER THE INPUT: true; the input reads as it did. -/
def statsCountsSpec : ChangeSpec := { name := "statsCounts", fn := fun _ => fun
  | [d1, d2] => { results := [.lit (.bool true)], args := [d1, d2] }
  | _ => none }
def statsCountsRow : OpenClaim := { program := "ytkabjcanamcbeaagreatdoor", sum := "6b6c6654799d77d128f9ae860952ed34487ef954669672c71eb029e7b51654c2", func := "freehold/freeholdlaw22.StatsCounts", spec := "statsCounts", inPlace := ["slices.overlaps[freehold/central.entry]"], unfollowed := true, recurses := true, named := ["freehold/space.clean", "freehold/space.unmapped", "freehold/space.dirty"], apart := false, laid := [("freehold/space.unmapped", laid_freehold_space_unmapped), ("freehold/space.clean", laid_freehold_space_clean), ("freehold/space.dirty", laid_freehold_space_dirty)] }
def StatsCountsSaid : Prop := statsCountsRow.holds Tryz.pinned (OpenSpec.ofChange statsCountsSpec)

/-- ITS FALSE NEIGHBOUR: 'it returns false'. Refute it at one input. -/
def statsCountsWrong : ChangeSpec := { name := "statsCounts", fn := fun _ => fun
  | [d1, d2] => { results := [.lit (.bool false)], args := [d1, d2] }
  | _ => none }
def StatsCountsWrongFalsely : Prop := statsCountsRow.holds Tryz.pinned (OpenSpec.ofChange statsCountsWrong)

/-- 'freeholdlaw22.StatsAll': WHATEVER THE INPUT: true; the input reads as it did. -/
def statsAllSpec : ChangeSpec := { name := "statsAll", fn := fun _ => fun
  | [d1, d2] => { results := [.lit (.bool true)], args := [d1, d2] }
  | _ => none }
def statsAllRow : OpenClaim := { program := "ytkabjcanamcbeaagreatdoor", sum := "6b6c6654799d77d128f9ae860952ed34487ef954669672c71eb029e7b51654c2", func := "freehold/freeholdlaw22.StatsAll", spec := "statsAll", inPlace := ["slices.overlaps[freehold/central.entry]"], unfollowed := true, recurses := true, named := ["freehold/space.clean", "freehold/space.unmapped", "freehold/space.dirty"], apart := false, laid := [("freehold/space.unmapped", laid_freehold_space_unmapped), ("freehold/space.clean", laid_freehold_space_clean), ("freehold/space.dirty", laid_freehold_space_dirty)] }
def StatsAllSaid : Prop := statsAllRow.holds Tryz.pinned (OpenSpec.ofChange statsAllSpec)

/-- ITS FALSE NEIGHBOUR: 'it returns false'. Refute it at one input. -/
def statsAllWrong : ChangeSpec := { name := "statsAll", fn := fun _ => fun
  | [d1, d2] => { results := [.lit (.bool false)], args := [d1, d2] }
  | _ => none }
def StatsAllWrongFalsely : Prop := statsAllRow.holds Tryz.pinned (OpenSpec.ofChange statsAllWrong)

/-- 'freeholdlaw22.StatsSplit': WHATEVER THE INPUT: true; the input reads as it did. -/
def statsSplitSpec : ChangeSpec := { name := "statsSplit", fn := fun _ => fun
  | [d1, d2] => { results := [.lit (.bool true)], args := [d1, d2] }
  | _ => none }
def statsSplitRow : OpenClaim := { program := "ytkabjcanamcbeaagreatdoor", sum := "6b6c6654799d77d128f9ae860952ed34487ef954669672c71eb029e7b51654c2", func := "freehold/freeholdlaw22.StatsSplit", spec := "statsSplit", inPlace := ["slices.overlaps[freehold/central.entry]"], unfollowed := true, recurses := true, named := ["freehold/space.clean", "freehold/space.unmapped", "freehold/space.dirty"], apart := false, laid := [("freehold/space.unmapped", laid_freehold_space_unmapped), ("freehold/space.clean", laid_freehold_space_clean), ("freehold/space.dirty", laid_freehold_space_dirty)] }
def StatsSplitSaid : Prop := statsSplitRow.holds Tryz.pinned (OpenSpec.ofChange statsSplitSpec)

/-- ITS FALSE NEIGHBOUR: 'it returns false'. Refute it at one input. -/
def statsSplitWrong : ChangeSpec := { name := "statsSplit", fn := fun _ => fun
  | [d1, d2] => { results := [.lit (.bool false)], args := [d1, d2] }
  | _ => none }
def StatsSplitWrongFalsely : Prop := statsSplitRow.holds Tryz.pinned (OpenSpec.ofChange statsSplitWrong)

/- THE SECOND FORM. 'bulk': how many values and letters a reading holds, each counted each time it is reached (what is shared counts as often as it is met; a slice's spare places count too). A statement '..UptoSaid' is the law's where the arguments, and the package variables that the reading takes, are together of bulk at most 1048576: NARROWER than '..Said'. Prove '..Said' where nothing that the law and all that it calls make is longer than what came in: it says more and counts as full. Else prove '..UptoSaid'. A law counts once. -/
mutual
def uptoBulk {H : Type} : DataW H → Nat
  | .lit (.string bytes) => bytes.length + 1
  | .lit _ => 1
  | .nil => 1
  | .ptr d => uptoBulk d + 1
  | .slice elems spare => uptoBulkAll elems + uptoBulkAll spare + 1
  | .agg parts => uptoBulkAll parts + 1
  | .iface _ d => uptoBulk d + 1
  | .map entries => uptoBulkEntries entries + 1
  | .held _ => 1
def uptoBulkAll {H : Type} : List (DataW H) → Nat
  | [] => 0
  | d :: r => uptoBulk d + uptoBulkAll r
def uptoBulkEntries {H : Type} : List (Lit × DataW H) → Nat
  | [] => 0
  | x :: r => uptoBulkEntry x + uptoBulkEntries r
def uptoBulkEntry {H : Type} : Lit × DataW H → Nat
  | (.string bytes, d) => bytes.length + uptoBulk d + 1
  | (_, d) => uptoBulk d + 1
 end
def uptoSmall : (H : Type) → List (DataW H) → Bool := fun _ ds => decide (uptoBulkAll ds ≤ 1048576)
def OpenSpec.upto (s : _root_.Go.ChangeSpec) : _root_.Go.OpenSpec := { _root_.Go.OpenSpec.ofChange s with cond := some uptoSmall }

/-- 'freeholdlaw22.StatsBounds', WHERE WHAT IT READS IS OF BULK AT MOST 1048576: true; the input reads as it did. -/
def statsBoundsUptoRow : OpenClaim := { program := "ytkabjcanamcbeaagreatdoor", sum := "6b6c6654799d77d128f9ae860952ed34487ef954669672c71eb029e7b51654c2", func := "freehold/freeholdlaw22.StatsBounds", spec := "statsBounds", inPlace := ["slices.overlaps[freehold/central.entry]"], unfollowed := true, recurses := true, named := ["freehold/space.clean", "freehold/space.unmapped"], apart := false, laid := [("freehold/space.unmapped", laid_freehold_space_unmapped), ("freehold/space.clean", laid_freehold_space_clean)], narrowed := true }
def StatsBoundsUptoSaid : Prop := statsBoundsUptoRow.holds Tryz.pinned (OpenSpec.upto statsBoundsSpec)

/-- 'freeholdlaw22.StatsBound', WHERE WHAT IT READS IS OF BULK AT MOST 1048576: true; the input reads as it did. -/
def statsBoundUptoRow : OpenClaim := { program := "ytkabjcanamcbeaagreatdoor", sum := "6b6c6654799d77d128f9ae860952ed34487ef954669672c71eb029e7b51654c2", func := "freehold/freeholdlaw22.StatsBound", spec := "statsBound", inPlace := ["slices.overlaps[freehold/central.entry]"], unfollowed := true, recurses := true, named := ["freehold/space.clean", "freehold/space.unmapped"], apart := false, laid := [("freehold/space.unmapped", laid_freehold_space_unmapped), ("freehold/space.clean", laid_freehold_space_clean)], narrowed := true }
def StatsBoundUptoSaid : Prop := statsBoundUptoRow.holds Tryz.pinned (OpenSpec.upto statsBoundSpec)

/-- 'freeholdlaw22.StatsNone', WHERE WHAT IT READS IS OF BULK AT MOST 1048576: true; the input reads as it did. -/
def statsNoneUptoRow : OpenClaim := { program := "ytkabjcanamcbeaagreatdoor", sum := "6b6c6654799d77d128f9ae860952ed34487ef954669672c71eb029e7b51654c2", func := "freehold/freeholdlaw22.StatsNone", spec := "statsNone", inPlace := ["slices.overlaps[freehold/central.entry]", "maps.clone"], unfollowed := true, recurses := true, named := ["freehold/space.clean", "freehold/space.unmapped"], apart := false, laid := [("freehold/space.unmapped", laid_freehold_space_unmapped), ("freehold/space.clean", laid_freehold_space_clean)], narrowed := true }
def StatsNoneUptoSaid : Prop := statsNoneUptoRow.holds Tryz.pinned (OpenSpec.upto statsNoneSpec)

/-- 'freeholdlaw22.StatsGiven', WHERE WHAT IT READS IS OF BULK AT MOST 1048576: true; the input reads as it did. -/
def statsGivenUptoRow : OpenClaim := { program := "ytkabjcanamcbeaagreatdoor", sum := "6b6c6654799d77d128f9ae860952ed34487ef954669672c71eb029e7b51654c2", func := "freehold/freeholdlaw22.StatsGiven", spec := "statsGiven", inPlace := ["slices.overlaps[freehold/central.entry]"], unfollowed := true, recurses := true, named := ["freehold/space.clean", "freehold/space.unmapped", "freehold/space.dirty"], apart := false, laid := [("freehold/space.unmapped", laid_freehold_space_unmapped), ("freehold/space.clean", laid_freehold_space_clean), ("freehold/space.dirty", laid_freehold_space_dirty)], narrowed := true }
def StatsGivenUptoSaid : Prop := statsGivenUptoRow.holds Tryz.pinned (OpenSpec.upto statsGivenSpec)

/-- 'freeholdlaw22.StatsUsage', WHERE WHAT IT READS IS OF BULK AT MOST 1048576: true; the input reads as it did. -/
def statsUsageUptoRow : OpenClaim := { program := "ytkabjcanamcbeaagreatdoor", sum := "6b6c6654799d77d128f9ae860952ed34487ef954669672c71eb029e7b51654c2", func := "freehold/freeholdlaw22.StatsUsage", spec := "statsUsage", inPlace := ["slices.overlaps[freehold/central.entry]"], unfollowed := true, recurses := true, named := ["freehold/space.clean", "freehold/space.unmapped", "freehold/space.dirty"], apart := false, laid := [("freehold/space.unmapped", laid_freehold_space_unmapped), ("freehold/space.clean", laid_freehold_space_clean), ("freehold/space.dirty", laid_freehold_space_dirty)], narrowed := true }
def StatsUsageUptoSaid : Prop := statsUsageUptoRow.holds Tryz.pinned (OpenSpec.upto statsUsageSpec)

/-- 'freeholdlaw22.StatsWaste', WHERE WHAT IT READS IS OF BULK AT MOST 1048576: true; the input reads as it did. -/
def statsWasteUptoRow : OpenClaim := { program := "ytkabjcanamcbeaagreatdoor", sum := "6b6c6654799d77d128f9ae860952ed34487ef954669672c71eb029e7b51654c2", func := "freehold/freeholdlaw22.StatsWaste", spec := "statsWaste", inPlace := ["slices.overlaps[freehold/central.entry]"], unfollowed := true, recurses := true, named := ["freehold/space.clean", "freehold/space.unmapped", "freehold/space.dirty"], apart := false, laid := [("freehold/space.unmapped", laid_freehold_space_unmapped), ("freehold/space.clean", laid_freehold_space_clean), ("freehold/space.dirty", laid_freehold_space_dirty)], narrowed := true }
def StatsWasteUptoSaid : Prop := statsWasteUptoRow.holds Tryz.pinned (OpenSpec.upto statsWasteSpec)

/-- 'freeholdlaw22.StatsPeaks', WHERE WHAT IT READS IS OF BULK AT MOST 1048576: true; the input reads as it did. -/
def statsPeaksUptoRow : OpenClaim := { program := "ytkabjcanamcbeaagreatdoor", sum := "6b6c6654799d77d128f9ae860952ed34487ef954669672c71eb029e7b51654c2", func := "freehold/freeholdlaw22.StatsPeaks", spec := "statsPeaks", inPlace := ["slices.overlaps[freehold/central.entry]"], unfollowed := true, recurses := true, named := ["freehold/space.clean", "freehold/space.unmapped", "freehold/space.dirty"], apart := false, laid := [("freehold/space.unmapped", laid_freehold_space_unmapped), ("freehold/space.clean", laid_freehold_space_clean), ("freehold/space.dirty", laid_freehold_space_dirty)], narrowed := true }
def StatsPeaksUptoSaid : Prop := statsPeaksUptoRow.holds Tryz.pinned (OpenSpec.upto statsPeaksSpec)

/-- 'freeholdlaw22.StatsCounts', WHERE WHAT IT READS IS OF BULK AT MOST 1048576: true; the input reads as it did. -/
def statsCountsUptoRow : OpenClaim := { program := "ytkabjcanamcbeaagreatdoor", sum := "6b6c6654799d77d128f9ae860952ed34487ef954669672c71eb029e7b51654c2", func := "freehold/freeholdlaw22.StatsCounts", spec := "statsCounts", inPlace := ["slices.overlaps[freehold/central.entry]"], unfollowed := true, recurses := true, named := ["freehold/space.clean", "freehold/space.unmapped", "freehold/space.dirty"], apart := false, laid := [("freehold/space.unmapped", laid_freehold_space_unmapped), ("freehold/space.clean", laid_freehold_space_clean), ("freehold/space.dirty", laid_freehold_space_dirty)], narrowed := true }
def StatsCountsUptoSaid : Prop := statsCountsUptoRow.holds Tryz.pinned (OpenSpec.upto statsCountsSpec)

/-- 'freeholdlaw22.StatsAll', WHERE WHAT IT READS IS OF BULK AT MOST 1048576: true; the input reads as it did. -/
def statsAllUptoRow : OpenClaim := { program := "ytkabjcanamcbeaagreatdoor", sum := "6b6c6654799d77d128f9ae860952ed34487ef954669672c71eb029e7b51654c2", func := "freehold/freeholdlaw22.StatsAll", spec := "statsAll", inPlace := ["slices.overlaps[freehold/central.entry]"], unfollowed := true, recurses := true, named := ["freehold/space.clean", "freehold/space.unmapped", "freehold/space.dirty"], apart := false, laid := [("freehold/space.unmapped", laid_freehold_space_unmapped), ("freehold/space.clean", laid_freehold_space_clean), ("freehold/space.dirty", laid_freehold_space_dirty)], narrowed := true }
def StatsAllUptoSaid : Prop := statsAllUptoRow.holds Tryz.pinned (OpenSpec.upto statsAllSpec)

/-- 'freeholdlaw22.StatsSplit', WHERE WHAT IT READS IS OF BULK AT MOST 1048576: true; the input reads as it did. -/
def statsSplitUptoRow : OpenClaim := { program := "ytkabjcanamcbeaagreatdoor", sum := "6b6c6654799d77d128f9ae860952ed34487ef954669672c71eb029e7b51654c2", func := "freehold/freeholdlaw22.StatsSplit", spec := "statsSplit", inPlace := ["slices.overlaps[freehold/central.entry]"], unfollowed := true, recurses := true, named := ["freehold/space.clean", "freehold/space.unmapped", "freehold/space.dirty"], apart := false, laid := [("freehold/space.unmapped", laid_freehold_space_unmapped), ("freehold/space.clean", laid_freehold_space_clean), ("freehold/space.dirty", laid_freehold_space_dirty)], narrowed := true }
def StatsSplitUptoSaid : Prop := statsSplitUptoRow.holds Tryz.pinned (OpenSpec.upto statsSplitSpec)

end Rows
end Go.Proofs.YtkabjcanamcbeaaGreatDoor
