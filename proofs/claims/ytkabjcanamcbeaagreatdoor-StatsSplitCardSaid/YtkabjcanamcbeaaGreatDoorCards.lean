/-
  DERIVED. GIVEN WITH THE SEED: THE CARDS: each row of YtkabjcanamcbeaaGreatDoorRows.lean that lists a variable, with what it lists TIED to the program's text (the seventh form; the later family's looks); each row that meets fmt, with fmt's text TOLD by the authors' own Lean function (tested against real Go, not proved from fmt's source: count such statements apart). THE CARD IS WHAT COUNTS. Prove the row's statement (the work); the ties are given (YtkabjcanamcbeaaGreatDoorTie.lean); close each card by the builder's one call (the guide's Derived/Test/ToyasCard.lean, 'card_holds'). Laid BY PROGRAM, IN A SANDBOX (cutbox-door.mjs). By AI agents, Wed Nov 11 2026. No macro, syntax, notation, axiom, sorry.
-/
import Derived.Test.YtkabjcanamcbeaaGreatDoorRows
import GoSem.ClaimSeven
namespace Go.Proofs.YtkabjcanamcbeaaGreatDoor
namespace Rows

/-- THE TIED CARD OF 'freeholdlaw22.StatsBounds'. -/
def statsBoundsCard : Claim7 := { stood := { row := statsBoundsRow, standIns := [], harness := (true, "bcc9e8b7dc334d64fd9589acf3106db236224a15116b22b02a6c6f4ea0cf32f3"), looks := true }, kinds := [], alts := [], laidByText := true, laidKinds := [.data, .data], laidTests := true, laidLooks := .later }
def StatsBoundsCardSaid : Prop := Claim7.holds Tryz.pinned (.plain (OpenSpec.ofChange statsBoundsSpec)) statsBoundsCard

/-- THE TIED CARD OF 'freeholdlaw22.StatsBound'. -/
def statsBoundCard : Claim7 := { stood := { row := statsBoundRow, standIns := [], harness := (true, "bcc9e8b7dc334d64fd9589acf3106db236224a15116b22b02a6c6f4ea0cf32f3"), looks := true }, kinds := [], alts := [], laidByText := true, laidKinds := [.data, .data], laidTests := true, laidLooks := .later }
def StatsBoundCardSaid : Prop := Claim7.holds Tryz.pinned (.plain (OpenSpec.ofChange statsBoundSpec)) statsBoundCard

/-- THE TIED CARD OF 'freeholdlaw22.StatsNone'. -/
def statsNoneCard : Claim7 := { stood := { row := statsNoneRow, standIns := [], harness := (true, "bcc9e8b7dc334d64fd9589acf3106db236224a15116b22b02a6c6f4ea0cf32f3"), looks := true }, kinds := [], alts := [], laidByText := true, laidKinds := [.data, .data], laidTests := true, laidLooks := .later }
def StatsNoneCardSaid : Prop := Claim7.holds Tryz.pinned (.plain (OpenSpec.ofChange statsNoneSpec)) statsNoneCard

/-- THE TIED CARD OF 'freeholdlaw22.StatsGiven'. -/
def statsGivenCard : Claim7 := { stood := { row := statsGivenRow, standIns := [], harness := (true, "bcc9e8b7dc334d64fd9589acf3106db236224a15116b22b02a6c6f4ea0cf32f3"), looks := true }, kinds := [], alts := [], laidByText := true, laidKinds := [.data, .data, .data], laidTests := true, laidLooks := .later }
def StatsGivenCardSaid : Prop := Claim7.holds Tryz.pinned (.plain (OpenSpec.ofChange statsGivenSpec)) statsGivenCard

/-- THE TIED CARD OF 'freeholdlaw22.StatsUsage'. -/
def statsUsageCard : Claim7 := { stood := { row := statsUsageRow, standIns := [], harness := (true, "bcc9e8b7dc334d64fd9589acf3106db236224a15116b22b02a6c6f4ea0cf32f3"), looks := true }, kinds := [], alts := [], laidByText := true, laidKinds := [.data, .data, .data], laidTests := true, laidLooks := .later }
def StatsUsageCardSaid : Prop := Claim7.holds Tryz.pinned (.plain (OpenSpec.ofChange statsUsageSpec)) statsUsageCard

/-- THE TIED CARD OF 'freeholdlaw22.StatsWaste'. -/
def statsWasteCard : Claim7 := { stood := { row := statsWasteRow, standIns := [], harness := (true, "bcc9e8b7dc334d64fd9589acf3106db236224a15116b22b02a6c6f4ea0cf32f3"), looks := true }, kinds := [], alts := [], laidByText := true, laidKinds := [.data, .data, .data], laidTests := true, laidLooks := .later }
def StatsWasteCardSaid : Prop := Claim7.holds Tryz.pinned (.plain (OpenSpec.ofChange statsWasteSpec)) statsWasteCard

/-- THE TIED CARD OF 'freeholdlaw22.StatsPeaks'. -/
def statsPeaksCard : Claim7 := { stood := { row := statsPeaksRow, standIns := [], harness := (true, "bcc9e8b7dc334d64fd9589acf3106db236224a15116b22b02a6c6f4ea0cf32f3"), looks := true }, kinds := [], alts := [], laidByText := true, laidKinds := [.data, .data, .data], laidTests := true, laidLooks := .later }
def StatsPeaksCardSaid : Prop := Claim7.holds Tryz.pinned (.plain (OpenSpec.ofChange statsPeaksSpec)) statsPeaksCard

/-- THE TIED CARD OF 'freeholdlaw22.StatsCounts'. -/
def statsCountsCard : Claim7 := { stood := { row := statsCountsRow, standIns := [], harness := (true, "bcc9e8b7dc334d64fd9589acf3106db236224a15116b22b02a6c6f4ea0cf32f3"), looks := true }, kinds := [], alts := [], laidByText := true, laidKinds := [.data, .data, .data], laidTests := true, laidLooks := .later }
def StatsCountsCardSaid : Prop := Claim7.holds Tryz.pinned (.plain (OpenSpec.ofChange statsCountsSpec)) statsCountsCard

/-- THE TIED CARD OF 'freeholdlaw22.StatsAll'. -/
def statsAllCard : Claim7 := { stood := { row := statsAllRow, standIns := [], harness := (true, "bcc9e8b7dc334d64fd9589acf3106db236224a15116b22b02a6c6f4ea0cf32f3"), looks := true }, kinds := [], alts := [], laidByText := true, laidKinds := [.data, .data, .data], laidTests := true, laidLooks := .later }
def StatsAllCardSaid : Prop := Claim7.holds Tryz.pinned (.plain (OpenSpec.ofChange statsAllSpec)) statsAllCard

/-- THE TIED CARD OF 'freeholdlaw22.StatsSplit'. -/
def statsSplitCard : Claim7 := { stood := { row := statsSplitRow, standIns := [], harness := (true, "bcc9e8b7dc334d64fd9589acf3106db236224a15116b22b02a6c6f4ea0cf32f3"), looks := true }, kinds := [], alts := [], laidByText := true, laidKinds := [.data, .data, .data], laidTests := true, laidLooks := .later }
def StatsSplitCardSaid : Prop := Claim7.holds Tryz.pinned (.plain (OpenSpec.ofChange statsSplitSpec)) statsSplitCard

/-- THE SECOND FORM's CARD OF 'freeholdlaw22.StatsBounds'. -/
def statsBoundsUptoCard : Claim7 := { stood := { row := statsBoundsUptoRow, standIns := [], harness := (true, "bcc9e8b7dc334d64fd9589acf3106db236224a15116b22b02a6c6f4ea0cf32f3"), looks := true }, kinds := [], alts := [], laidByText := true, laidKinds := [.data, .data], laidTests := true, laidLooks := .later }
def StatsBoundsUptoCardSaid : Prop := Claim7.holds Tryz.pinned (.plain (OpenSpec.upto statsBoundsSpec)) statsBoundsUptoCard

/-- THE SECOND FORM's CARD OF 'freeholdlaw22.StatsBound'. -/
def statsBoundUptoCard : Claim7 := { stood := { row := statsBoundUptoRow, standIns := [], harness := (true, "bcc9e8b7dc334d64fd9589acf3106db236224a15116b22b02a6c6f4ea0cf32f3"), looks := true }, kinds := [], alts := [], laidByText := true, laidKinds := [.data, .data], laidTests := true, laidLooks := .later }
def StatsBoundUptoCardSaid : Prop := Claim7.holds Tryz.pinned (.plain (OpenSpec.upto statsBoundSpec)) statsBoundUptoCard

/-- THE SECOND FORM's CARD OF 'freeholdlaw22.StatsNone'. -/
def statsNoneUptoCard : Claim7 := { stood := { row := statsNoneUptoRow, standIns := [], harness := (true, "bcc9e8b7dc334d64fd9589acf3106db236224a15116b22b02a6c6f4ea0cf32f3"), looks := true }, kinds := [], alts := [], laidByText := true, laidKinds := [.data, .data], laidTests := true, laidLooks := .later }
def StatsNoneUptoCardSaid : Prop := Claim7.holds Tryz.pinned (.plain (OpenSpec.upto statsNoneSpec)) statsNoneUptoCard

/-- THE SECOND FORM's CARD OF 'freeholdlaw22.StatsGiven'. -/
def statsGivenUptoCard : Claim7 := { stood := { row := statsGivenUptoRow, standIns := [], harness := (true, "bcc9e8b7dc334d64fd9589acf3106db236224a15116b22b02a6c6f4ea0cf32f3"), looks := true }, kinds := [], alts := [], laidByText := true, laidKinds := [.data, .data, .data], laidTests := true, laidLooks := .later }
def StatsGivenUptoCardSaid : Prop := Claim7.holds Tryz.pinned (.plain (OpenSpec.upto statsGivenSpec)) statsGivenUptoCard

/-- THE SECOND FORM's CARD OF 'freeholdlaw22.StatsUsage'. -/
def statsUsageUptoCard : Claim7 := { stood := { row := statsUsageUptoRow, standIns := [], harness := (true, "bcc9e8b7dc334d64fd9589acf3106db236224a15116b22b02a6c6f4ea0cf32f3"), looks := true }, kinds := [], alts := [], laidByText := true, laidKinds := [.data, .data, .data], laidTests := true, laidLooks := .later }
def StatsUsageUptoCardSaid : Prop := Claim7.holds Tryz.pinned (.plain (OpenSpec.upto statsUsageSpec)) statsUsageUptoCard

/-- THE SECOND FORM's CARD OF 'freeholdlaw22.StatsWaste'. -/
def statsWasteUptoCard : Claim7 := { stood := { row := statsWasteUptoRow, standIns := [], harness := (true, "bcc9e8b7dc334d64fd9589acf3106db236224a15116b22b02a6c6f4ea0cf32f3"), looks := true }, kinds := [], alts := [], laidByText := true, laidKinds := [.data, .data, .data], laidTests := true, laidLooks := .later }
def StatsWasteUptoCardSaid : Prop := Claim7.holds Tryz.pinned (.plain (OpenSpec.upto statsWasteSpec)) statsWasteUptoCard

/-- THE SECOND FORM's CARD OF 'freeholdlaw22.StatsPeaks'. -/
def statsPeaksUptoCard : Claim7 := { stood := { row := statsPeaksUptoRow, standIns := [], harness := (true, "bcc9e8b7dc334d64fd9589acf3106db236224a15116b22b02a6c6f4ea0cf32f3"), looks := true }, kinds := [], alts := [], laidByText := true, laidKinds := [.data, .data, .data], laidTests := true, laidLooks := .later }
def StatsPeaksUptoCardSaid : Prop := Claim7.holds Tryz.pinned (.plain (OpenSpec.upto statsPeaksSpec)) statsPeaksUptoCard

/-- THE SECOND FORM's CARD OF 'freeholdlaw22.StatsCounts'. -/
def statsCountsUptoCard : Claim7 := { stood := { row := statsCountsUptoRow, standIns := [], harness := (true, "bcc9e8b7dc334d64fd9589acf3106db236224a15116b22b02a6c6f4ea0cf32f3"), looks := true }, kinds := [], alts := [], laidByText := true, laidKinds := [.data, .data, .data], laidTests := true, laidLooks := .later }
def StatsCountsUptoCardSaid : Prop := Claim7.holds Tryz.pinned (.plain (OpenSpec.upto statsCountsSpec)) statsCountsUptoCard

/-- THE SECOND FORM's CARD OF 'freeholdlaw22.StatsAll'. -/
def statsAllUptoCard : Claim7 := { stood := { row := statsAllUptoRow, standIns := [], harness := (true, "bcc9e8b7dc334d64fd9589acf3106db236224a15116b22b02a6c6f4ea0cf32f3"), looks := true }, kinds := [], alts := [], laidByText := true, laidKinds := [.data, .data, .data], laidTests := true, laidLooks := .later }
def StatsAllUptoCardSaid : Prop := Claim7.holds Tryz.pinned (.plain (OpenSpec.upto statsAllSpec)) statsAllUptoCard

/-- THE SECOND FORM's CARD OF 'freeholdlaw22.StatsSplit'. -/
def statsSplitUptoCard : Claim7 := { stood := { row := statsSplitUptoRow, standIns := [], harness := (true, "bcc9e8b7dc334d64fd9589acf3106db236224a15116b22b02a6c6f4ea0cf32f3"), looks := true }, kinds := [], alts := [], laidByText := true, laidKinds := [.data, .data, .data], laidTests := true, laidLooks := .later }
def StatsSplitUptoCardSaid : Prop := Claim7.holds Tryz.pinned (.plain (OpenSpec.upto statsSplitSpec)) statsSplitUptoCard
end Rows
end Go.Proofs.YtkabjcanamcbeaaGreatDoor
