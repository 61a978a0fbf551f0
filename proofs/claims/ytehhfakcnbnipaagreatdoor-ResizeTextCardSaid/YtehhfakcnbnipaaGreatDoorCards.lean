/-
  DERIVED. GIVEN WITH THE SEED: THE CARDS: each row of YtehhfakcnbnipaaGreatDoorRows.lean that lists a variable, with what it lists TIED to the program's text (the seventh form; the later family's looks); each row that meets fmt, with fmt's text TOLD by the authors' own Lean function (tested against real Go, not proved from fmt's source: count such statements apart). THE CARD IS WHAT COUNTS. Prove the row's statement (the work); the ties are given (YtehhfakcnbnipaaGreatDoorTie.lean); close each card by the builder's one call (the guide's Derived/Test/ToyasCard.lean, 'card_holds'). Laid BY PROGRAM, IN A SANDBOX (cutbox-door.mjs). By AI agents, Wed Nov 11 2026. No macro, syntax, notation, axiom, sorry.
-/
import Derived.Test.YtehhfakcnbnipaaGreatDoorRows
import GoSem.ClaimSeven
namespace Go.Proofs.YtehhfakcnbnipaaGreatDoor
namespace Rows

/-- THE TIED CARD OF 'freeholdlaw16.ResizeNone'. -/
def resizeNoneCard : Claim7 := { stood := { row := resizeNoneRow, standIns := [], harness := (true, "63850df2994f27f5a3ace9533e86eca3b31972c4f358253999b72d13bbff30fd"), looks := true }, kinds := [], alts := [], laidByText := true, laidKinds := [.data, .data, .data], laidTests := true, laidLooks := .later }
def ResizeNoneCardSaid : Prop := Claim7.holds Tryz.pinned (.plain (OpenSpec.ofChange resizeNoneSpec)) resizeNoneCard

/-- THE TIED CARD OF 'freeholdlaw16.ResizeText'. -/
def resizeTextCard : Claim7 := { stood := { row := resizeTextRow, standIns := [], harness := (true, "63850df2994f27f5a3ace9533e86eca3b31972c4f358253999b72d13bbff30fd"), looks := true }, kinds := [], alts := [], laidByText := true, laidKinds := [.data, .data, .data], laidTests := true, laidLooks := .later }
def ResizeTextCardSaid : Prop := Claim7.holds Tryz.pinned (.plain (OpenSpec.ofChange resizeTextSpec)) resizeTextCard

/-- THE TIED CARD OF 'freeholdlaw16.ResizeGood'. -/
def resizeGoodCard : Claim7 := { stood := { row := resizeGoodRow, standIns := [], harness := (true, "63850df2994f27f5a3ace9533e86eca3b31972c4f358253999b72d13bbff30fd"), looks := true }, kinds := [], alts := [], laidByText := true, laidKinds := [.data, .data, .data], laidTests := true, laidLooks := .later }
def ResizeGoodCardSaid : Prop := Claim7.holds Tryz.pinned (.plain (OpenSpec.ofChange resizeGoodSpec)) resizeGoodCard

/-- THE TIED CARD OF 'freeholdlaw16.ResizeZero'. -/
def resizeZeroCard : Claim7 := { stood := { row := resizeZeroRow, standIns := [], harness := (true, "63850df2994f27f5a3ace9533e86eca3b31972c4f358253999b72d13bbff30fd"), looks := true }, kinds := [], alts := [], laidByText := true, laidKinds := [.data, .data, .data], laidTests := true, laidLooks := .later }
def ResizeZeroCardSaid : Prop := Claim7.holds Tryz.pinned (.plain (OpenSpec.ofChange resizeZeroSpec)) resizeZeroCard

/-- THE TIED CARD OF 'freeholdlaw16.ResizeContents'. -/
def resizeContentsCard : Claim7 := { stood := { row := resizeContentsRow, standIns := [], harness := (true, "63850df2994f27f5a3ace9533e86eca3b31972c4f358253999b72d13bbff30fd"), looks := true }, kinds := [], alts := [], laidByText := true, laidKinds := [.data, .data, .data], laidTests := true, laidLooks := .later }
def ResizeContentsCardSaid : Prop := Claim7.holds Tryz.pinned (.plain (OpenSpec.ofChange resizeContentsSpec)) resizeContentsCard

/-- THE TIED CARD OF 'freeholdlaw16.ResizeMany'. -/
def resizeManyCard : Claim7 := { stood := { row := resizeManyRow, standIns := [], harness := (true, "63850df2994f27f5a3ace9533e86eca3b31972c4f358253999b72d13bbff30fd"), looks := true }, kinds := [], alts := [], laidByText := true, laidKinds := [.data, .data, .data], laidTests := true, laidLooks := .later }
def ResizeManyCardSaid : Prop := Claim7.holds Tryz.pinned (.plain (OpenSpec.ofChange resizeManySpec)) resizeManyCard

/-- THE TIED CARD OF 'freeholdlaw16.ResizeNothing'. -/
def resizeNothingCard : Claim7 := { stood := { row := resizeNothingRow, standIns := [], harness := (true, "63850df2994f27f5a3ace9533e86eca3b31972c4f358253999b72d13bbff30fd"), looks := true }, kinds := [], alts := [], laidByText := true, laidKinds := [.data, .data, .data], laidTests := true, laidLooks := .later }
def ResizeNothingCardSaid : Prop := Claim7.holds Tryz.pinned (.plain (OpenSpec.ofChange resizeNothingSpec)) resizeNothingCard

/-- THE TIED CARD OF 'freeholdlaw16.ResizeMoves'. -/
def resizeMovesCard : Claim7 := { stood := { row := resizeMovesRow, standIns := [], harness := (true, "63850df2994f27f5a3ace9533e86eca3b31972c4f358253999b72d13bbff30fd"), looks := true }, kinds := [], alts := [], laidByText := true, laidKinds := [.data, .data, .data], laidTests := true, laidLooks := .later }
def ResizeMovesCardSaid : Prop := Claim7.holds Tryz.pinned (.plain (OpenSpec.ofChange resizeMovesSpec)) resizeMovesCard

/-- THE SECOND FORM's CARD OF 'freeholdlaw16.ResizeNone'. -/
def resizeNoneUptoCard : Claim7 := { stood := { row := resizeNoneUptoRow, standIns := [], harness := (true, "63850df2994f27f5a3ace9533e86eca3b31972c4f358253999b72d13bbff30fd"), looks := true }, kinds := [], alts := [], laidByText := true, laidKinds := [.data, .data, .data], laidTests := true, laidLooks := .later }
def ResizeNoneUptoCardSaid : Prop := Claim7.holds Tryz.pinned (.plain (OpenSpec.upto resizeNoneSpec)) resizeNoneUptoCard

/-- THE SECOND FORM's CARD OF 'freeholdlaw16.ResizeText'. -/
def resizeTextUptoCard : Claim7 := { stood := { row := resizeTextUptoRow, standIns := [], harness := (true, "63850df2994f27f5a3ace9533e86eca3b31972c4f358253999b72d13bbff30fd"), looks := true }, kinds := [], alts := [], laidByText := true, laidKinds := [.data, .data, .data], laidTests := true, laidLooks := .later }
def ResizeTextUptoCardSaid : Prop := Claim7.holds Tryz.pinned (.plain (OpenSpec.upto resizeTextSpec)) resizeTextUptoCard

/-- THE SECOND FORM's CARD OF 'freeholdlaw16.ResizeGood'. -/
def resizeGoodUptoCard : Claim7 := { stood := { row := resizeGoodUptoRow, standIns := [], harness := (true, "63850df2994f27f5a3ace9533e86eca3b31972c4f358253999b72d13bbff30fd"), looks := true }, kinds := [], alts := [], laidByText := true, laidKinds := [.data, .data, .data], laidTests := true, laidLooks := .later }
def ResizeGoodUptoCardSaid : Prop := Claim7.holds Tryz.pinned (.plain (OpenSpec.upto resizeGoodSpec)) resizeGoodUptoCard

/-- THE SECOND FORM's CARD OF 'freeholdlaw16.ResizeZero'. -/
def resizeZeroUptoCard : Claim7 := { stood := { row := resizeZeroUptoRow, standIns := [], harness := (true, "63850df2994f27f5a3ace9533e86eca3b31972c4f358253999b72d13bbff30fd"), looks := true }, kinds := [], alts := [], laidByText := true, laidKinds := [.data, .data, .data], laidTests := true, laidLooks := .later }
def ResizeZeroUptoCardSaid : Prop := Claim7.holds Tryz.pinned (.plain (OpenSpec.upto resizeZeroSpec)) resizeZeroUptoCard

/-- THE SECOND FORM's CARD OF 'freeholdlaw16.ResizeContents'. -/
def resizeContentsUptoCard : Claim7 := { stood := { row := resizeContentsUptoRow, standIns := [], harness := (true, "63850df2994f27f5a3ace9533e86eca3b31972c4f358253999b72d13bbff30fd"), looks := true }, kinds := [], alts := [], laidByText := true, laidKinds := [.data, .data, .data], laidTests := true, laidLooks := .later }
def ResizeContentsUptoCardSaid : Prop := Claim7.holds Tryz.pinned (.plain (OpenSpec.upto resizeContentsSpec)) resizeContentsUptoCard

/-- THE SECOND FORM's CARD OF 'freeholdlaw16.ResizeMany'. -/
def resizeManyUptoCard : Claim7 := { stood := { row := resizeManyUptoRow, standIns := [], harness := (true, "63850df2994f27f5a3ace9533e86eca3b31972c4f358253999b72d13bbff30fd"), looks := true }, kinds := [], alts := [], laidByText := true, laidKinds := [.data, .data, .data], laidTests := true, laidLooks := .later }
def ResizeManyUptoCardSaid : Prop := Claim7.holds Tryz.pinned (.plain (OpenSpec.upto resizeManySpec)) resizeManyUptoCard

/-- THE SECOND FORM's CARD OF 'freeholdlaw16.ResizeNothing'. -/
def resizeNothingUptoCard : Claim7 := { stood := { row := resizeNothingUptoRow, standIns := [], harness := (true, "63850df2994f27f5a3ace9533e86eca3b31972c4f358253999b72d13bbff30fd"), looks := true }, kinds := [], alts := [], laidByText := true, laidKinds := [.data, .data, .data], laidTests := true, laidLooks := .later }
def ResizeNothingUptoCardSaid : Prop := Claim7.holds Tryz.pinned (.plain (OpenSpec.upto resizeNothingSpec)) resizeNothingUptoCard

/-- THE SECOND FORM's CARD OF 'freeholdlaw16.ResizeMoves'. -/
def resizeMovesUptoCard : Claim7 := { stood := { row := resizeMovesUptoRow, standIns := [], harness := (true, "63850df2994f27f5a3ace9533e86eca3b31972c4f358253999b72d13bbff30fd"), looks := true }, kinds := [], alts := [], laidByText := true, laidKinds := [.data, .data, .data], laidTests := true, laidLooks := .later }
def ResizeMovesUptoCardSaid : Prop := Claim7.holds Tryz.pinned (.plain (OpenSpec.upto resizeMovesSpec)) resizeMovesUptoCard
end Rows
end Go.Proofs.YtehhfakcnbnipaaGreatDoor
