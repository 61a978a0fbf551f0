/-
  DERIVED. GIVEN WITH THE SEED: THE CARDS: each row of YtaikomcgmhaekaaGreatDoorRows.lean that lists a variable, with what it lists TIED to the program's text (the seventh form; the later family's looks); each row that meets fmt, with fmt's text TOLD by the authors' own Lean function (tested against real Go, not proved from fmt's source: count such statements apart). THE CARD IS WHAT COUNTS. Prove the row's statement (the work); the ties are given (YtaikomcgmhaekaaGreatDoorTie.lean); close each card by the builder's one call (the guide's Derived/Test/ToyasCard.lean, 'card_holds'). Laid BY PROGRAM, IN A SANDBOX (cutbox-door.mjs). By AI agents, Wed Nov 11 2026. No macro, syntax, notation, axiom, sorry.
-/
import Derived.Test.YtaikomcgmhaekaaGreatDoorRows
import GoSem.ClaimSeven
namespace Go.Proofs.YtaikomcgmhaekaaGreatDoor
namespace Rows

/-- THE TIED CARD OF 'freeholdlaw16.ResizeMany'. -/
def resizeManyCard : Claim7 := { stood := { row := resizeManyRow, standIns := [], harness := (true, "53b554f7b1807e8eb2b7c1b0311d11d62e61d214c66ff2edc6db7e6f0dbbb702"), looks := true }, kinds := [], alts := [], laidByText := true, laidKinds := [.data, .data, .data], laidTests := true, laidLooks := .later }
def ResizeManyCardSaid : Prop := Claim7.holds Tryz.pinned (.plain (OpenSpec.ofChange resizeManySpec)) resizeManyCard

/-- THE TIED CARD OF 'freeholdlaw16.ResizeNothing'. -/
def resizeNothingCard : Claim7 := { stood := { row := resizeNothingRow, standIns := [], harness := (true, "53b554f7b1807e8eb2b7c1b0311d11d62e61d214c66ff2edc6db7e6f0dbbb702"), looks := true }, kinds := [], alts := [], laidByText := true, laidKinds := [.data, .data, .data], laidTests := true, laidLooks := .later }
def ResizeNothingCardSaid : Prop := Claim7.holds Tryz.pinned (.plain (OpenSpec.ofChange resizeNothingSpec)) resizeNothingCard

/-- THE TIED CARD OF 'freeholdlaw16.ResizeMoves'. -/
def resizeMovesCard : Claim7 := { stood := { row := resizeMovesRow, standIns := [], harness := (true, "53b554f7b1807e8eb2b7c1b0311d11d62e61d214c66ff2edc6db7e6f0dbbb702"), looks := true }, kinds := [], alts := [], laidByText := true, laidKinds := [.data, .data, .data], laidTests := true, laidLooks := .later }
def ResizeMovesCardSaid : Prop := Claim7.holds Tryz.pinned (.plain (OpenSpec.ofChange resizeMovesSpec)) resizeMovesCard

/-- THE SECOND FORM's CARD OF 'freeholdlaw16.ResizeMany'. -/
def resizeManyUptoCard : Claim7 := { stood := { row := resizeManyUptoRow, standIns := [], harness := (true, "53b554f7b1807e8eb2b7c1b0311d11d62e61d214c66ff2edc6db7e6f0dbbb702"), looks := true }, kinds := [], alts := [], laidByText := true, laidKinds := [.data, .data, .data], laidTests := true, laidLooks := .later }
def ResizeManyUptoCardSaid : Prop := Claim7.holds Tryz.pinned (.plain (OpenSpec.upto resizeManySpec)) resizeManyUptoCard

/-- THE SECOND FORM's CARD OF 'freeholdlaw16.ResizeNothing'. -/
def resizeNothingUptoCard : Claim7 := { stood := { row := resizeNothingUptoRow, standIns := [], harness := (true, "53b554f7b1807e8eb2b7c1b0311d11d62e61d214c66ff2edc6db7e6f0dbbb702"), looks := true }, kinds := [], alts := [], laidByText := true, laidKinds := [.data, .data, .data], laidTests := true, laidLooks := .later }
def ResizeNothingUptoCardSaid : Prop := Claim7.holds Tryz.pinned (.plain (OpenSpec.upto resizeNothingSpec)) resizeNothingUptoCard

/-- THE SECOND FORM's CARD OF 'freeholdlaw16.ResizeMoves'. -/
def resizeMovesUptoCard : Claim7 := { stood := { row := resizeMovesUptoRow, standIns := [], harness := (true, "53b554f7b1807e8eb2b7c1b0311d11d62e61d214c66ff2edc6db7e6f0dbbb702"), looks := true }, kinds := [], alts := [], laidByText := true, laidKinds := [.data, .data, .data], laidTests := true, laidLooks := .later }
def ResizeMovesUptoCardSaid : Prop := Claim7.holds Tryz.pinned (.plain (OpenSpec.upto resizeMovesSpec)) resizeMovesUptoCard
end Rows
end Go.Proofs.YtaikomcgmhaekaaGreatDoor
