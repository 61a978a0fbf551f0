/-
  DERIVED. GIVEN WITH THE SEED: THE CARDS: each row of YtoeidadjhkkioaaGreatDoorRows.lean that lists a variable, with what it lists TIED to the program's text (the seventh form; the later family's looks); each row that meets fmt, with fmt's text TOLD by the authors' own Lean function (tested against real Go, not proved from fmt's source: count such statements apart). THE CARD IS WHAT COUNTS. Prove the row's statement (the work); the ties are given (YtoeidadjhkkioaaGreatDoorTie.lean); close each card by the builder's one call (the guide's Derived/Test/ToyasCard.lean, 'card_holds'). Laid BY PROGRAM, IN A SANDBOX (cutbox-door.mjs). By AI agents, Wed Nov 11 2026. No macro, syntax, notation, axiom, sorry.
-/
import Derived.Test.YtoeidadjhkkioaaGreatDoorRows
import GoSem.ClaimSeven
namespace Go.Proofs.YtoeidadjhkkioaaGreatDoor
namespace Rows

/-- THE TIED CARD OF 'freeholdlaw13.QuarantineOrder'. -/
def quarantineOrderCard : Claim7 := { stood := { row := quarantineOrderRow, standIns := [], harness := (true, "bbede97abc681f2a3baaf53806aca2582ddebfc478fe2286f05b172e7aabbc95"), looks := true }, kinds := [], alts := [], laidByText := true, laidKinds := [.data, .data, .data], laidTests := true, laidLooks := .later }
def QuarantineOrderCardSaid : Prop := Claim7.holds Tryz.pinned (.plain (OpenSpec.ofChange quarantineOrderSpec)) quarantineOrderCard

/-- THE TIED CARD OF 'freeholdlaw13.QuarantineKept'. -/
def quarantineKeptCard : Claim7 := { stood := { row := quarantineKeptRow, standIns := [], harness := (true, "bbede97abc681f2a3baaf53806aca2582ddebfc478fe2286f05b172e7aabbc95"), looks := true }, kinds := [], alts := [], laidByText := true, laidKinds := [.data, .data, .data], laidTests := true, laidLooks := .later }
def QuarantineKeptCardSaid : Prop := Claim7.holds Tryz.pinned (.plain (OpenSpec.ofChange quarantineKeptSpec)) quarantineKeptCard

/-- THE TIED CARD OF 'freeholdlaw13.QuarantineLimits'. -/
def quarantineLimitsCard : Claim7 := { stood := { row := quarantineLimitsRow, standIns := [], harness := (true, "bbede97abc681f2a3baaf53806aca2582ddebfc478fe2286f05b172e7aabbc95"), looks := true }, kinds := [], alts := [], laidByText := true, laidKinds := [.data, .data, .data], laidTests := true, laidLooks := .later }
def QuarantineLimitsCardSaid : Prop := Claim7.holds Tryz.pinned (.plain (OpenSpec.ofChange quarantineLimitsSpec)) quarantineLimitsCard

/-- THE TIED CARD OF 'freeholdlaw13.QuarantineUsed'. -/
def quarantineUsedCard : Claim7 := { stood := { row := quarantineUsedRow, standIns := [], harness := (true, "bbede97abc681f2a3baaf53806aca2582ddebfc478fe2286f05b172e7aabbc95"), looks := true }, kinds := [], alts := [], laidByText := true, laidKinds := [.data, .data, .data], laidTests := true, laidLooks := .later }
def QuarantineUsedCardSaid : Prop := Claim7.holds Tryz.pinned (.plain (OpenSpec.ofChange quarantineUsedSpec)) quarantineUsedCard

/-- THE TIED CARD OF 'freeholdlaw13.QuarantineClean'. -/
def quarantineCleanCard : Claim7 := { stood := { row := quarantineCleanRow, standIns := [], harness := (true, "bbede97abc681f2a3baaf53806aca2582ddebfc478fe2286f05b172e7aabbc95"), looks := true }, kinds := [], alts := [], laidByText := true, laidKinds := [.data, .data, .data], laidTests := true, laidLooks := .later }
def QuarantineCleanCardSaid : Prop := Claim7.holds Tryz.pinned (.plain (OpenSpec.ofChange quarantineCleanSpec)) quarantineCleanCard

/-- THE TIED CARD OF 'freeholdlaw13.QuarantineAll'. -/
def quarantineAllCard : Claim7 := { stood := { row := quarantineAllRow, standIns := [], harness := (true, "bbede97abc681f2a3baaf53806aca2582ddebfc478fe2286f05b172e7aabbc95"), looks := true }, kinds := [], alts := [], laidByText := true, laidKinds := [.data, .data, .data], laidTests := true, laidLooks := .later }
def QuarantineAllCardSaid : Prop := Claim7.holds Tryz.pinned (.plain (OpenSpec.ofChange quarantineAllSpec)) quarantineAllCard

/-- THE TIED CARD OF 'freeholdlaw13.QuarantineNone'. -/
def quarantineNoneCard : Claim7 := { stood := { row := quarantineNoneRow, standIns := [], harness := (true, "bbede97abc681f2a3baaf53806aca2582ddebfc478fe2286f05b172e7aabbc95"), looks := true }, kinds := [], alts := [], laidByText := true, laidKinds := [.data, .data, .data], laidTests := true, laidLooks := .later }
def QuarantineNoneCardSaid : Prop := Claim7.holds Tryz.pinned (.plain (OpenSpec.ofChange quarantineNoneSpec)) quarantineNoneCard

/-- THE TIED CARD OF 'freeholdlaw13.QuarantineClones'. -/
def quarantineClonesCard : Claim7 := { stood := { row := quarantineClonesRow, standIns := [], harness := (true, "bbede97abc681f2a3baaf53806aca2582ddebfc478fe2286f05b172e7aabbc95"), looks := true }, kinds := [], alts := [], laidByText := true, laidKinds := [.data, .data, .data], laidTests := true, laidLooks := .later }
def QuarantineClonesCardSaid : Prop := Claim7.holds Tryz.pinned (.plain (OpenSpec.ofChange quarantineClonesSpec)) quarantineClonesCard

/-- THE TIED CARD OF 'freeholdlaw13.QuarantineRefuses'. -/
def quarantineRefusesCard : Claim7 := { stood := { row := quarantineRefusesRow, standIns := [], harness := (true, "bbede97abc681f2a3baaf53806aca2582ddebfc478fe2286f05b172e7aabbc95"), looks := true }, kinds := [], alts := [], laidByText := true, laidKinds := [.data, .data, .data], laidTests := true, laidLooks := .later }
def QuarantineRefusesCardSaid : Prop := Claim7.holds Tryz.pinned (.plain (OpenSpec.ofChange quarantineRefusesSpec)) quarantineRefusesCard

/-- THE TIED CARD OF 'freeholdlaw12.GuardClones'. -/
def guardClonesCard : Claim7 := { stood := { row := guardClonesRow, standIns := [], harness := (true, "bbede97abc681f2a3baaf53806aca2582ddebfc478fe2286f05b172e7aabbc95"), looks := true }, kinds := [], alts := [], laidByText := true, laidKinds := [.data, .data, .data], laidTests := true, laidLooks := .later }
def GuardClonesCardSaid : Prop := Claim7.holds Tryz.pinned (.plain (OpenSpec.ofChange guardClonesSpec)) guardClonesCard

/-- THE SECOND FORM's CARD OF 'freeholdlaw13.QuarantineOrder'. -/
def quarantineOrderUptoCard : Claim7 := { stood := { row := quarantineOrderUptoRow, standIns := [], harness := (true, "bbede97abc681f2a3baaf53806aca2582ddebfc478fe2286f05b172e7aabbc95"), looks := true }, kinds := [], alts := [], laidByText := true, laidKinds := [.data, .data, .data], laidTests := true, laidLooks := .later }
def QuarantineOrderUptoCardSaid : Prop := Claim7.holds Tryz.pinned (.plain (OpenSpec.upto quarantineOrderSpec)) quarantineOrderUptoCard

/-- THE SECOND FORM's CARD OF 'freeholdlaw13.QuarantineKept'. -/
def quarantineKeptUptoCard : Claim7 := { stood := { row := quarantineKeptUptoRow, standIns := [], harness := (true, "bbede97abc681f2a3baaf53806aca2582ddebfc478fe2286f05b172e7aabbc95"), looks := true }, kinds := [], alts := [], laidByText := true, laidKinds := [.data, .data, .data], laidTests := true, laidLooks := .later }
def QuarantineKeptUptoCardSaid : Prop := Claim7.holds Tryz.pinned (.plain (OpenSpec.upto quarantineKeptSpec)) quarantineKeptUptoCard

/-- THE SECOND FORM's CARD OF 'freeholdlaw13.QuarantineLimits'. -/
def quarantineLimitsUptoCard : Claim7 := { stood := { row := quarantineLimitsUptoRow, standIns := [], harness := (true, "bbede97abc681f2a3baaf53806aca2582ddebfc478fe2286f05b172e7aabbc95"), looks := true }, kinds := [], alts := [], laidByText := true, laidKinds := [.data, .data, .data], laidTests := true, laidLooks := .later }
def QuarantineLimitsUptoCardSaid : Prop := Claim7.holds Tryz.pinned (.plain (OpenSpec.upto quarantineLimitsSpec)) quarantineLimitsUptoCard

/-- THE SECOND FORM's CARD OF 'freeholdlaw13.QuarantineUsed'. -/
def quarantineUsedUptoCard : Claim7 := { stood := { row := quarantineUsedUptoRow, standIns := [], harness := (true, "bbede97abc681f2a3baaf53806aca2582ddebfc478fe2286f05b172e7aabbc95"), looks := true }, kinds := [], alts := [], laidByText := true, laidKinds := [.data, .data, .data], laidTests := true, laidLooks := .later }
def QuarantineUsedUptoCardSaid : Prop := Claim7.holds Tryz.pinned (.plain (OpenSpec.upto quarantineUsedSpec)) quarantineUsedUptoCard

/-- THE SECOND FORM's CARD OF 'freeholdlaw13.QuarantineClean'. -/
def quarantineCleanUptoCard : Claim7 := { stood := { row := quarantineCleanUptoRow, standIns := [], harness := (true, "bbede97abc681f2a3baaf53806aca2582ddebfc478fe2286f05b172e7aabbc95"), looks := true }, kinds := [], alts := [], laidByText := true, laidKinds := [.data, .data, .data], laidTests := true, laidLooks := .later }
def QuarantineCleanUptoCardSaid : Prop := Claim7.holds Tryz.pinned (.plain (OpenSpec.upto quarantineCleanSpec)) quarantineCleanUptoCard

/-- THE SECOND FORM's CARD OF 'freeholdlaw13.QuarantineAll'. -/
def quarantineAllUptoCard : Claim7 := { stood := { row := quarantineAllUptoRow, standIns := [], harness := (true, "bbede97abc681f2a3baaf53806aca2582ddebfc478fe2286f05b172e7aabbc95"), looks := true }, kinds := [], alts := [], laidByText := true, laidKinds := [.data, .data, .data], laidTests := true, laidLooks := .later }
def QuarantineAllUptoCardSaid : Prop := Claim7.holds Tryz.pinned (.plain (OpenSpec.upto quarantineAllSpec)) quarantineAllUptoCard

/-- THE SECOND FORM's CARD OF 'freeholdlaw13.QuarantineNone'. -/
def quarantineNoneUptoCard : Claim7 := { stood := { row := quarantineNoneUptoRow, standIns := [], harness := (true, "bbede97abc681f2a3baaf53806aca2582ddebfc478fe2286f05b172e7aabbc95"), looks := true }, kinds := [], alts := [], laidByText := true, laidKinds := [.data, .data, .data], laidTests := true, laidLooks := .later }
def QuarantineNoneUptoCardSaid : Prop := Claim7.holds Tryz.pinned (.plain (OpenSpec.upto quarantineNoneSpec)) quarantineNoneUptoCard

/-- THE SECOND FORM's CARD OF 'freeholdlaw13.QuarantineClones'. -/
def quarantineClonesUptoCard : Claim7 := { stood := { row := quarantineClonesUptoRow, standIns := [], harness := (true, "bbede97abc681f2a3baaf53806aca2582ddebfc478fe2286f05b172e7aabbc95"), looks := true }, kinds := [], alts := [], laidByText := true, laidKinds := [.data, .data, .data], laidTests := true, laidLooks := .later }
def QuarantineClonesUptoCardSaid : Prop := Claim7.holds Tryz.pinned (.plain (OpenSpec.upto quarantineClonesSpec)) quarantineClonesUptoCard

/-- THE SECOND FORM's CARD OF 'freeholdlaw13.QuarantineRefuses'. -/
def quarantineRefusesUptoCard : Claim7 := { stood := { row := quarantineRefusesUptoRow, standIns := [], harness := (true, "bbede97abc681f2a3baaf53806aca2582ddebfc478fe2286f05b172e7aabbc95"), looks := true }, kinds := [], alts := [], laidByText := true, laidKinds := [.data, .data, .data], laidTests := true, laidLooks := .later }
def QuarantineRefusesUptoCardSaid : Prop := Claim7.holds Tryz.pinned (.plain (OpenSpec.upto quarantineRefusesSpec)) quarantineRefusesUptoCard

/-- THE SECOND FORM's CARD OF 'freeholdlaw12.GuardClones'. -/
def guardClonesUptoCard : Claim7 := { stood := { row := guardClonesUptoRow, standIns := [], harness := (true, "bbede97abc681f2a3baaf53806aca2582ddebfc478fe2286f05b172e7aabbc95"), looks := true }, kinds := [], alts := [], laidByText := true, laidKinds := [.data, .data, .data], laidTests := true, laidLooks := .later }
def GuardClonesUptoCardSaid : Prop := Claim7.holds Tryz.pinned (.plain (OpenSpec.upto guardClonesSpec)) guardClonesUptoCard
end Rows
end Go.Proofs.YtoeidadjhkkioaaGreatDoor
