/-
  DERIVED. GIVEN WITH THE SEED: THE CARDS: each row of YteihenagckcobaaGreatDoorRows.lean that lists a variable, with what it lists TIED to the program's text (the seventh form; the later family's looks); each row that meets fmt, with fmt's text TOLD by the authors' own Lean function (tested against real Go, not proved from fmt's source: count such statements apart). THE CARD IS WHAT COUNTS. Prove the row's statement (the work); the ties are given (YteihenagckcobaaGreatDoorTie.lean); close each card by the builder's one call (the guide's Derived/Test/ToyasCard.lean, 'card_holds'). Laid BY PROGRAM, IN A SANDBOX (cutbox-door.mjs). By AI agents, Wed Nov 11 2026. No macro, syntax, notation, axiom, sorry.
-/
import Derived.Test.YteihenagckcobaaGreatDoorRows
import GoSem.ClaimSeven
namespace Go.Proofs.YteihenagckcobaaGreatDoor
namespace Rows

/-- THE TIED CARD OF 'freeholdlaw12.GuardFresh'. -/
def guardFreshCard : Claim7 := { stood := { row := guardFreshRow, standIns := [], harness := (true, "e04df451af9ec8b4d45784807a5c68b35ff228befb979974037502efef3f57d0"), looks := true }, kinds := [], alts := [], laidByText := true, laidKinds := [.data, .data, .data], laidTests := true, laidLooks := .later }
def GuardFreshCardSaid : Prop := Claim7.holds Tryz.pinned (.plain (OpenSpec.ofChange guardFreshSpec)) guardFreshCard

/-- THE TIED CARD OF 'freeholdlaw12.GuardInside'. -/
def guardInsideCard : Claim7 := { stood := { row := guardInsideRow, standIns := [], harness := (true, "e04df451af9ec8b4d45784807a5c68b35ff228befb979974037502efef3f57d0"), looks := true }, kinds := [], alts := [], laidByText := true, laidKinds := [.data, .data, .data], laidTests := true, laidLooks := .later }
def GuardInsideCardSaid : Prop := Claim7.holds Tryz.pinned (.plain (OpenSpec.ofChange guardInsideSpec)) guardInsideCard

/-- THE TIED CARD OF 'freeholdlaw12.GuardFinds'. -/
def guardFindsCard : Claim7 := { stood := { row := guardFindsRow, standIns := [], harness := (true, "e04df451af9ec8b4d45784807a5c68b35ff228befb979974037502efef3f57d0"), looks := true }, kinds := [], alts := [], laidByText := true, laidKinds := [.data, .data, .data], laidTests := true, laidLooks := .later }
def GuardFindsCardSaid : Prop := Claim7.holds Tryz.pinned (.plain (OpenSpec.ofChange guardFindsSpec)) guardFindsCard

/-- THE TIED CARD OF 'freeholdlaw12.GuardApart'. -/
def guardApartCard : Claim7 := { stood := { row := guardApartRow, standIns := [], harness := (true, "e04df451af9ec8b4d45784807a5c68b35ff228befb979974037502efef3f57d0"), looks := true }, kinds := [], alts := [], laidByText := true, laidKinds := [.data, .data, .data], laidTests := true, laidLooks := .later }
def GuardApartCardSaid : Prop := Claim7.holds Tryz.pinned (.plain (OpenSpec.ofChange guardApartSpec)) guardApartCard

/-- THE TIED CARD OF 'freeholdlaw12.GuardCaught'. -/
def guardCaughtCard : Claim7 := { stood := { row := guardCaughtRow, standIns := [], harness := (true, "e04df451af9ec8b4d45784807a5c68b35ff228befb979974037502efef3f57d0"), looks := true }, kinds := [], alts := [], laidByText := true, laidKinds := [.data, .data, .data], laidTests := true, laidLooks := .later }
def GuardCaughtCardSaid : Prop := Claim7.holds Tryz.pinned (.plain (OpenSpec.ofChange guardCaughtSpec)) guardCaughtCard

/-- THE TIED CARD OF 'freeholdlaw12.GuardFrees'. -/
def guardFreesCard : Claim7 := { stood := { row := guardFreesRow, standIns := [], harness := (true, "e04df451af9ec8b4d45784807a5c68b35ff228befb979974037502efef3f57d0"), looks := true }, kinds := [], alts := [], laidByText := true, laidKinds := [.data, .data, .data], laidTests := true, laidLooks := .later }
def GuardFreesCardSaid : Prop := Claim7.holds Tryz.pinned (.plain (OpenSpec.ofChange guardFreesSpec)) guardFreesCard

/-- THE TIED CARD OF 'freeholdlaw12.GuardNone'. -/
def guardNoneCard : Claim7 := { stood := { row := guardNoneRow, standIns := [], harness := (true, "e04df451af9ec8b4d45784807a5c68b35ff228befb979974037502efef3f57d0"), looks := true }, kinds := [], alts := [], laidByText := true, laidKinds := [.data, .data, .data], laidTests := true, laidLooks := .later }
def GuardNoneCardSaid : Prop := Claim7.holds Tryz.pinned (.plain (OpenSpec.ofChange guardNoneSpec)) guardNoneCard

/-- THE TIED CARD OF 'freeholdlaw12.GuardRefuses'. -/
def guardRefusesCard : Claim7 := { stood := { row := guardRefusesRow, standIns := [], harness := (true, "e04df451af9ec8b4d45784807a5c68b35ff228befb979974037502efef3f57d0"), looks := true }, kinds := [], alts := [], laidByText := true, laidKinds := [.data, .data, .data], laidTests := true, laidLooks := .later }
def GuardRefusesCardSaid : Prop := Claim7.holds Tryz.pinned (.plain (OpenSpec.ofChange guardRefusesSpec)) guardRefusesCard

/-- THE SECOND FORM's CARD OF 'freeholdlaw12.GuardFresh'. -/
def guardFreshUptoCard : Claim7 := { stood := { row := guardFreshUptoRow, standIns := [], harness := (true, "e04df451af9ec8b4d45784807a5c68b35ff228befb979974037502efef3f57d0"), looks := true }, kinds := [], alts := [], laidByText := true, laidKinds := [.data, .data, .data], laidTests := true, laidLooks := .later }
def GuardFreshUptoCardSaid : Prop := Claim7.holds Tryz.pinned (.plain (OpenSpec.upto guardFreshSpec)) guardFreshUptoCard

/-- THE SECOND FORM's CARD OF 'freeholdlaw12.GuardInside'. -/
def guardInsideUptoCard : Claim7 := { stood := { row := guardInsideUptoRow, standIns := [], harness := (true, "e04df451af9ec8b4d45784807a5c68b35ff228befb979974037502efef3f57d0"), looks := true }, kinds := [], alts := [], laidByText := true, laidKinds := [.data, .data, .data], laidTests := true, laidLooks := .later }
def GuardInsideUptoCardSaid : Prop := Claim7.holds Tryz.pinned (.plain (OpenSpec.upto guardInsideSpec)) guardInsideUptoCard

/-- THE SECOND FORM's CARD OF 'freeholdlaw12.GuardFinds'. -/
def guardFindsUptoCard : Claim7 := { stood := { row := guardFindsUptoRow, standIns := [], harness := (true, "e04df451af9ec8b4d45784807a5c68b35ff228befb979974037502efef3f57d0"), looks := true }, kinds := [], alts := [], laidByText := true, laidKinds := [.data, .data, .data], laidTests := true, laidLooks := .later }
def GuardFindsUptoCardSaid : Prop := Claim7.holds Tryz.pinned (.plain (OpenSpec.upto guardFindsSpec)) guardFindsUptoCard

/-- THE SECOND FORM's CARD OF 'freeholdlaw12.GuardApart'. -/
def guardApartUptoCard : Claim7 := { stood := { row := guardApartUptoRow, standIns := [], harness := (true, "e04df451af9ec8b4d45784807a5c68b35ff228befb979974037502efef3f57d0"), looks := true }, kinds := [], alts := [], laidByText := true, laidKinds := [.data, .data, .data], laidTests := true, laidLooks := .later }
def GuardApartUptoCardSaid : Prop := Claim7.holds Tryz.pinned (.plain (OpenSpec.upto guardApartSpec)) guardApartUptoCard

/-- THE SECOND FORM's CARD OF 'freeholdlaw12.GuardCaught'. -/
def guardCaughtUptoCard : Claim7 := { stood := { row := guardCaughtUptoRow, standIns := [], harness := (true, "e04df451af9ec8b4d45784807a5c68b35ff228befb979974037502efef3f57d0"), looks := true }, kinds := [], alts := [], laidByText := true, laidKinds := [.data, .data, .data], laidTests := true, laidLooks := .later }
def GuardCaughtUptoCardSaid : Prop := Claim7.holds Tryz.pinned (.plain (OpenSpec.upto guardCaughtSpec)) guardCaughtUptoCard

/-- THE SECOND FORM's CARD OF 'freeholdlaw12.GuardFrees'. -/
def guardFreesUptoCard : Claim7 := { stood := { row := guardFreesUptoRow, standIns := [], harness := (true, "e04df451af9ec8b4d45784807a5c68b35ff228befb979974037502efef3f57d0"), looks := true }, kinds := [], alts := [], laidByText := true, laidKinds := [.data, .data, .data], laidTests := true, laidLooks := .later }
def GuardFreesUptoCardSaid : Prop := Claim7.holds Tryz.pinned (.plain (OpenSpec.upto guardFreesSpec)) guardFreesUptoCard

/-- THE SECOND FORM's CARD OF 'freeholdlaw12.GuardNone'. -/
def guardNoneUptoCard : Claim7 := { stood := { row := guardNoneUptoRow, standIns := [], harness := (true, "e04df451af9ec8b4d45784807a5c68b35ff228befb979974037502efef3f57d0"), looks := true }, kinds := [], alts := [], laidByText := true, laidKinds := [.data, .data, .data], laidTests := true, laidLooks := .later }
def GuardNoneUptoCardSaid : Prop := Claim7.holds Tryz.pinned (.plain (OpenSpec.upto guardNoneSpec)) guardNoneUptoCard

/-- THE SECOND FORM's CARD OF 'freeholdlaw12.GuardRefuses'. -/
def guardRefusesUptoCard : Claim7 := { stood := { row := guardRefusesUptoRow, standIns := [], harness := (true, "e04df451af9ec8b4d45784807a5c68b35ff228befb979974037502efef3f57d0"), looks := true }, kinds := [], alts := [], laidByText := true, laidKinds := [.data, .data, .data], laidTests := true, laidLooks := .later }
def GuardRefusesUptoCardSaid : Prop := Claim7.holds Tryz.pinned (.plain (OpenSpec.upto guardRefusesSpec)) guardRefusesUptoCard
end Rows
end Go.Proofs.YteihenagckcobaaGreatDoor
