/-
  DERIVED. GIVEN WITH THE SEED: THE CARDS: each row of YtmjjhknmbflfhaaGreatDoorRows.lean that lists a variable, with what it lists TIED to the program's text (the seventh form; the later family's looks); each row that meets fmt, with fmt's text TOLD by the authors' own Lean function (tested against real Go, not proved from fmt's source: count such statements apart). THE CARD IS WHAT COUNTS. Prove the row's statement (the work); the ties are given (YtmjjhknmbflfhaaGreatDoorTie.lean); close each card by the builder's one call (the guide's Derived/Test/ToyasCard.lean, 'card_holds'). Laid BY PROGRAM, IN A SANDBOX (cutbox-door.mjs). By AI agents, Wed Nov 11 2026. No macro, syntax, notation, axiom, sorry.
-/
import Derived.Test.YtmjjhknmbflfhaaGreatDoorRows
import GoSem.ClaimSeven
namespace Go.Proofs.YtmjjhknmbflfhaaGreatDoor
namespace Rows

/-- THE TIED CARD OF 'freeholdlaw10.ArenaPages'. -/
def arenaPagesCard : Claim7 := { stood := { row := arenaPagesRow, standIns := [], harness := (true, "75217a8c9619ddb3644a6d78d47b3e9cee30c14df2b70c9e3f1bb413b399d4b8"), looks := true }, kinds := [], alts := [], laidByText := true, laidKinds := [.data, .data, .data], laidTests := true, laidLooks := .later }
def ArenaPagesCardSaid : Prop := Claim7.holds Tryz.pinned (.plain (OpenSpec.ofChange arenaPagesSpec)) arenaPagesCard

/-- THE TIED CARD OF 'freeholdlaw10.ArenaTransfers'. -/
def arenaTransfersCard : Claim7 := { stood := { row := arenaTransfersRow, standIns := [], harness := (true, "75217a8c9619ddb3644a6d78d47b3e9cee30c14df2b70c9e3f1bb413b399d4b8"), looks := true }, kinds := [], alts := [], laidByText := true, laidKinds := [.data, .data, .data], laidTests := true, laidLooks := .later }
def ArenaTransfersCardSaid : Prop := Claim7.holds Tryz.pinned (.plain (OpenSpec.ofChange arenaTransfersSpec)) arenaTransfersCard

/-- THE TIED CARD OF 'freeholdlaw10.ArenaTrims'. -/
def arenaTrimsCard : Claim7 := { stood := { row := arenaTrimsRow, standIns := [], harness := (true, "75217a8c9619ddb3644a6d78d47b3e9cee30c14df2b70c9e3f1bb413b399d4b8"), looks := true }, kinds := [], alts := [], laidByText := true, laidKinds := [.data, .data, .data], laidTests := true, laidLooks := .later }
def ArenaTrimsCardSaid : Prop := Claim7.holds Tryz.pinned (.plain (OpenSpec.ofChange arenaTrimsSpec)) arenaTrimsCard

/-- THE TIED CARD OF 'freeholdlaw10.ArenaFinds'. -/
def arenaFindsCard : Claim7 := { stood := { row := arenaFindsRow, standIns := [], harness := (true, "75217a8c9619ddb3644a6d78d47b3e9cee30c14df2b70c9e3f1bb413b399d4b8"), looks := true }, kinds := [], alts := [], laidByText := true, laidKinds := [.data, .data, .data], laidTests := true, laidLooks := .later }
def ArenaFindsCardSaid : Prop := Claim7.holds Tryz.pinned (.plain (OpenSpec.ofChange arenaFindsSpec)) arenaFindsCard

/-- THE TIED CARD OF 'freeholdlaw10.ArenaApart'. -/
def arenaApartCard : Claim7 := { stood := { row := arenaApartRow, standIns := [], harness := (true, "75217a8c9619ddb3644a6d78d47b3e9cee30c14df2b70c9e3f1bb413b399d4b8"), looks := true }, kinds := [], alts := [], laidByText := true, laidKinds := [.data, .data, .data], laidTests := true, laidLooks := .later }
def ArenaApartCardSaid : Prop := Claim7.holds Tryz.pinned (.plain (OpenSpec.ofChange arenaApartSpec)) arenaApartCard

/-- THE TIED CARD OF 'freeholdlaw10.ArenaMaps'. -/
def arenaMapsCard : Claim7 := { stood := { row := arenaMapsRow, standIns := [], harness := (true, "75217a8c9619ddb3644a6d78d47b3e9cee30c14df2b70c9e3f1bb413b399d4b8"), looks := true }, kinds := [], alts := [], laidByText := true, laidKinds := [.data, .data, .data], laidTests := true, laidLooks := .later }
def ArenaMapsCardSaid : Prop := Claim7.holds Tryz.pinned (.plain (OpenSpec.ofChange arenaMapsSpec)) arenaMapsCard

/-- THE TIED CARD OF 'freeholdlaw10.ArenaReleases'. -/
def arenaReleasesCard : Claim7 := { stood := { row := arenaReleasesRow, standIns := [], harness := (true, "75217a8c9619ddb3644a6d78d47b3e9cee30c14df2b70c9e3f1bb413b399d4b8"), looks := true }, kinds := [], alts := [], laidByText := true, laidKinds := [.data, .data, .data], laidTests := true, laidLooks := .later }
def ArenaReleasesCardSaid : Prop := Claim7.holds Tryz.pinned (.plain (OpenSpec.ofChange arenaReleasesSpec)) arenaReleasesCard

/-- THE TIED CARD OF 'freeholdlaw10.ArenaNone'. -/
def arenaNoneCard : Claim7 := { stood := { row := arenaNoneRow, standIns := [], harness := (true, "75217a8c9619ddb3644a6d78d47b3e9cee30c14df2b70c9e3f1bb413b399d4b8"), looks := true }, kinds := [], alts := [], laidByText := true, laidKinds := [.data, .data], laidTests := true, laidLooks := .later }
def ArenaNoneCardSaid : Prop := Claim7.holds Tryz.pinned (.plain (OpenSpec.ofChange arenaNoneSpec)) arenaNoneCard

/-- THE TIED CARD OF 'freeholdlaw10.ArenaPlays'. -/
def arenaPlaysCard : Claim7 := { stood := { row := arenaPlaysRow, standIns := [], harness := (true, "75217a8c9619ddb3644a6d78d47b3e9cee30c14df2b70c9e3f1bb413b399d4b8"), looks := true }, kinds := [], alts := [], laidByText := true, laidKinds := [.data, .data, .data], laidTests := true, laidLooks := .later }
def ArenaPlaysCardSaid : Prop := Claim7.holds Tryz.pinned (.plain (OpenSpec.ofChange arenaPlaysSpec)) arenaPlaysCard

/-- THE TIED CARD OF 'freeholdlaw10.ArenaClones'. -/
def arenaClonesCard : Claim7 := { stood := { row := arenaClonesRow, standIns := [], harness := (true, "75217a8c9619ddb3644a6d78d47b3e9cee30c14df2b70c9e3f1bb413b399d4b8"), looks := true }, kinds := [], alts := [], laidByText := true, laidKinds := [.data, .data, .data], laidTests := true, laidLooks := .later }
def ArenaClonesCardSaid : Prop := Claim7.holds Tryz.pinned (.plain (OpenSpec.ofChange arenaClonesSpec)) arenaClonesCard

/-- THE TIED CARD OF 'freeholdlaw10.ArenaRefuses'. -/
def arenaRefusesCard : Claim7 := { stood := { row := arenaRefusesRow, standIns := [], harness := (true, "75217a8c9619ddb3644a6d78d47b3e9cee30c14df2b70c9e3f1bb413b399d4b8"), looks := true }, kinds := [], alts := [], laidByText := true, laidKinds := [.data, .data, .data], laidTests := true, laidLooks := .later }
def ArenaRefusesCardSaid : Prop := Claim7.holds Tryz.pinned (.plain (OpenSpec.ofChange arenaRefusesSpec)) arenaRefusesCard

/-- THE SECOND FORM's CARD OF 'freeholdlaw10.ArenaPages'. -/
def arenaPagesUptoCard : Claim7 := { stood := { row := arenaPagesUptoRow, standIns := [], harness := (true, "75217a8c9619ddb3644a6d78d47b3e9cee30c14df2b70c9e3f1bb413b399d4b8"), looks := true }, kinds := [], alts := [], laidByText := true, laidKinds := [.data, .data, .data], laidTests := true, laidLooks := .later }
def ArenaPagesUptoCardSaid : Prop := Claim7.holds Tryz.pinned (.plain (OpenSpec.upto arenaPagesSpec)) arenaPagesUptoCard

/-- THE SECOND FORM's CARD OF 'freeholdlaw10.ArenaTransfers'. -/
def arenaTransfersUptoCard : Claim7 := { stood := { row := arenaTransfersUptoRow, standIns := [], harness := (true, "75217a8c9619ddb3644a6d78d47b3e9cee30c14df2b70c9e3f1bb413b399d4b8"), looks := true }, kinds := [], alts := [], laidByText := true, laidKinds := [.data, .data, .data], laidTests := true, laidLooks := .later }
def ArenaTransfersUptoCardSaid : Prop := Claim7.holds Tryz.pinned (.plain (OpenSpec.upto arenaTransfersSpec)) arenaTransfersUptoCard

/-- THE SECOND FORM's CARD OF 'freeholdlaw10.ArenaTrims'. -/
def arenaTrimsUptoCard : Claim7 := { stood := { row := arenaTrimsUptoRow, standIns := [], harness := (true, "75217a8c9619ddb3644a6d78d47b3e9cee30c14df2b70c9e3f1bb413b399d4b8"), looks := true }, kinds := [], alts := [], laidByText := true, laidKinds := [.data, .data, .data], laidTests := true, laidLooks := .later }
def ArenaTrimsUptoCardSaid : Prop := Claim7.holds Tryz.pinned (.plain (OpenSpec.upto arenaTrimsSpec)) arenaTrimsUptoCard

/-- THE SECOND FORM's CARD OF 'freeholdlaw10.ArenaFinds'. -/
def arenaFindsUptoCard : Claim7 := { stood := { row := arenaFindsUptoRow, standIns := [], harness := (true, "75217a8c9619ddb3644a6d78d47b3e9cee30c14df2b70c9e3f1bb413b399d4b8"), looks := true }, kinds := [], alts := [], laidByText := true, laidKinds := [.data, .data, .data], laidTests := true, laidLooks := .later }
def ArenaFindsUptoCardSaid : Prop := Claim7.holds Tryz.pinned (.plain (OpenSpec.upto arenaFindsSpec)) arenaFindsUptoCard

/-- THE SECOND FORM's CARD OF 'freeholdlaw10.ArenaApart'. -/
def arenaApartUptoCard : Claim7 := { stood := { row := arenaApartUptoRow, standIns := [], harness := (true, "75217a8c9619ddb3644a6d78d47b3e9cee30c14df2b70c9e3f1bb413b399d4b8"), looks := true }, kinds := [], alts := [], laidByText := true, laidKinds := [.data, .data, .data], laidTests := true, laidLooks := .later }
def ArenaApartUptoCardSaid : Prop := Claim7.holds Tryz.pinned (.plain (OpenSpec.upto arenaApartSpec)) arenaApartUptoCard

/-- THE SECOND FORM's CARD OF 'freeholdlaw10.ArenaMaps'. -/
def arenaMapsUptoCard : Claim7 := { stood := { row := arenaMapsUptoRow, standIns := [], harness := (true, "75217a8c9619ddb3644a6d78d47b3e9cee30c14df2b70c9e3f1bb413b399d4b8"), looks := true }, kinds := [], alts := [], laidByText := true, laidKinds := [.data, .data, .data], laidTests := true, laidLooks := .later }
def ArenaMapsUptoCardSaid : Prop := Claim7.holds Tryz.pinned (.plain (OpenSpec.upto arenaMapsSpec)) arenaMapsUptoCard

/-- THE SECOND FORM's CARD OF 'freeholdlaw10.ArenaReleases'. -/
def arenaReleasesUptoCard : Claim7 := { stood := { row := arenaReleasesUptoRow, standIns := [], harness := (true, "75217a8c9619ddb3644a6d78d47b3e9cee30c14df2b70c9e3f1bb413b399d4b8"), looks := true }, kinds := [], alts := [], laidByText := true, laidKinds := [.data, .data, .data], laidTests := true, laidLooks := .later }
def ArenaReleasesUptoCardSaid : Prop := Claim7.holds Tryz.pinned (.plain (OpenSpec.upto arenaReleasesSpec)) arenaReleasesUptoCard

/-- THE SECOND FORM's CARD OF 'freeholdlaw10.ArenaNone'. -/
def arenaNoneUptoCard : Claim7 := { stood := { row := arenaNoneUptoRow, standIns := [], harness := (true, "75217a8c9619ddb3644a6d78d47b3e9cee30c14df2b70c9e3f1bb413b399d4b8"), looks := true }, kinds := [], alts := [], laidByText := true, laidKinds := [.data, .data], laidTests := true, laidLooks := .later }
def ArenaNoneUptoCardSaid : Prop := Claim7.holds Tryz.pinned (.plain (OpenSpec.upto arenaNoneSpec)) arenaNoneUptoCard

/-- THE SECOND FORM's CARD OF 'freeholdlaw10.ArenaPlays'. -/
def arenaPlaysUptoCard : Claim7 := { stood := { row := arenaPlaysUptoRow, standIns := [], harness := (true, "75217a8c9619ddb3644a6d78d47b3e9cee30c14df2b70c9e3f1bb413b399d4b8"), looks := true }, kinds := [], alts := [], laidByText := true, laidKinds := [.data, .data, .data], laidTests := true, laidLooks := .later }
def ArenaPlaysUptoCardSaid : Prop := Claim7.holds Tryz.pinned (.plain (OpenSpec.upto arenaPlaysSpec)) arenaPlaysUptoCard

/-- THE SECOND FORM's CARD OF 'freeholdlaw10.ArenaClones'. -/
def arenaClonesUptoCard : Claim7 := { stood := { row := arenaClonesUptoRow, standIns := [], harness := (true, "75217a8c9619ddb3644a6d78d47b3e9cee30c14df2b70c9e3f1bb413b399d4b8"), looks := true }, kinds := [], alts := [], laidByText := true, laidKinds := [.data, .data, .data], laidTests := true, laidLooks := .later }
def ArenaClonesUptoCardSaid : Prop := Claim7.holds Tryz.pinned (.plain (OpenSpec.upto arenaClonesSpec)) arenaClonesUptoCard

/-- THE SECOND FORM's CARD OF 'freeholdlaw10.ArenaRefuses'. -/
def arenaRefusesUptoCard : Claim7 := { stood := { row := arenaRefusesUptoRow, standIns := [], harness := (true, "75217a8c9619ddb3644a6d78d47b3e9cee30c14df2b70c9e3f1bb413b399d4b8"), looks := true }, kinds := [], alts := [], laidByText := true, laidKinds := [.data, .data, .data], laidTests := true, laidLooks := .later }
def ArenaRefusesUptoCardSaid : Prop := Claim7.holds Tryz.pinned (.plain (OpenSpec.upto arenaRefusesSpec)) arenaRefusesUptoCard
end Rows
end Go.Proofs.YtmjjhknmbflfhaaGreatDoor
