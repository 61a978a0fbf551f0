/-
  NARROWER THAN 'FOR EVERY INPUT', by the rows' own cells (each row's printed sentence says how): ArenaPages: laid · ArenaTransfers: laid · ArenaTrims: laid · ArenaFinds: laid · ArenaApart: laid · ArenaMaps: laid · ArenaReleases: laid · ArenaNone: laid · ArenaPlays: laid · ArenaClones: laid · ArenaRefuses: laid.
  DERIVED. THE GIVEN ROWS OF THIS SEAT. 11 by the template 'for every input the law returns true; each argument reads behind the call as it read before'; 0 by the template 'total and deterministic' (their statements: YtmjjhknmbflfhaaGreatDoorTotals.lean).
  GIVEN WITH THE SEED: the statements are not yours to turn. If you find one false, say at which input.
  Laid BY PROGRAM, IN A SANDBOX (cutbox-rows.mjs): the forced cells as the released guide's own fill.sh prints them over the translation b4358567b787b6fe… (all of the seat's roots in one cut). By AI agents, Wed Nov 11 2026. No macro, syntax, notation, axiom, sorry.
-/
import Derived.Test.YtmjjhknmbflfhaaGreatDoorChecked
import GoSem.Claim
import GoSem.ClaimJoined
import GoSem.ClaimMapViews
import Derived.JoinedTies
import Derived.KernelRfl
namespace Go.Proofs.YtmjjhknmbflfhaaGreatDoor
/- THE CELL 'sum', in the pinned program and in every row, IS THE sha256 OF THE DUMP (.gsa) THAT YtmjjhknmbflfhaaGreatDoorProg.lean LOADS. Nothing in Lean hashes anything: it is a label: what it is worth is what the hold of that sum in a sandbox is worth. -/
noncomputable def Tryz.pinned : Pinned := { name := "ytmjjhknmbflfhaagreatdoor", sum := "b4358567b787b6fe78cd690849ee3a38548b519696323143126bc277483f1549", checked := Tryz.checked }
namespace Rows
def none {H : Type} : Left H := { results := [], args := [] }

/- WHAT THE LISTED PACKAGE-LEVEL VARIABLES READ AS WHEN THE CALL BEGINS. Each datum BY PROGRAM (the guide's laid-datum.mjs) off the statement by which the dump's own 'gosem.cut.vars' lays the variable. In a bare row this is a premise. The card (YtmjjhknmbflfhaaGreatDoorCards.lean) ties it to the program's text. -/
def laid_freehold_space_unmapped {H : Type} : DataW H := .agg [.lit (.bool false), .lit (.bool false)]
def laid_freehold_space_clean {H : Type} : DataW H := .agg [.lit (.bool true), .lit (.bool false)]
def laid_freehold_space_dirty {H : Type} : DataW H := .agg [.lit (.bool true), .lit (.bool true)]

/-- 'freeholdlaw10.ArenaPages': WHATEVER THE INPUT: true; the input reads as it did. -/
def arenaPagesSpec : ChangeSpec := { name := "arenaPages", fn := fun _ => fun
  | [d1, d2, d3, d4, d5] => { results := [.lit (.bool true)], args := [d1, d2, d3, d4, d5] }
  | _ => none }
def arenaPagesRow : OpenClaim := { program := "ytmjjhknmbflfhaagreatdoor", sum := "b4358567b787b6fe78cd690849ee3a38548b519696323143126bc277483f1549", func := "freehold/freeholdlaw10.ArenaPages", spec := "arenaPages", inPlace := ["slices.overlaps[freehold/central.entry]"], unfollowed := true, recurses := true, named := ["freehold/space.clean", "freehold/space.unmapped", "freehold/space.dirty"], apart := false, laid := [("freehold/space.unmapped", laid_freehold_space_unmapped), ("freehold/space.clean", laid_freehold_space_clean), ("freehold/space.dirty", laid_freehold_space_dirty)] }
def ArenaPagesSaid : Prop := arenaPagesRow.holds Tryz.pinned (OpenSpec.ofChange arenaPagesSpec)

/-- ITS FALSE NEIGHBOUR: 'it returns false'. Refute it at one input. -/
def arenaPagesWrong : ChangeSpec := { name := "arenaPages", fn := fun _ => fun
  | [d1, d2, d3, d4, d5] => { results := [.lit (.bool false)], args := [d1, d2, d3, d4, d5] }
  | _ => none }
def ArenaPagesWrongFalsely : Prop := arenaPagesRow.holds Tryz.pinned (OpenSpec.ofChange arenaPagesWrong)

/-- 'freeholdlaw10.ArenaTransfers': WHATEVER THE INPUT: true; the input reads as it did. -/
def arenaTransfersSpec : ChangeSpec := { name := "arenaTransfers", fn := fun _ => fun
  | [d1, d2, d3, d4, d5, d6] => { results := [.lit (.bool true)], args := [d1, d2, d3, d4, d5, d6] }
  | _ => none }
def arenaTransfersRow : OpenClaim := { program := "ytmjjhknmbflfhaagreatdoor", sum := "b4358567b787b6fe78cd690849ee3a38548b519696323143126bc277483f1549", func := "freehold/freeholdlaw10.ArenaTransfers", spec := "arenaTransfers", inPlace := ["slices.overlaps[freehold/central.entry]"], unfollowed := true, recurses := true, named := ["freehold/space.clean", "freehold/space.unmapped", "freehold/space.dirty"], apart := false, laid := [("freehold/space.unmapped", laid_freehold_space_unmapped), ("freehold/space.clean", laid_freehold_space_clean), ("freehold/space.dirty", laid_freehold_space_dirty)] }
def ArenaTransfersSaid : Prop := arenaTransfersRow.holds Tryz.pinned (OpenSpec.ofChange arenaTransfersSpec)

/-- ITS FALSE NEIGHBOUR: 'it returns false'. Refute it at one input. -/
def arenaTransfersWrong : ChangeSpec := { name := "arenaTransfers", fn := fun _ => fun
  | [d1, d2, d3, d4, d5, d6] => { results := [.lit (.bool false)], args := [d1, d2, d3, d4, d5, d6] }
  | _ => none }
def ArenaTransfersWrongFalsely : Prop := arenaTransfersRow.holds Tryz.pinned (OpenSpec.ofChange arenaTransfersWrong)

/-- 'freeholdlaw10.ArenaTrims': WHATEVER THE INPUT: true; the input reads as it did. -/
def arenaTrimsSpec : ChangeSpec := { name := "arenaTrims", fn := fun _ => fun
  | [d1, d2, d3, d4, d5, d6] => { results := [.lit (.bool true)], args := [d1, d2, d3, d4, d5, d6] }
  | _ => none }
def arenaTrimsRow : OpenClaim := { program := "ytmjjhknmbflfhaagreatdoor", sum := "b4358567b787b6fe78cd690849ee3a38548b519696323143126bc277483f1549", func := "freehold/freeholdlaw10.ArenaTrims", spec := "arenaTrims", inPlace := ["slices.overlaps[freehold/central.entry]"], unfollowed := true, recurses := true, named := ["freehold/space.clean", "freehold/space.unmapped", "freehold/space.dirty"], apart := false, laid := [("freehold/space.unmapped", laid_freehold_space_unmapped), ("freehold/space.clean", laid_freehold_space_clean), ("freehold/space.dirty", laid_freehold_space_dirty)] }
def ArenaTrimsSaid : Prop := arenaTrimsRow.holds Tryz.pinned (OpenSpec.ofChange arenaTrimsSpec)

/-- ITS FALSE NEIGHBOUR: 'it returns false'. Refute it at one input. -/
def arenaTrimsWrong : ChangeSpec := { name := "arenaTrims", fn := fun _ => fun
  | [d1, d2, d3, d4, d5, d6] => { results := [.lit (.bool false)], args := [d1, d2, d3, d4, d5, d6] }
  | _ => none }
def ArenaTrimsWrongFalsely : Prop := arenaTrimsRow.holds Tryz.pinned (OpenSpec.ofChange arenaTrimsWrong)

/-- 'freeholdlaw10.ArenaFinds': WHATEVER THE INPUT: true; the input reads as it did. -/
def arenaFindsSpec : ChangeSpec := { name := "arenaFinds", fn := fun _ => fun
  | [d1, d2, d3, d4, d5, d6] => { results := [.lit (.bool true)], args := [d1, d2, d3, d4, d5, d6] }
  | _ => none }
def arenaFindsRow : OpenClaim := { program := "ytmjjhknmbflfhaagreatdoor", sum := "b4358567b787b6fe78cd690849ee3a38548b519696323143126bc277483f1549", func := "freehold/freeholdlaw10.ArenaFinds", spec := "arenaFinds", inPlace := ["slices.overlaps[freehold/central.entry]"], unfollowed := true, recurses := true, named := ["freehold/space.clean", "freehold/space.unmapped", "freehold/space.dirty"], apart := false, laid := [("freehold/space.unmapped", laid_freehold_space_unmapped), ("freehold/space.clean", laid_freehold_space_clean), ("freehold/space.dirty", laid_freehold_space_dirty)] }
def ArenaFindsSaid : Prop := arenaFindsRow.holds Tryz.pinned (OpenSpec.ofChange arenaFindsSpec)

/-- ITS FALSE NEIGHBOUR: 'it returns false'. Refute it at one input. -/
def arenaFindsWrong : ChangeSpec := { name := "arenaFinds", fn := fun _ => fun
  | [d1, d2, d3, d4, d5, d6] => { results := [.lit (.bool false)], args := [d1, d2, d3, d4, d5, d6] }
  | _ => none }
def ArenaFindsWrongFalsely : Prop := arenaFindsRow.holds Tryz.pinned (OpenSpec.ofChange arenaFindsWrong)

/-- 'freeholdlaw10.ArenaApart': WHATEVER THE INPUT: true; the input reads as it did. -/
def arenaApartSpec : ChangeSpec := { name := "arenaApart", fn := fun _ => fun
  | [d1, d2, d3, d4, d5] => { results := [.lit (.bool true)], args := [d1, d2, d3, d4, d5] }
  | _ => none }
def arenaApartRow : OpenClaim := { program := "ytmjjhknmbflfhaagreatdoor", sum := "b4358567b787b6fe78cd690849ee3a38548b519696323143126bc277483f1549", func := "freehold/freeholdlaw10.ArenaApart", spec := "arenaApart", inPlace := ["slices.overlaps[freehold/central.entry]"], unfollowed := true, recurses := true, named := ["freehold/space.clean", "freehold/space.unmapped", "freehold/space.dirty"], apart := false, laid := [("freehold/space.unmapped", laid_freehold_space_unmapped), ("freehold/space.clean", laid_freehold_space_clean), ("freehold/space.dirty", laid_freehold_space_dirty)] }
def ArenaApartSaid : Prop := arenaApartRow.holds Tryz.pinned (OpenSpec.ofChange arenaApartSpec)

/-- ITS FALSE NEIGHBOUR: 'it returns false'. Refute it at one input. -/
def arenaApartWrong : ChangeSpec := { name := "arenaApart", fn := fun _ => fun
  | [d1, d2, d3, d4, d5] => { results := [.lit (.bool false)], args := [d1, d2, d3, d4, d5] }
  | _ => none }
def ArenaApartWrongFalsely : Prop := arenaApartRow.holds Tryz.pinned (OpenSpec.ofChange arenaApartWrong)

/-- 'freeholdlaw10.ArenaMaps': WHATEVER THE INPUT: true; the input reads as it did. -/
def arenaMapsSpec : ChangeSpec := { name := "arenaMaps", fn := fun _ => fun
  | [d1, d2, d3, d4, d5, d6] => { results := [.lit (.bool true)], args := [d1, d2, d3, d4, d5, d6] }
  | _ => none }
def arenaMapsRow : OpenClaim := { program := "ytmjjhknmbflfhaagreatdoor", sum := "b4358567b787b6fe78cd690849ee3a38548b519696323143126bc277483f1549", func := "freehold/freeholdlaw10.ArenaMaps", spec := "arenaMaps", inPlace := ["slices.overlaps[freehold/central.entry]"], unfollowed := true, recurses := true, named := ["freehold/space.clean", "freehold/space.unmapped", "freehold/space.dirty"], apart := false, laid := [("freehold/space.unmapped", laid_freehold_space_unmapped), ("freehold/space.clean", laid_freehold_space_clean), ("freehold/space.dirty", laid_freehold_space_dirty)] }
def ArenaMapsSaid : Prop := arenaMapsRow.holds Tryz.pinned (OpenSpec.ofChange arenaMapsSpec)

/-- ITS FALSE NEIGHBOUR: 'it returns false'. Refute it at one input. -/
def arenaMapsWrong : ChangeSpec := { name := "arenaMaps", fn := fun _ => fun
  | [d1, d2, d3, d4, d5, d6] => { results := [.lit (.bool false)], args := [d1, d2, d3, d4, d5, d6] }
  | _ => none }
def ArenaMapsWrongFalsely : Prop := arenaMapsRow.holds Tryz.pinned (OpenSpec.ofChange arenaMapsWrong)

/-- 'freeholdlaw10.ArenaReleases': WHATEVER THE INPUT: true; the input reads as it did. -/
def arenaReleasesSpec : ChangeSpec := { name := "arenaReleases", fn := fun _ => fun
  | [d1, d2, d3, d4, d5, d6, d7] => { results := [.lit (.bool true)], args := [d1, d2, d3, d4, d5, d6, d7] }
  | _ => none }
def arenaReleasesRow : OpenClaim := { program := "ytmjjhknmbflfhaagreatdoor", sum := "b4358567b787b6fe78cd690849ee3a38548b519696323143126bc277483f1549", func := "freehold/freeholdlaw10.ArenaReleases", spec := "arenaReleases", inPlace := ["slices.overlaps[freehold/central.entry]"], unfollowed := true, recurses := true, named := ["freehold/space.clean", "freehold/space.unmapped", "freehold/space.dirty"], apart := false, laid := [("freehold/space.unmapped", laid_freehold_space_unmapped), ("freehold/space.clean", laid_freehold_space_clean), ("freehold/space.dirty", laid_freehold_space_dirty)] }
def ArenaReleasesSaid : Prop := arenaReleasesRow.holds Tryz.pinned (OpenSpec.ofChange arenaReleasesSpec)

/-- ITS FALSE NEIGHBOUR: 'it returns false'. Refute it at one input. -/
def arenaReleasesWrong : ChangeSpec := { name := "arenaReleases", fn := fun _ => fun
  | [d1, d2, d3, d4, d5, d6, d7] => { results := [.lit (.bool false)], args := [d1, d2, d3, d4, d5, d6, d7] }
  | _ => none }
def ArenaReleasesWrongFalsely : Prop := arenaReleasesRow.holds Tryz.pinned (OpenSpec.ofChange arenaReleasesWrong)

/-- 'freeholdlaw10.ArenaNone': WHATEVER THE INPUT: true; the input reads as it did. -/
def arenaNoneSpec : ChangeSpec := { name := "arenaNone", fn := fun _ => fun
  | [d1, d2, d3] => { results := [.lit (.bool true)], args := [d1, d2, d3] }
  | _ => none }
def arenaNoneRow : OpenClaim := { program := "ytmjjhknmbflfhaagreatdoor", sum := "b4358567b787b6fe78cd690849ee3a38548b519696323143126bc277483f1549", func := "freehold/freeholdlaw10.ArenaNone", spec := "arenaNone", inPlace := ["slices.overlaps[freehold/central.entry]", "maps.clone"], unfollowed := true, recurses := true, named := ["freehold/space.clean", "freehold/space.unmapped"], apart := false, laid := [("freehold/space.unmapped", laid_freehold_space_unmapped), ("freehold/space.clean", laid_freehold_space_clean)] }
def ArenaNoneSaid : Prop := arenaNoneRow.holds Tryz.pinned (OpenSpec.ofChange arenaNoneSpec)

/-- ITS FALSE NEIGHBOUR: 'it returns false'. Refute it at one input. -/
def arenaNoneWrong : ChangeSpec := { name := "arenaNone", fn := fun _ => fun
  | [d1, d2, d3] => { results := [.lit (.bool false)], args := [d1, d2, d3] }
  | _ => none }
def ArenaNoneWrongFalsely : Prop := arenaNoneRow.holds Tryz.pinned (OpenSpec.ofChange arenaNoneWrong)

/-- 'freeholdlaw10.ArenaPlays': WHATEVER THE INPUT: true; the input reads as it did. -/
def arenaPlaysSpec : ChangeSpec := { name := "arenaPlays", fn := fun _ => fun
  | [d1, d2, d3, d4, d5] => { results := [.lit (.bool true)], args := [d1, d2, d3, d4, d5] }
  | _ => none }
def arenaPlaysRow : OpenClaim := { program := "ytmjjhknmbflfhaagreatdoor", sum := "b4358567b787b6fe78cd690849ee3a38548b519696323143126bc277483f1549", func := "freehold/freeholdlaw10.ArenaPlays", spec := "arenaPlays", inPlace := ["slices.overlaps[freehold/central.entry]"], unfollowed := true, recurses := true, named := ["freehold/space.clean", "freehold/space.unmapped", "freehold/space.dirty"], apart := false, laid := [("freehold/space.unmapped", laid_freehold_space_unmapped), ("freehold/space.clean", laid_freehold_space_clean), ("freehold/space.dirty", laid_freehold_space_dirty)] }
def ArenaPlaysSaid : Prop := arenaPlaysRow.holds Tryz.pinned (OpenSpec.ofChange arenaPlaysSpec)

/-- ITS FALSE NEIGHBOUR: 'it returns false'. Refute it at one input. -/
def arenaPlaysWrong : ChangeSpec := { name := "arenaPlays", fn := fun _ => fun
  | [d1, d2, d3, d4, d5] => { results := [.lit (.bool false)], args := [d1, d2, d3, d4, d5] }
  | _ => none }
def ArenaPlaysWrongFalsely : Prop := arenaPlaysRow.holds Tryz.pinned (OpenSpec.ofChange arenaPlaysWrong)

/-- 'freeholdlaw10.ArenaClones': WHATEVER THE INPUT: true; the input reads as it did. -/
def arenaClonesSpec : ChangeSpec := { name := "arenaClones", fn := fun _ => fun
  | [d1, d2, d3, d4, d5] => { results := [.lit (.bool true)], args := [d1, d2, d3, d4, d5] }
  | _ => none }
def arenaClonesRow : OpenClaim := { program := "ytmjjhknmbflfhaagreatdoor", sum := "b4358567b787b6fe78cd690849ee3a38548b519696323143126bc277483f1549", func := "freehold/freeholdlaw10.ArenaClones", spec := "arenaClones", inPlace := ["slices.overlaps[freehold/central.entry]", "maps.clone"], unfollowed := true, recurses := true, named := ["freehold/space.clean", "freehold/space.unmapped", "freehold/space.dirty"], apart := false, laid := [("freehold/space.unmapped", laid_freehold_space_unmapped), ("freehold/space.clean", laid_freehold_space_clean), ("freehold/space.dirty", laid_freehold_space_dirty)] }
def ArenaClonesSaid : Prop := arenaClonesRow.holds Tryz.pinned (OpenSpec.ofChange arenaClonesSpec)

/-- ITS FALSE NEIGHBOUR: 'it returns false'. Refute it at one input. -/
def arenaClonesWrong : ChangeSpec := { name := "arenaClones", fn := fun _ => fun
  | [d1, d2, d3, d4, d5] => { results := [.lit (.bool false)], args := [d1, d2, d3, d4, d5] }
  | _ => none }
def ArenaClonesWrongFalsely : Prop := arenaClonesRow.holds Tryz.pinned (OpenSpec.ofChange arenaClonesWrong)

/-- 'freeholdlaw10.ArenaRefuses': WHATEVER THE INPUT: true; the input reads as it did. -/
def arenaRefusesSpec : ChangeSpec := { name := "arenaRefuses", fn := fun _ => fun
  | [d1, d2, d3, d4, d5, d6] => { results := [.lit (.bool true)], args := [d1, d2, d3, d4, d5, d6] }
  | _ => none }
def arenaRefusesRow : OpenClaim := { program := "ytmjjhknmbflfhaagreatdoor", sum := "b4358567b787b6fe78cd690849ee3a38548b519696323143126bc277483f1549", func := "freehold/freeholdlaw10.ArenaRefuses", spec := "arenaRefuses", inPlace := ["slices.overlaps[freehold/central.entry]", "maps.clone"], unfollowed := true, recurses := true, named := ["freehold/space.clean", "freehold/space.unmapped", "freehold/space.dirty"], apart := false, laid := [("freehold/space.unmapped", laid_freehold_space_unmapped), ("freehold/space.clean", laid_freehold_space_clean), ("freehold/space.dirty", laid_freehold_space_dirty)] }
def ArenaRefusesSaid : Prop := arenaRefusesRow.holds Tryz.pinned (OpenSpec.ofChange arenaRefusesSpec)

/-- ITS FALSE NEIGHBOUR: 'it returns false'. Refute it at one input. -/
def arenaRefusesWrong : ChangeSpec := { name := "arenaRefuses", fn := fun _ => fun
  | [d1, d2, d3, d4, d5, d6] => { results := [.lit (.bool false)], args := [d1, d2, d3, d4, d5, d6] }
  | _ => none }
def ArenaRefusesWrongFalsely : Prop := arenaRefusesRow.holds Tryz.pinned (OpenSpec.ofChange arenaRefusesWrong)

/- THE SECOND FORM. 'bulk': how many values and letters a reading holds, each counted each time it is reached (what is shared counts as often as it is met; a slice's spare places count too). A statement '..UptoSaid' is the law's where the arguments, and the package variables that the reading takes, are together of bulk at most 1048576: NARROWER than '..Said'. Prove '..Said' where nothing that the law and all that it calls make is longer than what came in: it says more and counts as full. Else prove '..UptoSaid'. A law counts once. -/
mutual
def uptoBulk {H : Type} : DataW H → Nat
  | .lit (.string bytes) => bytes.length + 1
  | .lit _ => 1
  | .nil => 1
  | .ptr d => uptoBulk d + 1
  | .slice elems spare => uptoBulkAll elems + uptoBulkAll spare + 1
  | .agg parts => uptoBulkAll parts + 1
  | .iface _ d => uptoBulk d + 1
  | .map entries => uptoBulkEntries entries + 1
  | .held _ => 1
def uptoBulkAll {H : Type} : List (DataW H) → Nat
  | [] => 0
  | d :: r => uptoBulk d + uptoBulkAll r
def uptoBulkEntries {H : Type} : List (Lit × DataW H) → Nat
  | [] => 0
  | x :: r => uptoBulkEntry x + uptoBulkEntries r
def uptoBulkEntry {H : Type} : Lit × DataW H → Nat
  | (.string bytes, d) => bytes.length + uptoBulk d + 1
  | (_, d) => uptoBulk d + 1
 end
def uptoSmall : (H : Type) → List (DataW H) → Bool := fun _ ds => decide (uptoBulkAll ds ≤ 1048576)
def OpenSpec.upto (s : _root_.Go.ChangeSpec) : _root_.Go.OpenSpec := { _root_.Go.OpenSpec.ofChange s with cond := some uptoSmall }

/-- 'freeholdlaw10.ArenaPages', WHERE WHAT IT READS IS OF BULK AT MOST 1048576: true; the input reads as it did. -/
def arenaPagesUptoRow : OpenClaim := { program := "ytmjjhknmbflfhaagreatdoor", sum := "b4358567b787b6fe78cd690849ee3a38548b519696323143126bc277483f1549", func := "freehold/freeholdlaw10.ArenaPages", spec := "arenaPages", inPlace := ["slices.overlaps[freehold/central.entry]"], unfollowed := true, recurses := true, named := ["freehold/space.clean", "freehold/space.unmapped", "freehold/space.dirty"], apart := false, laid := [("freehold/space.unmapped", laid_freehold_space_unmapped), ("freehold/space.clean", laid_freehold_space_clean), ("freehold/space.dirty", laid_freehold_space_dirty)], narrowed := true }
def ArenaPagesUptoSaid : Prop := arenaPagesUptoRow.holds Tryz.pinned (OpenSpec.upto arenaPagesSpec)

/-- 'freeholdlaw10.ArenaTransfers', WHERE WHAT IT READS IS OF BULK AT MOST 1048576: true; the input reads as it did. -/
def arenaTransfersUptoRow : OpenClaim := { program := "ytmjjhknmbflfhaagreatdoor", sum := "b4358567b787b6fe78cd690849ee3a38548b519696323143126bc277483f1549", func := "freehold/freeholdlaw10.ArenaTransfers", spec := "arenaTransfers", inPlace := ["slices.overlaps[freehold/central.entry]"], unfollowed := true, recurses := true, named := ["freehold/space.clean", "freehold/space.unmapped", "freehold/space.dirty"], apart := false, laid := [("freehold/space.unmapped", laid_freehold_space_unmapped), ("freehold/space.clean", laid_freehold_space_clean), ("freehold/space.dirty", laid_freehold_space_dirty)], narrowed := true }
def ArenaTransfersUptoSaid : Prop := arenaTransfersUptoRow.holds Tryz.pinned (OpenSpec.upto arenaTransfersSpec)

/-- 'freeholdlaw10.ArenaTrims', WHERE WHAT IT READS IS OF BULK AT MOST 1048576: true; the input reads as it did. -/
def arenaTrimsUptoRow : OpenClaim := { program := "ytmjjhknmbflfhaagreatdoor", sum := "b4358567b787b6fe78cd690849ee3a38548b519696323143126bc277483f1549", func := "freehold/freeholdlaw10.ArenaTrims", spec := "arenaTrims", inPlace := ["slices.overlaps[freehold/central.entry]"], unfollowed := true, recurses := true, named := ["freehold/space.clean", "freehold/space.unmapped", "freehold/space.dirty"], apart := false, laid := [("freehold/space.unmapped", laid_freehold_space_unmapped), ("freehold/space.clean", laid_freehold_space_clean), ("freehold/space.dirty", laid_freehold_space_dirty)], narrowed := true }
def ArenaTrimsUptoSaid : Prop := arenaTrimsUptoRow.holds Tryz.pinned (OpenSpec.upto arenaTrimsSpec)

/-- 'freeholdlaw10.ArenaFinds', WHERE WHAT IT READS IS OF BULK AT MOST 1048576: true; the input reads as it did. -/
def arenaFindsUptoRow : OpenClaim := { program := "ytmjjhknmbflfhaagreatdoor", sum := "b4358567b787b6fe78cd690849ee3a38548b519696323143126bc277483f1549", func := "freehold/freeholdlaw10.ArenaFinds", spec := "arenaFinds", inPlace := ["slices.overlaps[freehold/central.entry]"], unfollowed := true, recurses := true, named := ["freehold/space.clean", "freehold/space.unmapped", "freehold/space.dirty"], apart := false, laid := [("freehold/space.unmapped", laid_freehold_space_unmapped), ("freehold/space.clean", laid_freehold_space_clean), ("freehold/space.dirty", laid_freehold_space_dirty)], narrowed := true }
def ArenaFindsUptoSaid : Prop := arenaFindsUptoRow.holds Tryz.pinned (OpenSpec.upto arenaFindsSpec)

/-- 'freeholdlaw10.ArenaApart', WHERE WHAT IT READS IS OF BULK AT MOST 1048576: true; the input reads as it did. -/
def arenaApartUptoRow : OpenClaim := { program := "ytmjjhknmbflfhaagreatdoor", sum := "b4358567b787b6fe78cd690849ee3a38548b519696323143126bc277483f1549", func := "freehold/freeholdlaw10.ArenaApart", spec := "arenaApart", inPlace := ["slices.overlaps[freehold/central.entry]"], unfollowed := true, recurses := true, named := ["freehold/space.clean", "freehold/space.unmapped", "freehold/space.dirty"], apart := false, laid := [("freehold/space.unmapped", laid_freehold_space_unmapped), ("freehold/space.clean", laid_freehold_space_clean), ("freehold/space.dirty", laid_freehold_space_dirty)], narrowed := true }
def ArenaApartUptoSaid : Prop := arenaApartUptoRow.holds Tryz.pinned (OpenSpec.upto arenaApartSpec)

/-- 'freeholdlaw10.ArenaMaps', WHERE WHAT IT READS IS OF BULK AT MOST 1048576: true; the input reads as it did. -/
def arenaMapsUptoRow : OpenClaim := { program := "ytmjjhknmbflfhaagreatdoor", sum := "b4358567b787b6fe78cd690849ee3a38548b519696323143126bc277483f1549", func := "freehold/freeholdlaw10.ArenaMaps", spec := "arenaMaps", inPlace := ["slices.overlaps[freehold/central.entry]"], unfollowed := true, recurses := true, named := ["freehold/space.clean", "freehold/space.unmapped", "freehold/space.dirty"], apart := false, laid := [("freehold/space.unmapped", laid_freehold_space_unmapped), ("freehold/space.clean", laid_freehold_space_clean), ("freehold/space.dirty", laid_freehold_space_dirty)], narrowed := true }
def ArenaMapsUptoSaid : Prop := arenaMapsUptoRow.holds Tryz.pinned (OpenSpec.upto arenaMapsSpec)

/-- 'freeholdlaw10.ArenaReleases', WHERE WHAT IT READS IS OF BULK AT MOST 1048576: true; the input reads as it did. -/
def arenaReleasesUptoRow : OpenClaim := { program := "ytmjjhknmbflfhaagreatdoor", sum := "b4358567b787b6fe78cd690849ee3a38548b519696323143126bc277483f1549", func := "freehold/freeholdlaw10.ArenaReleases", spec := "arenaReleases", inPlace := ["slices.overlaps[freehold/central.entry]"], unfollowed := true, recurses := true, named := ["freehold/space.clean", "freehold/space.unmapped", "freehold/space.dirty"], apart := false, laid := [("freehold/space.unmapped", laid_freehold_space_unmapped), ("freehold/space.clean", laid_freehold_space_clean), ("freehold/space.dirty", laid_freehold_space_dirty)], narrowed := true }
def ArenaReleasesUptoSaid : Prop := arenaReleasesUptoRow.holds Tryz.pinned (OpenSpec.upto arenaReleasesSpec)

/-- 'freeholdlaw10.ArenaNone', WHERE WHAT IT READS IS OF BULK AT MOST 1048576: true; the input reads as it did. -/
def arenaNoneUptoRow : OpenClaim := { program := "ytmjjhknmbflfhaagreatdoor", sum := "b4358567b787b6fe78cd690849ee3a38548b519696323143126bc277483f1549", func := "freehold/freeholdlaw10.ArenaNone", spec := "arenaNone", inPlace := ["slices.overlaps[freehold/central.entry]", "maps.clone"], unfollowed := true, recurses := true, named := ["freehold/space.clean", "freehold/space.unmapped"], apart := false, laid := [("freehold/space.unmapped", laid_freehold_space_unmapped), ("freehold/space.clean", laid_freehold_space_clean)], narrowed := true }
def ArenaNoneUptoSaid : Prop := arenaNoneUptoRow.holds Tryz.pinned (OpenSpec.upto arenaNoneSpec)

/-- 'freeholdlaw10.ArenaPlays', WHERE WHAT IT READS IS OF BULK AT MOST 1048576: true; the input reads as it did. -/
def arenaPlaysUptoRow : OpenClaim := { program := "ytmjjhknmbflfhaagreatdoor", sum := "b4358567b787b6fe78cd690849ee3a38548b519696323143126bc277483f1549", func := "freehold/freeholdlaw10.ArenaPlays", spec := "arenaPlays", inPlace := ["slices.overlaps[freehold/central.entry]"], unfollowed := true, recurses := true, named := ["freehold/space.clean", "freehold/space.unmapped", "freehold/space.dirty"], apart := false, laid := [("freehold/space.unmapped", laid_freehold_space_unmapped), ("freehold/space.clean", laid_freehold_space_clean), ("freehold/space.dirty", laid_freehold_space_dirty)], narrowed := true }
def ArenaPlaysUptoSaid : Prop := arenaPlaysUptoRow.holds Tryz.pinned (OpenSpec.upto arenaPlaysSpec)

/-- 'freeholdlaw10.ArenaClones', WHERE WHAT IT READS IS OF BULK AT MOST 1048576: true; the input reads as it did. -/
def arenaClonesUptoRow : OpenClaim := { program := "ytmjjhknmbflfhaagreatdoor", sum := "b4358567b787b6fe78cd690849ee3a38548b519696323143126bc277483f1549", func := "freehold/freeholdlaw10.ArenaClones", spec := "arenaClones", inPlace := ["slices.overlaps[freehold/central.entry]", "maps.clone"], unfollowed := true, recurses := true, named := ["freehold/space.clean", "freehold/space.unmapped", "freehold/space.dirty"], apart := false, laid := [("freehold/space.unmapped", laid_freehold_space_unmapped), ("freehold/space.clean", laid_freehold_space_clean), ("freehold/space.dirty", laid_freehold_space_dirty)], narrowed := true }
def ArenaClonesUptoSaid : Prop := arenaClonesUptoRow.holds Tryz.pinned (OpenSpec.upto arenaClonesSpec)

/-- 'freeholdlaw10.ArenaRefuses', WHERE WHAT IT READS IS OF BULK AT MOST 1048576: true; the input reads as it did. -/
def arenaRefusesUptoRow : OpenClaim := { program := "ytmjjhknmbflfhaagreatdoor", sum := "b4358567b787b6fe78cd690849ee3a38548b519696323143126bc277483f1549", func := "freehold/freeholdlaw10.ArenaRefuses", spec := "arenaRefuses", inPlace := ["slices.overlaps[freehold/central.entry]", "maps.clone"], unfollowed := true, recurses := true, named := ["freehold/space.clean", "freehold/space.unmapped", "freehold/space.dirty"], apart := false, laid := [("freehold/space.unmapped", laid_freehold_space_unmapped), ("freehold/space.clean", laid_freehold_space_clean), ("freehold/space.dirty", laid_freehold_space_dirty)], narrowed := true }
def ArenaRefusesUptoSaid : Prop := arenaRefusesUptoRow.holds Tryz.pinned (OpenSpec.upto arenaRefusesSpec)

end Rows
end Go.Proofs.YtmjjhknmbflfhaaGreatDoor
