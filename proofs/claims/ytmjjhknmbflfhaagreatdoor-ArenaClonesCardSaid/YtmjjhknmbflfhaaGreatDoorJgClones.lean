/- ArenaClones: the card's closed facts. -/
import Derived.Test.YtmjjhknmbflfhaaGreatDoorCards
import Derived.SevenTiedAt
import Derived.ProofKit
namespace Go.Proofs.YtmjjhknmbflfhaaGreatDoor.arenaClones
open Go
theorem d1 : Rows.arenaClonesRow.wfByText (OpenSpec.ofChange Rows.arenaClonesSpec) = true := by kernel_rfl
theorem d2 : Tryz.pinned.checked.prog.mainIs = some (true, "75217a8c9619ddb3644a6d78d47b3e9cee30c14df2b70c9e3f1bb413b399d4b8".toList) := by kernel_rfl
theorem d3 : true = Tryz.prog.looks [] := by kernel_rfl
theorem d4 : ([22, 5, 5, 23, 23].all fun u => !Tryz.prog.wantsStandIn u) = true := by kernel_rfl
theorem d5 : false = Rows.arenaClonesRow.goesBy Tryz.prog := by kernel_rfl
end Go.Proofs.YtmjjhknmbflfhaaGreatDoor.arenaClones
