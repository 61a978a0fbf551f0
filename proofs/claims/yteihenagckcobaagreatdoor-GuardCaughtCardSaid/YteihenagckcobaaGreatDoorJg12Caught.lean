import Derived.Test.YteihenagckcobaaGreatDoorCards
import Derived.SevenTiedAt
import Derived.ProofKit
namespace Go.Proofs.YteihenagckcobaaGreatDoor.guardCaught
open Go
theorem d1 : Rows.guardCaughtRow.wfByText (OpenSpec.ofChange Rows.guardCaughtSpec) = true := by kernel_rfl
theorem d2 : Tryz.pinned.checked.prog.mainIs = some (true, "e04df451af9ec8b4d45784807a5c68b35ff228befb979974037502efef3f57d0".toList) := by kernel_rfl
theorem d3 : true = Tryz.prog.looks [] := by kernel_rfl
theorem d4 : ([25, 26, 5, 5, 3].all fun u => !Tryz.prog.wantsStandIn u) = true := by kernel_rfl
theorem d5 : false = Rows.guardCaughtRow.goesBy Tryz.prog := by kernel_rfl
end Go.Proofs.YteihenagckcobaaGreatDoor.guardCaught
