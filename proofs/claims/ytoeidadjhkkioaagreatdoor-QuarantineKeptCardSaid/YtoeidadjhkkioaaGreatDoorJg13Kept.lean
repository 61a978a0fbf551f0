import Derived.Test.YtoeidadjhkkioaaGreatDoorCards
import Derived.SevenTiedAt
import Derived.ProofKit
namespace Go.Proofs.YtoeidadjhkkioaaGreatDoor.quarantineKept
open Go
theorem d1 : Rows.quarantineKeptRow.wfByText (OpenSpec.ofChange Rows.quarantineKeptSpec) = true := by kernel_rfl
theorem d2 : Tryz.pinned.checked.prog.mainIs = some (true, "bbede97abc681f2a3baaf53806aca2582ddebfc478fe2286f05b172e7aabbc95".toList) := by kernel_rfl
theorem d3 : true = Tryz.prog.looks [] := by kernel_rfl
theorem d4 : ([25, 3, 3, 26, 26].all fun u => !Tryz.prog.wantsStandIn u) = true := by kernel_rfl
theorem d5 : false = Rows.quarantineKeptRow.goesBy Tryz.prog := by kernel_rfl
end Go.Proofs.YtoeidadjhkkioaaGreatDoor.quarantineKept
