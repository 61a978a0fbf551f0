import Derived.Test.YtoeidadjhkkioaaGreatDoorCards
import Derived.SevenTiedAt
import Derived.ProofKit
namespace Go.Proofs.YtoeidadjhkkioaaGreatDoor.quarantineNone
open Go
theorem d1 : Rows.quarantineNoneRow.wfByText (OpenSpec.ofChange Rows.quarantineNoneSpec) = true := by kernel_rfl
theorem d2 : Tryz.pinned.checked.prog.mainIs = some (true, "bbede97abc681f2a3baaf53806aca2582ddebfc478fe2286f05b172e7aabbc95".toList) := by kernel_rfl
theorem d3 : true = Tryz.prog.looks [] := by kernel_rfl
theorem d4 : ([3, 3, 3, 4].all fun u => !Tryz.prog.wantsStandIn u) = true := by kernel_rfl
theorem d5 : false = Rows.quarantineNoneRow.goesBy Tryz.prog := by kernel_rfl
end Go.Proofs.YtoeidadjhkkioaaGreatDoor.quarantineNone
