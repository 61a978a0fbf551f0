import Derived.Test.YtkabjcanamcbeaaGreatDoorCards
import Derived.SevenTiedAt
import Derived.ProofKit
namespace Go.Proofs.YtkabjcanamcbeaaGreatDoor.statsSplit
open Go
theorem d1 : Rows.statsSplitRow.wfByText (OpenSpec.ofChange Rows.statsSplitSpec) = true := by kernel_rfl
theorem d2 : Tryz.pinned.checked.prog.mainIs = some (true, "bcc9e8b7dc334d64fd9589acf3106db236224a15116b22b02a6c6f4ea0cf32f3".toList) := by kernel_rfl
theorem d3 : true = Tryz.prog.looks [] := by kernel_rfl
theorem d4 : ([65, 66].all fun u => !Tryz.prog.wantsStandIn u) = true := by kernel_rfl
theorem d5 : false = Rows.statsSplitRow.goesBy Tryz.prog := by kernel_rfl
end Go.Proofs.YtkabjcanamcbeaaGreatDoor.statsSplit
