/- ResizeText: the card's closed facts. -/
import Derived.Test.YtehhfakcnbnipaaGreatDoorCards
import Derived.SevenTiedAt
import Derived.ProofKit
namespace Go.Proofs.YtehhfakcnbnipaaGreatDoor.resizeText
open Go
theorem d1 : Rows.resizeTextRow.wfByText (OpenSpec.ofChange Rows.resizeTextSpec) = true := by kernel_rfl
theorem d2 : Tryz.pinned.checked.prog.mainIs = some (true, "63850df2994f27f5a3ace9533e86eca3b31972c4f358253999b72d13bbff30fd".toList) := by kernel_rfl
theorem d3 : true = Tryz.prog.looks [] := by kernel_rfl
theorem d4 : ([46, 47, 47, 9].all fun u => !Tryz.prog.wantsStandIn u) = true := by kernel_rfl
theorem d5 : false = Rows.resizeTextRow.goesBy Tryz.prog := by kernel_rfl
end Go.Proofs.YtehhfakcnbnipaaGreatDoor.resizeText
