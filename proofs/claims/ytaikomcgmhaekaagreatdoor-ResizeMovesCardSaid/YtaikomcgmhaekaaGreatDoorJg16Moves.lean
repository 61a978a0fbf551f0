import Derived.Test.YtaikomcgmhaekaaGreatDoorCards
import Derived.SevenTiedAt
import Derived.ProofKit
namespace Go.Proofs.YtaikomcgmhaekaaGreatDoor.resizeMoves
open Go
theorem d1 : Rows.resizeMovesRow.wfByText (OpenSpec.ofChange Rows.resizeMovesSpec) = true := by kernel_rfl
theorem d2 : Tryz.pinned.checked.prog.mainIs = some (true, "53b554f7b1807e8eb2b7c1b0311d11d62e61d214c66ff2edc6db7e6f0dbbb702".toList) := by kernel_rfl
theorem d3 : true = Tryz.prog.looks [] := by kernel_rfl
theorem d4 : ([25, 26, 42, 42, 3].all fun u => !Tryz.prog.wantsStandIn u) = true := by kernel_rfl
theorem d5 : false = Rows.resizeMovesRow.goesBy Tryz.prog := by kernel_rfl
end Go.Proofs.YtaikomcgmhaekaaGreatDoor.resizeMoves
