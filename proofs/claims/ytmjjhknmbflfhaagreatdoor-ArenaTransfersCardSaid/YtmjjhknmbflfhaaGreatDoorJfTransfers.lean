/- ArenaTransfers: the row's closed facts. -/
import Derived.Test.YtmjjhknmbflfhaaGreatDoorRows
import Derived.JoinedOf
import Derived.ProofKit
namespace Go.Proofs.YtmjjhknmbflfhaaGreatDoor.arenaTransfers
open Go.ChangeShapes Go.WideShapes Go.ChangeAt
theorem c1 : (Rows.arenaTransfersRow.inPlace == Tryz.prog.inPlace 4) = true := by kernel_rfl
theorem c2 : (Rows.arenaTransfersRow.unfollowed == Tryz.prog.unfollowed 4) = true := by kernel_rfl
theorem c3 : (Rows.arenaTransfersRow.recurses == Tryz.prog.recurses 4) = true := by kernel_rfl
theorem c4 : (Rows.arenaTransfersRow.named == Tryz.prog.varsNamed 4) = true := by kernel_rfl
theorem closed : joinedFacts Tryz.prog 4 Tryz.f4 Rows.arenaTransfersSpec Rows.arenaTransfersRow = true := by
  unfold joinedFacts
  rw [c1, c2, c3, c4]
  kernel_rfl
end Go.Proofs.YtmjjhknmbflfhaaGreatDoor.arenaTransfers
