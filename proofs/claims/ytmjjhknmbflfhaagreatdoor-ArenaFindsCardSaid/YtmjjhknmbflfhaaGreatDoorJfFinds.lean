/- ArenaFinds: the row's closed facts. -/
import Derived.Test.YtmjjhknmbflfhaaGreatDoorRows
import Derived.JoinedOf
import Derived.ProofKit
namespace Go.Proofs.YtmjjhknmbflfhaaGreatDoor.arenaFinds
open Go.ChangeShapes Go.WideShapes Go.ChangeAt
theorem c1 : (Rows.arenaFindsRow.inPlace == Tryz.prog.inPlace 6) = true := by kernel_rfl
theorem c2 : (Rows.arenaFindsRow.unfollowed == Tryz.prog.unfollowed 6) = true := by kernel_rfl
theorem c3 : (Rows.arenaFindsRow.recurses == Tryz.prog.recurses 6) = true := by kernel_rfl
theorem c4 : (Rows.arenaFindsRow.named == Tryz.prog.varsNamed 6) = true := by kernel_rfl
theorem closed : joinedFacts Tryz.prog 6 Tryz.f6 Rows.arenaFindsSpec Rows.arenaFindsRow = true := by
  unfold joinedFacts
  rw [c1, c2, c3, c4]
  kernel_rfl
end Go.Proofs.YtmjjhknmbflfhaaGreatDoor.arenaFinds
