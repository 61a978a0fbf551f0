/- ArenaRefuses: the row's closed facts. -/
import Derived.Test.YtmjjhknmbflfhaaGreatDoorRows
import Derived.JoinedOf
import Derived.ProofKit
namespace Go.Proofs.YtmjjhknmbflfhaaGreatDoor.arenaRefuses
open Go.ChangeShapes Go.WideShapes Go.ChangeAt
theorem c1 : (Rows.arenaRefusesRow.inPlace == Tryz.prog.inPlace 13) = true := by kernel_rfl
theorem c2 : (Rows.arenaRefusesRow.unfollowed == Tryz.prog.unfollowed 13) = true := by kernel_rfl
theorem c3 : (Rows.arenaRefusesRow.recurses == Tryz.prog.recurses 13) = true := by kernel_rfl
theorem c4 : (Rows.arenaRefusesRow.named == Tryz.prog.varsNamed 13) = true := by kernel_rfl
theorem closed : joinedFacts Tryz.prog 13 Tryz.f13 Rows.arenaRefusesSpec Rows.arenaRefusesRow = true := by
  unfold joinedFacts
  rw [c1, c2, c3, c4]
  kernel_rfl
end Go.Proofs.YtmjjhknmbflfhaaGreatDoor.arenaRefuses
