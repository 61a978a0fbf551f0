import Derived.Test.YtkabjcanamcbeaaGreatDoorRows
import Derived.JoinedOf
import Derived.ProofKit
namespace Go.Proofs.YtkabjcanamcbeaaGreatDoor.statsCounts
open Go.ChangeShapes Go.WideShapes Go.ChangeAt
theorem c1 : (Rows.statsCountsRow.inPlace == Tryz.prog.inPlace 10) = true := by kernel_rfl
theorem c2 : (Rows.statsCountsRow.unfollowed == Tryz.prog.unfollowed 10) = true := by kernel_rfl
theorem c3 : (Rows.statsCountsRow.recurses == Tryz.prog.recurses 10) = true := by kernel_rfl
theorem c4 : (Rows.statsCountsRow.named == Tryz.prog.varsNamed 10) = true := by kernel_rfl
theorem closed : joinedFacts Tryz.prog 10 Tryz.f10 Rows.statsCountsSpec Rows.statsCountsRow = true := by
  unfold joinedFacts
  rw [c1, c2, c3, c4]
  kernel_rfl
end Go.Proofs.YtkabjcanamcbeaaGreatDoor.statsCounts
