/- StatsNone: the row's closed facts. -/
import Derived.Test.YtkabjcanamcbeaaGreatDoorRows
import Derived.JoinedOf
import Derived.ProofKit
namespace Go.Proofs.YtkabjcanamcbeaaGreatDoor.statsNone
open Go.ChangeShapes Go.WideShapes Go.ChangeAt
theorem c1 : (Rows.statsNoneRow.inPlace == Tryz.prog.inPlace 5) = true := by kernel_rfl
theorem c2 : (Rows.statsNoneRow.unfollowed == Tryz.prog.unfollowed 5) = true := by kernel_rfl
theorem c3 : (Rows.statsNoneRow.recurses == Tryz.prog.recurses 5) = true := by kernel_rfl
theorem c4 : (Rows.statsNoneRow.named == Tryz.prog.varsNamed 5) = true := by kernel_rfl
theorem closed : joinedFacts Tryz.prog 5 Tryz.f5 Rows.statsNoneSpec Rows.statsNoneRow = true := by
  unfold joinedFacts
  rw [c1, c2, c3, c4]
  kernel_rfl
end Go.Proofs.YtkabjcanamcbeaaGreatDoor.statsNone
