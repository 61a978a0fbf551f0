import Derived.Test.YtkabjcanamcbeaaGreatDoorRows
import Derived.JoinedOf
import Derived.ProofKit
namespace Go.Proofs.YtkabjcanamcbeaaGreatDoor.statsSplit
open Go.ChangeShapes Go.WideShapes Go.ChangeAt
theorem c1 : (Rows.statsSplitRow.inPlace == Tryz.prog.inPlace 12) = true := by kernel_rfl
theorem c2 : (Rows.statsSplitRow.unfollowed == Tryz.prog.unfollowed 12) = true := by kernel_rfl
theorem c3 : (Rows.statsSplitRow.recurses == Tryz.prog.recurses 12) = true := by kernel_rfl
theorem c4 : (Rows.statsSplitRow.named == Tryz.prog.varsNamed 12) = true := by kernel_rfl
theorem closed : joinedFacts Tryz.prog 12 Tryz.f12 Rows.statsSplitSpec Rows.statsSplitRow = true := by
  unfold joinedFacts
  rw [c1, c2, c3, c4]
  kernel_rfl
end Go.Proofs.YtkabjcanamcbeaaGreatDoor.statsSplit
