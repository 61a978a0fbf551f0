import Derived.Test.YtkabjcanamcbeaaGreatDoorRows
import Derived.JoinedOf
import Derived.ProofKit
namespace Go.Proofs.YtkabjcanamcbeaaGreatDoor.statsPeaks
open Go.ChangeShapes Go.WideShapes Go.ChangeAt
theorem c1 : (Rows.statsPeaksRow.inPlace == Tryz.prog.inPlace 9) = true := by kernel_rfl
theorem c2 : (Rows.statsPeaksRow.unfollowed == Tryz.prog.unfollowed 9) = true := by kernel_rfl
theorem c3 : (Rows.statsPeaksRow.recurses == Tryz.prog.recurses 9) = true := by kernel_rfl
theorem c4 : (Rows.statsPeaksRow.named == Tryz.prog.varsNamed 9) = true := by kernel_rfl
theorem closed : joinedFacts Tryz.prog 9 Tryz.f9 Rows.statsPeaksSpec Rows.statsPeaksRow = true := by
  unfold joinedFacts
  rw [c1, c2, c3, c4]
  kernel_rfl
end Go.Proofs.YtkabjcanamcbeaaGreatDoor.statsPeaks
