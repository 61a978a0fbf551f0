import Derived.Test.YtkabjcanamcbeaaGreatDoorRows
import Derived.JoinedOf
import Derived.ProofKit
namespace Go.Proofs.YtkabjcanamcbeaaGreatDoor.statsWaste
open Go.ChangeShapes Go.WideShapes Go.ChangeAt
theorem c1 : (Rows.statsWasteRow.inPlace == Tryz.prog.inPlace 8) = true := by kernel_rfl
theorem c2 : (Rows.statsWasteRow.unfollowed == Tryz.prog.unfollowed 8) = true := by kernel_rfl
theorem c3 : (Rows.statsWasteRow.recurses == Tryz.prog.recurses 8) = true := by kernel_rfl
theorem c4 : (Rows.statsWasteRow.named == Tryz.prog.varsNamed 8) = true := by kernel_rfl
theorem closed : joinedFacts Tryz.prog 8 Tryz.f8 Rows.statsWasteSpec Rows.statsWasteRow = true := by
  unfold joinedFacts
  rw [c1, c2, c3, c4]
  kernel_rfl
end Go.Proofs.YtkabjcanamcbeaaGreatDoor.statsWaste
