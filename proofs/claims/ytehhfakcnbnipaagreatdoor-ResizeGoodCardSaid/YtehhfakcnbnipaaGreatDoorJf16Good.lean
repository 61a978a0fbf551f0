/- ResizeGood: the row's closed facts. -/
import Derived.Test.YtehhfakcnbnipaaGreatDoorRows
import Derived.JoinedOf
import Derived.ProofKit
namespace Go.Proofs.YtehhfakcnbnipaaGreatDoor.resizeGood
open Go.ChangeShapes Go.WideShapes Go.ChangeAt
theorem c1 : (Rows.resizeGoodRow.inPlace == Tryz.prog.inPlace 5) = true := by kernel_rfl
theorem c2 : (Rows.resizeGoodRow.unfollowed == Tryz.prog.unfollowed 5) = true := by kernel_rfl
theorem c3 : (Rows.resizeGoodRow.recurses == Tryz.prog.recurses 5) = true := by kernel_rfl
theorem c4 : (Rows.resizeGoodRow.named == Tryz.prog.varsNamed 5) = true := by kernel_rfl
theorem closed : joinedFacts Tryz.prog 5 Tryz.f5 Rows.resizeGoodSpec Rows.resizeGoodRow = true := by
  unfold joinedFacts
  rw [c1, c2, c3, c4]
  kernel_rfl
end Go.Proofs.YtehhfakcnbnipaaGreatDoor.resizeGood
