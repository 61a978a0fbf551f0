/- ResizeZero: the row's closed facts. -/
import Derived.Test.YtehhfakcnbnipaaGreatDoorRows
import Derived.JoinedOf
import Derived.ProofKit
namespace Go.Proofs.YtehhfakcnbnipaaGreatDoor.resizeZero
open Go.ChangeShapes Go.WideShapes Go.ChangeAt
theorem c1 : (Rows.resizeZeroRow.inPlace == Tryz.prog.inPlace 6) = true := by kernel_rfl
theorem c2 : (Rows.resizeZeroRow.unfollowed == Tryz.prog.unfollowed 6) = true := by kernel_rfl
theorem c3 : (Rows.resizeZeroRow.recurses == Tryz.prog.recurses 6) = true := by kernel_rfl
theorem c4 : (Rows.resizeZeroRow.named == Tryz.prog.varsNamed 6) = true := by kernel_rfl
theorem closed : joinedFacts Tryz.prog 6 Tryz.f6 Rows.resizeZeroSpec Rows.resizeZeroRow = true := by
  unfold joinedFacts
  rw [c1, c2, c3, c4]
  kernel_rfl
end Go.Proofs.YtehhfakcnbnipaaGreatDoor.resizeZero
