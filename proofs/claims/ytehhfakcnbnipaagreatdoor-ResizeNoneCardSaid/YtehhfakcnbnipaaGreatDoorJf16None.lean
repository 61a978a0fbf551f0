/- ResizeNone: the row's closed facts. -/
import Derived.Test.YtehhfakcnbnipaaGreatDoorRows
import Derived.JoinedOf
import Derived.ProofKit
namespace Go.Proofs.YtehhfakcnbnipaaGreatDoor.resizeNone
open Go.ChangeShapes Go.WideShapes Go.ChangeAt
theorem c1 : (Rows.resizeNoneRow.inPlace == Tryz.prog.inPlace 3) = true := by kernel_rfl
theorem c2 : (Rows.resizeNoneRow.unfollowed == Tryz.prog.unfollowed 3) = true := by kernel_rfl
theorem c3 : (Rows.resizeNoneRow.recurses == Tryz.prog.recurses 3) = true := by kernel_rfl
theorem c4 : (Rows.resizeNoneRow.named == Tryz.prog.varsNamed 3) = true := by kernel_rfl
theorem closed : joinedFacts Tryz.prog 3 Tryz.f3 Rows.resizeNoneSpec Rows.resizeNoneRow = true := by
  unfold joinedFacts
  rw [c1, c2, c3, c4]
  kernel_rfl
end Go.Proofs.YtehhfakcnbnipaaGreatDoor.resizeNone
