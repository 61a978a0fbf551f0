/- ResizeText: the row's closed facts. -/
import Derived.Test.YtehhfakcnbnipaaGreatDoorRows
import Derived.JoinedOf
import Derived.ProofKit
namespace Go.Proofs.YtehhfakcnbnipaaGreatDoor.resizeText
open Go.ChangeShapes Go.WideShapes Go.ChangeAt
theorem c1 : (Rows.resizeTextRow.inPlace == Tryz.prog.inPlace 4) = true := by kernel_rfl
theorem c2 : (Rows.resizeTextRow.unfollowed == Tryz.prog.unfollowed 4) = true := by kernel_rfl
theorem c3 : (Rows.resizeTextRow.recurses == Tryz.prog.recurses 4) = true := by kernel_rfl
theorem c4 : (Rows.resizeTextRow.named == Tryz.prog.varsNamed 4) = true := by kernel_rfl
theorem closed : joinedFacts Tryz.prog 4 Tryz.f4 Rows.resizeTextSpec Rows.resizeTextRow = true := by
  unfold joinedFacts
  rw [c1, c2, c3, c4]
  kernel_rfl
end Go.Proofs.YtehhfakcnbnipaaGreatDoor.resizeText
