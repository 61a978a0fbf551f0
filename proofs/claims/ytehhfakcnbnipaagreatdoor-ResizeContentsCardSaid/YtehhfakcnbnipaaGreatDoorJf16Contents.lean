/- ResizeContents: the row's closed facts. -/
import Derived.Test.YtehhfakcnbnipaaGreatDoorRows
import Derived.JoinedOf
import Derived.ProofKit
namespace Go.Proofs.YtehhfakcnbnipaaGreatDoor.resizeContents
open Go.ChangeShapes Go.WideShapes Go.ChangeAt
theorem c1 : (Rows.resizeContentsRow.inPlace == Tryz.prog.inPlace 7) = true := by kernel_rfl
theorem c2 : (Rows.resizeContentsRow.unfollowed == Tryz.prog.unfollowed 7) = true := by kernel_rfl
theorem c3 : (Rows.resizeContentsRow.recurses == Tryz.prog.recurses 7) = true := by kernel_rfl
theorem c4 : (Rows.resizeContentsRow.named == Tryz.prog.varsNamed 7) = true := by kernel_rfl
theorem closed : joinedFacts Tryz.prog 7 Tryz.f7 Rows.resizeContentsSpec Rows.resizeContentsRow = true := by
  unfold joinedFacts
  rw [c1, c2, c3, c4]
  kernel_rfl
end Go.Proofs.YtehhfakcnbnipaaGreatDoor.resizeContents
