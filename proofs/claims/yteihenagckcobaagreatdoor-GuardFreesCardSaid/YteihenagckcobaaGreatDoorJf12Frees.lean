import Derived.Test.YteihenagckcobaaGreatDoorRows
import Derived.JoinedOf
import Derived.ProofKit
namespace Go.Proofs.YteihenagckcobaaGreatDoor.guardFrees
open Go.ChangeShapes Go.WideShapes Go.ChangeAt
theorem c1 : (Rows.guardFreesRow.inPlace == Tryz.prog.inPlace 8) = true := by kernel_rfl
theorem c2 : (Rows.guardFreesRow.unfollowed == Tryz.prog.unfollowed 8) = true := by kernel_rfl
theorem c3 : (Rows.guardFreesRow.recurses == Tryz.prog.recurses 8) = true := by kernel_rfl
theorem c4 : (Rows.guardFreesRow.named == Tryz.prog.varsNamed 8) = true := by kernel_rfl
theorem closed : joinedFacts Tryz.prog 8 Tryz.f8 Rows.guardFreesSpec Rows.guardFreesRow = true := by
  unfold joinedFacts
  rw [c1, c2, c3, c4]
  kernel_rfl
end Go.Proofs.YteihenagckcobaaGreatDoor.guardFrees
