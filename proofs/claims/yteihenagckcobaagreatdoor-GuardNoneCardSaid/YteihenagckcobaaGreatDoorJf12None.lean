import Derived.Test.YteihenagckcobaaGreatDoorRows
import Derived.JoinedOf
import Derived.ProofKit
namespace Go.Proofs.YteihenagckcobaaGreatDoor.guardNone
open Go.ChangeShapes Go.WideShapes Go.ChangeAt
theorem c1 : (Rows.guardNoneRow.inPlace == Tryz.prog.inPlace 9) = true := by kernel_rfl
theorem c2 : (Rows.guardNoneRow.unfollowed == Tryz.prog.unfollowed 9) = true := by kernel_rfl
theorem c3 : (Rows.guardNoneRow.recurses == Tryz.prog.recurses 9) = true := by kernel_rfl
theorem c4 : (Rows.guardNoneRow.named == Tryz.prog.varsNamed 9) = true := by kernel_rfl
theorem closed : joinedFacts Tryz.prog 9 Tryz.f9 Rows.guardNoneSpec Rows.guardNoneRow = true := by
  unfold joinedFacts
  rw [c1, c2, c3, c4]
  kernel_rfl
end Go.Proofs.YteihenagckcobaaGreatDoor.guardNone
