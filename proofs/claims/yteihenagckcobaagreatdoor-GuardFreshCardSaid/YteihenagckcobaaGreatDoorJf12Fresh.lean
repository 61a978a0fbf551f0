import Derived.Test.YteihenagckcobaaGreatDoorRows
import Derived.JoinedOf
import Derived.ProofKit
namespace Go.Proofs.YteihenagckcobaaGreatDoor.guardFresh
open Go.ChangeShapes Go.WideShapes Go.ChangeAt
theorem c1 : (Rows.guardFreshRow.inPlace == Tryz.prog.inPlace 3) = true := by kernel_rfl
theorem c2 : (Rows.guardFreshRow.unfollowed == Tryz.prog.unfollowed 3) = true := by kernel_rfl
theorem c3 : (Rows.guardFreshRow.recurses == Tryz.prog.recurses 3) = true := by kernel_rfl
theorem c4 : (Rows.guardFreshRow.named == Tryz.prog.varsNamed 3) = true := by kernel_rfl
theorem closed : joinedFacts Tryz.prog 3 Tryz.f3 Rows.guardFreshSpec Rows.guardFreshRow = true := by
  unfold joinedFacts
  rw [c1, c2, c3, c4]
  kernel_rfl
end Go.Proofs.YteihenagckcobaaGreatDoor.guardFresh
