import Derived.Test.YteihenagckcobaaGreatDoorRows
import Derived.JoinedOf
import Derived.ProofKit
namespace Go.Proofs.YteihenagckcobaaGreatDoor.guardCaught
open Go.ChangeShapes Go.WideShapes Go.ChangeAt
theorem c1 : (Rows.guardCaughtRow.inPlace == Tryz.prog.inPlace 7) = true := by kernel_rfl
theorem c2 : (Rows.guardCaughtRow.unfollowed == Tryz.prog.unfollowed 7) = true := by kernel_rfl
theorem c3 : (Rows.guardCaughtRow.recurses == Tryz.prog.recurses 7) = true := by kernel_rfl
theorem c4 : (Rows.guardCaughtRow.named == Tryz.prog.varsNamed 7) = true := by kernel_rfl
theorem closed : joinedFacts Tryz.prog 7 Tryz.f7 Rows.guardCaughtSpec Rows.guardCaughtRow = true := by
  unfold joinedFacts
  rw [c1, c2, c3, c4]
  kernel_rfl
end Go.Proofs.YteihenagckcobaaGreatDoor.guardCaught
