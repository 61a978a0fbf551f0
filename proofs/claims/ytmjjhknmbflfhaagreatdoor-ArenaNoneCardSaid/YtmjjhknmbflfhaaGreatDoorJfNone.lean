/- ArenaNone: the row's closed facts. -/
import Derived.Test.YtmjjhknmbflfhaaGreatDoorRows
import Derived.JoinedOf
import Derived.ProofKit
namespace Go.Proofs.YtmjjhknmbflfhaaGreatDoor.arenaNone
open Go.ChangeShapes Go.WideShapes Go.ChangeAt
theorem c1 : (Rows.arenaNoneRow.inPlace == Tryz.prog.inPlace 10) = true := by kernel_rfl
theorem c2 : (Rows.arenaNoneRow.unfollowed == Tryz.prog.unfollowed 10) = true := by kernel_rfl
theorem c3 : (Rows.arenaNoneRow.recurses == Tryz.prog.recurses 10) = true := by kernel_rfl
theorem c4 : (Rows.arenaNoneRow.named == Tryz.prog.varsNamed 10) = true := by kernel_rfl
theorem closed : joinedFacts Tryz.prog 10 Tryz.f10 Rows.arenaNoneSpec Rows.arenaNoneRow = true := by
  unfold joinedFacts
  rw [c1, c2, c3, c4]
  kernel_rfl
end Go.Proofs.YtmjjhknmbflfhaaGreatDoor.arenaNone
