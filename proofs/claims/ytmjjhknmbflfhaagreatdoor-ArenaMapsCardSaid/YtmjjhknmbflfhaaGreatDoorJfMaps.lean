/- ArenaMaps: the row's closed facts. -/
import Derived.Test.YtmjjhknmbflfhaaGreatDoorRows
import Derived.JoinedOf
import Derived.ProofKit
namespace Go.Proofs.YtmjjhknmbflfhaaGreatDoor.arenaMaps
open Go.ChangeShapes Go.WideShapes Go.ChangeAt
theorem c1 : (Rows.arenaMapsRow.inPlace == Tryz.prog.inPlace 8) = true := by kernel_rfl
theorem c2 : (Rows.arenaMapsRow.unfollowed == Tryz.prog.unfollowed 8) = true := by kernel_rfl
theorem c3 : (Rows.arenaMapsRow.recurses == Tryz.prog.recurses 8) = true := by kernel_rfl
theorem c4 : (Rows.arenaMapsRow.named == Tryz.prog.varsNamed 8) = true := by kernel_rfl
theorem closed : joinedFacts Tryz.prog 8 Tryz.f8 Rows.arenaMapsSpec Rows.arenaMapsRow = true := by
  unfold joinedFacts
  rw [c1, c2, c3, c4]
  kernel_rfl
end Go.Proofs.YtmjjhknmbflfhaaGreatDoor.arenaMaps
