/- StatsBound: the row's closed facts. -/
import Derived.Test.YtkabjcanamcbeaaGreatDoorRows
import Derived.JoinedOf
import Derived.ProofKit
namespace Go.Proofs.YtkabjcanamcbeaaGreatDoor.statsBound
open Go.ChangeShapes Go.WideShapes Go.ChangeAt
theorem c1 : (Rows.statsBoundRow.inPlace == Tryz.prog.inPlace 4) = true := by kernel_rfl
theorem c2 : (Rows.statsBoundRow.unfollowed == Tryz.prog.unfollowed 4) = true := by kernel_rfl
theorem c3 : (Rows.statsBoundRow.recurses == Tryz.prog.recurses 4) = true := by kernel_rfl
theorem c4 : (Rows.statsBoundRow.named == Tryz.prog.varsNamed 4) = true := by kernel_rfl
theorem closed : joinedFacts Tryz.prog 4 Tryz.f4 Rows.statsBoundSpec Rows.statsBoundRow = true := by
  unfold joinedFacts
  rw [c1, c2, c3, c4]
  kernel_rfl
end Go.Proofs.YtkabjcanamcbeaaGreatDoor.statsBound
