import Derived.Test.YtoeidadjhkkioaaGreatDoorRows
import Derived.JoinedOf
import Derived.ProofKit
namespace Go.Proofs.YtoeidadjhkkioaaGreatDoor.quarantineLimits
open Go.ChangeShapes Go.WideShapes Go.ChangeAt
theorem c1 : (Rows.quarantineLimitsRow.inPlace == Tryz.prog.inPlace 5) = true := by kernel_rfl
theorem c2 : (Rows.quarantineLimitsRow.unfollowed == Tryz.prog.unfollowed 5) = true := by kernel_rfl
theorem c3 : (Rows.quarantineLimitsRow.recurses == Tryz.prog.recurses 5) = true := by kernel_rfl
theorem c4 : (Rows.quarantineLimitsRow.named == Tryz.prog.varsNamed 5) = true := by kernel_rfl
theorem closed : joinedFacts Tryz.prog 5 Tryz.f5 Rows.quarantineLimitsSpec Rows.quarantineLimitsRow = true := by
  unfold joinedFacts
  rw [c1, c2, c3, c4]
  kernel_rfl
end Go.Proofs.YtoeidadjhkkioaaGreatDoor.quarantineLimits
