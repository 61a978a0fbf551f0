import Derived.Test.YtoeidadjhkkioaaGreatDoorRows
import Derived.JoinedOf
import Derived.ProofKit
namespace Go.Proofs.YtoeidadjhkkioaaGreatDoor.quarantineUsed
open Go.ChangeShapes Go.WideShapes Go.ChangeAt
theorem c1 : (Rows.quarantineUsedRow.inPlace == Tryz.prog.inPlace 6) = true := by kernel_rfl
theorem c2 : (Rows.quarantineUsedRow.unfollowed == Tryz.prog.unfollowed 6) = true := by kernel_rfl
theorem c3 : (Rows.quarantineUsedRow.recurses == Tryz.prog.recurses 6) = true := by kernel_rfl
theorem c4 : (Rows.quarantineUsedRow.named == Tryz.prog.varsNamed 6) = true := by kernel_rfl
theorem closed : joinedFacts Tryz.prog 6 Tryz.f6 Rows.quarantineUsedSpec Rows.quarantineUsedRow = true := by
  unfold joinedFacts
  rw [c1, c2, c3, c4]
  kernel_rfl
end Go.Proofs.YtoeidadjhkkioaaGreatDoor.quarantineUsed
