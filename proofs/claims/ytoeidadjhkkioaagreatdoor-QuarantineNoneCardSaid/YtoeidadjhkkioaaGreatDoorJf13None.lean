import Derived.Test.YtoeidadjhkkioaaGreatDoorRows
import Derived.JoinedOf
import Derived.ProofKit
namespace Go.Proofs.YtoeidadjhkkioaaGreatDoor.quarantineNone
open Go.ChangeShapes Go.WideShapes Go.ChangeAt
theorem c1 : (Rows.quarantineNoneRow.inPlace == Tryz.prog.inPlace 9) = true := by kernel_rfl
theorem c2 : (Rows.quarantineNoneRow.unfollowed == Tryz.prog.unfollowed 9) = true := by kernel_rfl
theorem c3 : (Rows.quarantineNoneRow.recurses == Tryz.prog.recurses 9) = true := by kernel_rfl
theorem c4 : (Rows.quarantineNoneRow.named == Tryz.prog.varsNamed 9) = true := by kernel_rfl
theorem closed : joinedFacts Tryz.prog 9 Tryz.f9 Rows.quarantineNoneSpec Rows.quarantineNoneRow = true := by
  unfold joinedFacts
  rw [c1, c2, c3, c4]
  kernel_rfl
end Go.Proofs.YtoeidadjhkkioaaGreatDoor.quarantineNone
