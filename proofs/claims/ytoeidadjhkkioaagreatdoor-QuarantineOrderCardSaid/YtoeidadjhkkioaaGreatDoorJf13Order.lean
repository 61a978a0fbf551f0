import Derived.Test.YtoeidadjhkkioaaGreatDoorRows
import Derived.JoinedOf
import Derived.ProofKit
namespace Go.Proofs.YtoeidadjhkkioaaGreatDoor.quarantineOrder
open Go.ChangeShapes Go.WideShapes Go.ChangeAt
theorem c1 : (Rows.quarantineOrderRow.inPlace == Tryz.prog.inPlace 3) = true := by kernel_rfl
theorem c2 : (Rows.quarantineOrderRow.unfollowed == Tryz.prog.unfollowed 3) = true := by kernel_rfl
theorem c3 : (Rows.quarantineOrderRow.recurses == Tryz.prog.recurses 3) = true := by kernel_rfl
theorem c4 : (Rows.quarantineOrderRow.named == Tryz.prog.varsNamed 3) = true := by kernel_rfl
theorem closed : joinedFacts Tryz.prog 3 Tryz.f3 Rows.quarantineOrderSpec Rows.quarantineOrderRow = true := by
  unfold joinedFacts
  rw [c1, c2, c3, c4]
  kernel_rfl
end Go.Proofs.YtoeidadjhkkioaaGreatDoor.quarantineOrder
