import Derived.Test.YtoeidadjhkkioaaGreatDoorRows
import Derived.JoinedOf
import Derived.ProofKit
namespace Go.Proofs.YtoeidadjhkkioaaGreatDoor.quarantineAll
open Go.ChangeShapes Go.WideShapes Go.ChangeAt
theorem c1 : (Rows.quarantineAllRow.inPlace == Tryz.prog.inPlace 8) = true := by kernel_rfl
theorem c2 : (Rows.quarantineAllRow.unfollowed == Tryz.prog.unfollowed 8) = true := by kernel_rfl
theorem c3 : (Rows.quarantineAllRow.recurses == Tryz.prog.recurses 8) = true := by kernel_rfl
theorem c4 : (Rows.quarantineAllRow.named == Tryz.prog.varsNamed 8) = true := by kernel_rfl
theorem closed : joinedFacts Tryz.prog 8 Tryz.f8 Rows.quarantineAllSpec Rows.quarantineAllRow = true := by
  unfold joinedFacts
  rw [c1, c2, c3, c4]
  kernel_rfl
end Go.Proofs.YtoeidadjhkkioaaGreatDoor.quarantineAll
