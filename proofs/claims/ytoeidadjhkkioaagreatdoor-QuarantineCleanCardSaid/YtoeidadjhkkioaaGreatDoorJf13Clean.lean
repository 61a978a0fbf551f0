import Derived.Test.YtoeidadjhkkioaaGreatDoorRows
import Derived.JoinedOf
import Derived.ProofKit
namespace Go.Proofs.YtoeidadjhkkioaaGreatDoor.quarantineClean
open Go.ChangeShapes Go.WideShapes Go.ChangeAt
theorem c1 : (Rows.quarantineCleanRow.inPlace == Tryz.prog.inPlace 7) = true := by kernel_rfl
theorem c2 : (Rows.quarantineCleanRow.unfollowed == Tryz.prog.unfollowed 7) = true := by kernel_rfl
theorem c3 : (Rows.quarantineCleanRow.recurses == Tryz.prog.recurses 7) = true := by kernel_rfl
theorem c4 : (Rows.quarantineCleanRow.named == Tryz.prog.varsNamed 7) = true := by kernel_rfl
theorem closed : joinedFacts Tryz.prog 7 Tryz.f7 Rows.quarantineCleanSpec Rows.quarantineCleanRow = true := by
  unfold joinedFacts
  rw [c1, c2, c3, c4]
  kernel_rfl
end Go.Proofs.YtoeidadjhkkioaaGreatDoor.quarantineClean
