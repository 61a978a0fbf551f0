import Derived.Test.YtoeidadjhkkioaaGreatDoorRows
import Derived.JoinedOf
import Derived.ProofKit
namespace Go.Proofs.YtoeidadjhkkioaaGreatDoor.quarantineKept
open Go.ChangeShapes Go.WideShapes Go.ChangeAt
theorem c1 : (Rows.quarantineKeptRow.inPlace == Tryz.prog.inPlace 4) = true := by kernel_rfl
theorem c2 : (Rows.quarantineKeptRow.unfollowed == Tryz.prog.unfollowed 4) = true := by kernel_rfl
theorem c3 : (Rows.quarantineKeptRow.recurses == Tryz.prog.recurses 4) = true := by kernel_rfl
theorem c4 : (Rows.quarantineKeptRow.named == Tryz.prog.varsNamed 4) = true := by kernel_rfl
theorem closed : joinedFacts Tryz.prog 4 Tryz.f4 Rows.quarantineKeptSpec Rows.quarantineKeptRow = true := by
  unfold joinedFacts
  rw [c1, c2, c3, c4]
  kernel_rfl
end Go.Proofs.YtoeidadjhkkioaaGreatDoor.quarantineKept
