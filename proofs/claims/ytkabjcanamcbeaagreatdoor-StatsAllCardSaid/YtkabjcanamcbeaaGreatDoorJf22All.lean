import Derived.Test.YtkabjcanamcbeaaGreatDoorRows
import Derived.JoinedOf
import Derived.ProofKit
namespace Go.Proofs.YtkabjcanamcbeaaGreatDoor.statsAll
open Go.ChangeShapes Go.WideShapes Go.ChangeAt
theorem c1 : (Rows.statsAllRow.inPlace == Tryz.prog.inPlace 11) = true := by kernel_rfl
theorem c2 : (Rows.statsAllRow.unfollowed == Tryz.prog.unfollowed 11) = true := by kernel_rfl
theorem c3 : (Rows.statsAllRow.recurses == Tryz.prog.recurses 11) = true := by kernel_rfl
theorem c4 : (Rows.statsAllRow.named == Tryz.prog.varsNamed 11) = true := by kernel_rfl
theorem closed : joinedFacts Tryz.prog 11 Tryz.f11 Rows.statsAllSpec Rows.statsAllRow = true := by
  unfold joinedFacts
  rw [c1, c2, c3, c4]
  kernel_rfl
end Go.Proofs.YtkabjcanamcbeaaGreatDoor.statsAll
