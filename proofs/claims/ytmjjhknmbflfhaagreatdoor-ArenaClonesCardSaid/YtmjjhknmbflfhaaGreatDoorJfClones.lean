/- ArenaClones: the row's closed facts. -/
import Derived.Test.YtmjjhknmbflfhaaGreatDoorRows
import Derived.JoinedOf
import Derived.ProofKit
namespace Go.Proofs.YtmjjhknmbflfhaaGreatDoor.arenaClones
open Go.ChangeShapes Go.WideShapes Go.ChangeAt
theorem c1 : (Rows.arenaClonesRow.inPlace == Tryz.prog.inPlace 12) = true := by kernel_rfl
theorem c2 : (Rows.arenaClonesRow.unfollowed == Tryz.prog.unfollowed 12) = true := by kernel_rfl
theorem c3 : (Rows.arenaClonesRow.recurses == Tryz.prog.recurses 12) = true := by kernel_rfl
theorem c4 : (Rows.arenaClonesRow.named == Tryz.prog.varsNamed 12) = true := by kernel_rfl
theorem closed : joinedFacts Tryz.prog 12 Tryz.f12 Rows.arenaClonesSpec Rows.arenaClonesRow = true := by
  unfold joinedFacts
  rw [c1, c2, c3, c4]
  kernel_rfl
end Go.Proofs.YtmjjhknmbflfhaaGreatDoor.arenaClones
