/- ArenaReleases: the row's closed facts. -/
import Derived.Test.YtmjjhknmbflfhaaGreatDoorRows
import Derived.JoinedOf
import Derived.ProofKit
namespace Go.Proofs.YtmjjhknmbflfhaaGreatDoor.arenaReleases
open Go.ChangeShapes Go.WideShapes Go.ChangeAt
theorem c1 : (Rows.arenaReleasesRow.inPlace == Tryz.prog.inPlace 9) = true := by kernel_rfl
theorem c2 : (Rows.arenaReleasesRow.unfollowed == Tryz.prog.unfollowed 9) = true := by kernel_rfl
theorem c3 : (Rows.arenaReleasesRow.recurses == Tryz.prog.recurses 9) = true := by kernel_rfl
theorem c4 : (Rows.arenaReleasesRow.named == Tryz.prog.varsNamed 9) = true := by kernel_rfl
theorem closed : joinedFacts Tryz.prog 9 Tryz.f9 Rows.arenaReleasesSpec Rows.arenaReleasesRow = true := by
  unfold joinedFacts
  rw [c1, c2, c3, c4]
  kernel_rfl
end Go.Proofs.YtmjjhknmbflfhaaGreatDoor.arenaReleases
