/- ManagerBeats: what its row says of the program, fact by fact. No conditions. -/
import Derived.Test.YtmnkbfflpgmkmaaGreatDoorMe
namespace Go.Proofs.YtmnkbfflpgmkmaaGreatDoor
open Go Go.W Go.Proofs Go.ChangeShapes Go.WideShapes Go.ChangeAt Go.RowKit
set_option maxRecDepth 100000
theorem beats_ip : (Rows.managerBeatsRow.inPlace == Tryz.prog.inPlace 5) = true := by kernel_rfl
theorem beats_uf : (Rows.managerBeatsRow.unfollowed == Tryz.prog.unfollowed 5) = true := by kernel_rfl
theorem beats_rc : (Rows.managerBeatsRow.recurses == Tryz.prog.recurses 5) = true := by kernel_rfl
theorem beats_vn : (Rows.managerBeatsRow.named == Tryz.prog.varsNamed 5) = true := by kernel_rfl
theorem beats_facts : joinedFacts Tryz.prog 5 Tryz.f5 Rows.managerBeatsSpec Rows.managerBeatsRow = true := by
  unfold joinedFacts
  rw [beats_ip, beats_uf, beats_rc, beats_vn]
  kernel_rfl
end Go.Proofs.YtmnkbfflpgmkmaaGreatDoor
