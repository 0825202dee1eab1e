/- ManagerNode: what its row says of the program, fact by fact. No conditions. -/
import Derived.Test.YtmnkbfflpgmkmaaGreatDoorNe
namespace Go.Proofs.YtmnkbfflpgmkmaaGreatDoor
open Go Go.W Go.Proofs Go.ChangeShapes Go.WideShapes Go.ChangeAt Go.RowKit
set_option maxRecDepth 100000
theorem nn_ip : (Rows.managerNodeRow.inPlace == Tryz.prog.inPlace 3) = true := by kernel_rfl
theorem nn_uf : (Rows.managerNodeRow.unfollowed == Tryz.prog.unfollowed 3) = true := by kernel_rfl
theorem nn_rc : (Rows.managerNodeRow.recurses == Tryz.prog.recurses 3) = true := by kernel_rfl
theorem nn_vn : (Rows.managerNodeRow.named == Tryz.prog.varsNamed 3) = true := by kernel_rfl
theorem nn_facts : joinedFacts Tryz.prog 3 Tryz.f3 Rows.managerNodeSpec Rows.managerNodeRow = true := by
  unfold joinedFacts
  rw [nn_ip, nn_uf, nn_rc, nn_vn]
  kernel_rfl
end Go.Proofs.YtmnkbfflpgmkmaaGreatDoor
