/- ManagerMaster: what its row says of the program, fact by fact. No conditions. -/
import Derived.Test.YtmnkbfflpgmkmaaGreatDoorPe
namespace Go.Proofs.YtmnkbfflpgmkmaaGreatDoor
open Go Go.W Go.Proofs Go.ChangeShapes Go.WideShapes Go.ChangeAt Go.RowKit
set_option maxRecDepth 100000
theorem pp_ip : (Rows.managerMasterRow.inPlace == Tryz.prog.inPlace 4) = true := by kernel_rfl
theorem pp_uf : (Rows.managerMasterRow.unfollowed == Tryz.prog.unfollowed 4) = true := by kernel_rfl
theorem pp_rc : (Rows.managerMasterRow.recurses == Tryz.prog.recurses 4) = true := by kernel_rfl
theorem pp_vn : (Rows.managerMasterRow.named == Tryz.prog.varsNamed 4) = true := by kernel_rfl
theorem pp_facts : joinedFacts Tryz.prog 4 Tryz.f4 Rows.managerMasterSpec Rows.managerMasterRow = true := by
  unfold joinedFacts
  rw [pp_ip, pp_uf, pp_rc, pp_vn]
  kernel_rfl
end Go.Proofs.YtmnkbfflpgmkmaaGreatDoor
