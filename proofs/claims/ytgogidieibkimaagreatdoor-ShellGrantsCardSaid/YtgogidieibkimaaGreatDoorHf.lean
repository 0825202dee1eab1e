/- ShellGrants: what its row says of the program, fact by fact. No conditions. -/
import Derived.Test.YtgogidieibkimaaGreatDoorGe
namespace Go.Proofs.YtgogidieibkimaaGreatDoor
open Go Go.W Go.Proofs Go.ChangeShapes Go.WideShapes Go.ChangeAt Go.RowKit
set_option maxRecDepth 100000
theorem gr_ip : (Rows.shellGrantsRow.inPlace == Tryz.prog.inPlace 3) = true := by kernel_rfl
theorem gr_uf : (Rows.shellGrantsRow.unfollowed == Tryz.prog.unfollowed 3) = true := by kernel_rfl
theorem gr_rc : (Rows.shellGrantsRow.recurses == Tryz.prog.recurses 3) = true := by kernel_rfl
theorem gr_vn : (Rows.shellGrantsRow.named == Tryz.prog.varsNamed 3) = true := by kernel_rfl
theorem gr_facts : joinedFacts Tryz.prog 3 Tryz.f3 Rows.shellGrantsSpec Rows.shellGrantsRow = true := by
  unfold joinedFacts
  rw [gr_ip, gr_uf, gr_rc, gr_vn]
  kernel_rfl
end Go.Proofs.YtgogidieibkimaaGreatDoor
