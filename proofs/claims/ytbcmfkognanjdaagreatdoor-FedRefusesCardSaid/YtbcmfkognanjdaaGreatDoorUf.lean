/- FedRefuses: what its row says of the program, fact by fact. No conditions. -/
import Derived.Test.YtbcmfkognanjdaaGreatDoorFe
namespace Go.Proofs.YtbcmfkognanjdaaGreatDoor
open Go Go.W Go.Proofs Go.ChangeShapes Go.WideShapes Go.ChangeAt Go.RowKit
set_option maxRecDepth 100000
theorem fu_ip : (Rows.fedRefusesRow.inPlace == Tryz.prog.inPlace 6) = true := by kernel_rfl
theorem fu_uf : (Rows.fedRefusesRow.unfollowed == Tryz.prog.unfollowed 6) = true := by kernel_rfl
theorem fu_rc : (Rows.fedRefusesRow.recurses == Tryz.prog.recurses 6) = true := by kernel_rfl
theorem fu_vn : (Rows.fedRefusesRow.named == Tryz.prog.varsNamed 6) = true := by kernel_rfl
theorem fu_facts : joinedFacts Tryz.prog 6 Tryz.f6 Rows.fedRefusesSpec Rows.fedRefusesRow = true := by
  unfold joinedFacts
  rw [fu_ip, fu_uf, fu_rc, fu_vn]
  kernel_rfl
end Go.Proofs.YtbcmfkognanjdaaGreatDoor
