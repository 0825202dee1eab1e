/- FedSubmits: what its row says of the program, fact by fact. No conditions. -/
import Derived.Test.YtbcmfkognanjdaaGreatDoorFe
namespace Go.Proofs.YtbcmfkognanjdaaGreatDoor
open Go Go.W Go.Proofs Go.ChangeShapes Go.WideShapes Go.ChangeAt Go.RowKit
set_option maxRecDepth 100000
theorem fs_ip : (Rows.fedSubmitsRow.inPlace == Tryz.prog.inPlace 3) = true := by kernel_rfl
theorem fs_uf : (Rows.fedSubmitsRow.unfollowed == Tryz.prog.unfollowed 3) = true := by kernel_rfl
theorem fs_rc : (Rows.fedSubmitsRow.recurses == Tryz.prog.recurses 3) = true := by kernel_rfl
theorem fs_vn : (Rows.fedSubmitsRow.named == Tryz.prog.varsNamed 3) = true := by kernel_rfl
theorem fs_facts : joinedFacts Tryz.prog 3 Tryz.f3 Rows.fedSubmitsSpec Rows.fedSubmitsRow = true := by
  unfold joinedFacts
  rw [fs_ip, fs_uf, fs_rc, fs_vn]
  kernel_rfl
end Go.Proofs.YtbcmfkognanjdaaGreatDoor
