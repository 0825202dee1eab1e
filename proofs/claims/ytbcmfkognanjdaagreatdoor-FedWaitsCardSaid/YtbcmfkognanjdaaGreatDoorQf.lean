/- FedWaits: what its row says of the program, fact by fact. No conditions. -/
import Derived.Test.YtbcmfkognanjdaaGreatDoorFe
namespace Go.Proofs.YtbcmfkognanjdaaGreatDoor
open Go Go.W Go.Proofs Go.ChangeShapes Go.WideShapes Go.ChangeAt Go.RowKit
set_option maxRecDepth 100000
theorem fq_ip : (Rows.fedWaitsRow.inPlace == Tryz.prog.inPlace 5) = true := by kernel_rfl
theorem fq_uf : (Rows.fedWaitsRow.unfollowed == Tryz.prog.unfollowed 5) = true := by kernel_rfl
theorem fq_rc : (Rows.fedWaitsRow.recurses == Tryz.prog.recurses 5) = true := by kernel_rfl
theorem fq_vn : (Rows.fedWaitsRow.named == Tryz.prog.varsNamed 5) = true := by kernel_rfl
theorem fq_facts : joinedFacts Tryz.prog 5 Tryz.f5 Rows.fedWaitsSpec Rows.fedWaitsRow = true := by
  unfold joinedFacts
  rw [fq_ip, fq_uf, fq_rc, fq_vn]
  kernel_rfl
end Go.Proofs.YtbcmfkognanjdaaGreatDoor
