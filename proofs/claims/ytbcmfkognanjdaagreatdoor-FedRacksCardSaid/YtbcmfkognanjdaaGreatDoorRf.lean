/- FedRacks: what its row says of the program, fact by fact. No conditions. -/
import Derived.Test.YtbcmfkognanjdaaGreatDoorFe
namespace Go.Proofs.YtbcmfkognanjdaaGreatDoor
open Go Go.W Go.Proofs Go.ChangeShapes Go.WideShapes Go.ChangeAt Go.RowKit
set_option maxRecDepth 100000
theorem fr_ip : (Rows.fedRacksRow.inPlace == Tryz.prog.inPlace 4) = true := by kernel_rfl
theorem fr_uf : (Rows.fedRacksRow.unfollowed == Tryz.prog.unfollowed 4) = true := by kernel_rfl
theorem fr_rc : (Rows.fedRacksRow.recurses == Tryz.prog.recurses 4) = true := by kernel_rfl
theorem fr_vn : (Rows.fedRacksRow.named == Tryz.prog.varsNamed 4) = true := by kernel_rfl
theorem fr_facts : joinedFacts Tryz.prog 4 Tryz.f4 Rows.fedRacksSpec Rows.fedRacksRow = true := by
  unfold joinedFacts
  rw [fr_ip, fr_uf, fr_rc, fr_vn]
  kernel_rfl
end Go.Proofs.YtbcmfkognanjdaaGreatDoor
