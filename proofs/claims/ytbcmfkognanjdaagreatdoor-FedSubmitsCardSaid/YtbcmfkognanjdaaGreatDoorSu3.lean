/- FedSubmits: copies of states, part 3. No conditions. -/
import Derived.Test.YtbcmfkognanjdaaGreatDoorSu
namespace Go.Proofs.YtbcmfkognanjdaaGreatDoor
open Go Go.W Go.Proofs
set_option maxRecDepth 100000
theorem fsLo14_ok : RowC C0 29 (fsLo fsM14) := ⟨by kernel_rfl⟩
theorem fsLo11_ok : RowC C0 29 (fsLo fsM11) := ⟨by kernel_rfl⟩
theorem fsLo6_ok : RowC C0 29 (fsLo fsM6) := ⟨by kernel_rfl⟩
theorem fsLo3_ok : RowC C0 29 (fsLo fsM3) := ⟨by kernel_rfl⟩
end Go.Proofs.YtbcmfkognanjdaaGreatDoor
