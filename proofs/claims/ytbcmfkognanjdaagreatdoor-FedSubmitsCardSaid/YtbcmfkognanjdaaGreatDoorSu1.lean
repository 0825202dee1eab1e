/- FedSubmits: copies of states, part 1. No conditions. -/
import Derived.Test.YtbcmfkognanjdaaGreatDoorSu
namespace Go.Proofs.YtbcmfkognanjdaaGreatDoor
open Go Go.W Go.Proofs
set_option maxRecDepth 100000
theorem fsLo16_ok : RowC C0 29 (fsLo fsM16) := ⟨by kernel_rfl⟩
theorem fsLo9_ok : RowC C0 29 (fsLo fsM9) := ⟨by kernel_rfl⟩
theorem fsLo8_ok : RowC C0 29 (fsLo fsM8) := ⟨by kernel_rfl⟩
theorem fsLo1_ok : RowC C0 29 (fsLo fsM1) := ⟨by kernel_rfl⟩
end Go.Proofs.YtbcmfkognanjdaaGreatDoor
