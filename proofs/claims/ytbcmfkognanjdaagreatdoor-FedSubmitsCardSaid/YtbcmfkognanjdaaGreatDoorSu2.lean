/- FedSubmits: copies of states, part 2. No conditions. -/
import Derived.Test.YtbcmfkognanjdaaGreatDoorSu
namespace Go.Proofs.YtbcmfkognanjdaaGreatDoor
open Go Go.W Go.Proofs
set_option maxRecDepth 100000
theorem fsLo15_ok : RowC C0 29 (fsLo fsM15) := ⟨by kernel_rfl⟩
theorem fsLo10_ok : RowC C0 29 (fsLo fsM10) := ⟨by kernel_rfl⟩
theorem fsLo7_ok : RowC C0 29 (fsLo fsM7) := ⟨by kernel_rfl⟩
theorem fsLo2_ok : RowC C0 29 (fsLo fsM2) := ⟨by kernel_rfl⟩
end Go.Proofs.YtbcmfkognanjdaaGreatDoor
