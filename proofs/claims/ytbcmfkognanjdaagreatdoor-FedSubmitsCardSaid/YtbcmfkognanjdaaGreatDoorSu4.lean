/- FedSubmits: copies of states, part 4. No conditions. -/
import Derived.Test.YtbcmfkognanjdaaGreatDoorSu
namespace Go.Proofs.YtbcmfkognanjdaaGreatDoor
open Go Go.W Go.Proofs
set_option maxRecDepth 100000
theorem fsLo13_ok : RowC C0 29 (fsLo fsM13) := ⟨by kernel_rfl⟩
theorem fsLo12_ok : RowC C0 29 (fsLo fsM12) := ⟨by kernel_rfl⟩
theorem fsLo5_ok : RowC C0 29 (fsLo fsM5) := ⟨by kernel_rfl⟩
theorem fsLo4_ok : RowC C0 29 (fsLo fsM4) := ⟨by kernel_rfl⟩
end Go.Proofs.YtbcmfkognanjdaaGreatDoor
