/- FedSubmits: steps as rows, part 1. No conditions. -/
import Derived.Test.YtbcmfkognanjdaaGreatDoorSb
namespace Go.Proofs.YtbcmfkognanjdaaGreatDoor
open Go Go.W Go.Proofs
set_option maxRecDepth 100000
theorem fsM0_ok : RowC C0 27 fsM0 := ⟨by kernel_rfl⟩
theorem fsM4_ok : RowC C0 27 fsM4 := ⟨by kernel_rfl⟩
theorem fsM8_ok : RowC C0 27 fsM8 := ⟨by kernel_rfl⟩
theorem fsM12_ok : RowC C0 27 fsM12 := ⟨by kernel_rfl⟩
theorem fsM16_ok : RowC C0 27 fsM16 := ⟨by kernel_rfl⟩
end Go.Proofs.YtbcmfkognanjdaaGreatDoor
