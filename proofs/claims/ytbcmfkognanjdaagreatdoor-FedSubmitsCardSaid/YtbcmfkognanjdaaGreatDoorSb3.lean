/- FedSubmits: steps as rows, part 3. No conditions. -/
import Derived.Test.YtbcmfkognanjdaaGreatDoorSb
namespace Go.Proofs.YtbcmfkognanjdaaGreatDoor
open Go Go.W Go.Proofs
set_option maxRecDepth 100000
theorem fsM2_ok : RowC C0 27 fsM2 := ⟨by kernel_rfl⟩
theorem fsM6_ok : RowC C0 27 fsM6 := ⟨by kernel_rfl⟩
theorem fsM10_ok : RowC C0 27 fsM10 := ⟨by kernel_rfl⟩
theorem fsM14_ok : RowC C0 27 fsM14 := ⟨by kernel_rfl⟩
theorem fsM18_ok : RowC C0 27 fsM18 := ⟨by kernel_rfl⟩
end Go.Proofs.YtbcmfkognanjdaaGreatDoor
