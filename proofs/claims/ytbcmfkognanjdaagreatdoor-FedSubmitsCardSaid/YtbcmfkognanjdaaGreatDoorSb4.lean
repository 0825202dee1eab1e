/- FedSubmits: steps as rows, part 4. No conditions. -/
import Derived.Test.YtbcmfkognanjdaaGreatDoorSb
namespace Go.Proofs.YtbcmfkognanjdaaGreatDoor
open Go Go.W Go.Proofs
set_option maxRecDepth 100000
theorem fsM3_ok : RowC C0 27 fsM3 := ⟨by kernel_rfl⟩
theorem fsM7_ok : RowC C0 27 fsM7 := ⟨by kernel_rfl⟩
theorem fsM11_ok : RowC C0 27 fsM11 := ⟨by kernel_rfl⟩
theorem fsM15_ok : RowC C0 27 fsM15 := ⟨by kernel_rfl⟩
end Go.Proofs.YtbcmfkognanjdaaGreatDoor
