/- FedSubmits: steps as rows, part 2. No conditions. -/
import Derived.Test.YtbcmfkognanjdaaGreatDoorSb
namespace Go.Proofs.YtbcmfkognanjdaaGreatDoor
open Go Go.W Go.Proofs
set_option maxRecDepth 100000
theorem fsM1_ok : RowC C0 27 fsM1 := ⟨by kernel_rfl⟩
theorem fsM5_ok : RowC C0 27 fsM5 := ⟨by kernel_rfl⟩
theorem fsM9_ok : RowC C0 27 fsM9 := ⟨by kernel_rfl⟩
theorem fsM13_ok : RowC C0 27 fsM13 := ⟨by kernel_rfl⟩
theorem fsM17_ok : RowC C0 27 fsM17 := ⟨by kernel_rfl⟩
end Go.Proofs.YtbcmfkognanjdaaGreatDoor
