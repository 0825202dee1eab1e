/- FedSubmits: what is submitted, as rows, part 5. No conditions. -/
import Derived.Test.YtbcmfkognanjdaaGreatDoorSo
import Derived.Test.YtbcmfkognanjdaaGreatDoorSr
import Derived.Test.YtbcmfkognanjdaaGreatDoorSt
namespace Go.Proofs.YtbcmfkognanjdaaGreatDoor
open Go Go.W Go.Proofs
set_option maxRecDepth 100000
theorem fsS4_ok : RowS fsS4 := ⟨by kernel_rfl⟩
theorem fsS10_ok : RowS fsS10 := ⟨by kernel_rfl⟩
theorem fsS16_ok : RowS fsS16 := ⟨by kernel_rfl⟩
theorem fsS22_ok : RowS fsS22 := ⟨by kernel_rfl⟩
theorem fsS28_ok : RowS fsS28 := ⟨by kernel_rfl⟩
theorem fsS34_ok : RowS fsS34 := ⟨by kernel_rfl⟩
end Go.Proofs.YtbcmfkognanjdaaGreatDoor
