/- FedSubmits: what is submitted, as rows, part 6. No conditions. -/
import Derived.Test.YtbcmfkognanjdaaGreatDoorSo
import Derived.Test.YtbcmfkognanjdaaGreatDoorSr
import Derived.Test.YtbcmfkognanjdaaGreatDoorSt
namespace Go.Proofs.YtbcmfkognanjdaaGreatDoor
open Go Go.W Go.Proofs
set_option maxRecDepth 100000
theorem fsS5_ok : RowS fsS5 := ⟨by kernel_rfl⟩
theorem fsS11_ok : RowS fsS11 := ⟨by kernel_rfl⟩
theorem fsS17_ok : RowS fsS17 := ⟨by kernel_rfl⟩
theorem fsS23_ok : RowS fsS23 := ⟨by kernel_rfl⟩
theorem fsS29_ok : RowS fsS29 := ⟨by kernel_rfl⟩
theorem fsS35_ok : RowS fsS35 := ⟨by kernel_rfl⟩
end Go.Proofs.YtbcmfkognanjdaaGreatDoor
