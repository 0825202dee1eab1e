/- FedSubmits: what is submitted, as rows, part 1. No conditions. -/
import Derived.Test.YtbcmfkognanjdaaGreatDoorSo
import Derived.Test.YtbcmfkognanjdaaGreatDoorSr
import Derived.Test.YtbcmfkognanjdaaGreatDoorSt
namespace Go.Proofs.YtbcmfkognanjdaaGreatDoor
open Go Go.W Go.Proofs
set_option maxRecDepth 100000
theorem fsS0_ok : RowS fsS0 := ⟨by kernel_rfl⟩
theorem fsS6_ok : RowS fsS6 := ⟨by kernel_rfl⟩
theorem fsS12_ok : RowS fsS12 := ⟨by kernel_rfl⟩
theorem fsS18_ok : RowS fsS18 := ⟨by kernel_rfl⟩
theorem fsS24_ok : RowS fsS24 := ⟨by kernel_rfl⟩
theorem fsS30_ok : RowS fsS30 := ⟨by kernel_rfl⟩
theorem fsS36_ok : RowS fsS36 := ⟨by kernel_rfl⟩
end Go.Proofs.YtbcmfkognanjdaaGreatDoor
