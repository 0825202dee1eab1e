/- FedSubmits: what is submitted, as rows, part 3. No conditions. -/
import Derived.Test.YtbcmfkognanjdaaGreatDoorSo
import Derived.Test.YtbcmfkognanjdaaGreatDoorSr
import Derived.Test.YtbcmfkognanjdaaGreatDoorSt
namespace Go.Proofs.YtbcmfkognanjdaaGreatDoor
open Go Go.W Go.Proofs
set_option maxRecDepth 100000
theorem fsS2_ok : RowS fsS2 := ⟨by kernel_rfl⟩
theorem fsS8_ok : RowS fsS8 := ⟨by kernel_rfl⟩
theorem fsS14_ok : RowS fsS14 := ⟨by kernel_rfl⟩
theorem fsS20_ok : RowS fsS20 := ⟨by kernel_rfl⟩
theorem fsS26_ok : RowS fsS26 := ⟨by kernel_rfl⟩
theorem fsS32_ok : RowS fsS32 := ⟨by kernel_rfl⟩
end Go.Proofs.YtbcmfkognanjdaaGreatDoor
