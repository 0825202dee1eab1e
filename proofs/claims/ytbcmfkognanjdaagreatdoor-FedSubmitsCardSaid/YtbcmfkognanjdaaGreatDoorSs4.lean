/- FedSubmits: what is submitted, as rows, part 4. No conditions. -/
import Derived.Test.YtbcmfkognanjdaaGreatDoorSo
import Derived.Test.YtbcmfkognanjdaaGreatDoorSr
import Derived.Test.YtbcmfkognanjdaaGreatDoorSt
namespace Go.Proofs.YtbcmfkognanjdaaGreatDoor
open Go Go.W Go.Proofs
set_option maxRecDepth 100000
theorem fsS3_ok : RowS fsS3 := ⟨by kernel_rfl⟩
theorem fsS9_ok : RowS fsS9 := ⟨by kernel_rfl⟩
theorem fsS15_ok : RowS fsS15 := ⟨by kernel_rfl⟩
theorem fsS21_ok : RowS fsS21 := ⟨by kernel_rfl⟩
theorem fsS27_ok : RowS fsS27 := ⟨by kernel_rfl⟩
theorem fsS33_ok : RowS fsS33 := ⟨by kernel_rfl⟩
end Go.Proofs.YtbcmfkognanjdaaGreatDoor
