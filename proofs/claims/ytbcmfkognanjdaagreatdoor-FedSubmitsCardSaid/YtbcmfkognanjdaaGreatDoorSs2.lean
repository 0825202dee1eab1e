/- FedSubmits: what is submitted, as rows, part 2. No conditions. -/
import Derived.Test.YtbcmfkognanjdaaGreatDoorSo
import Derived.Test.YtbcmfkognanjdaaGreatDoorSr
import Derived.Test.YtbcmfkognanjdaaGreatDoorSt
namespace Go.Proofs.YtbcmfkognanjdaaGreatDoor
open Go Go.W Go.Proofs
set_option maxRecDepth 100000
theorem fsS1_ok : RowS fsS1 := ⟨by kernel_rfl⟩
theorem fsS7_ok : RowS fsS7 := ⟨by kernel_rfl⟩
theorem fsS13_ok : RowS fsS13 := ⟨by kernel_rfl⟩
theorem fsS19_ok : RowS fsS19 := ⟨by kernel_rfl⟩
theorem fsS25_ok : RowS fsS25 := ⟨by kernel_rfl⟩
theorem fsS31_ok : RowS fsS31 := ⟨by kernel_rfl⟩
theorem fsS37_ok : RowS fsS37 := ⟨by kernel_rfl⟩
end Go.Proofs.YtbcmfkognanjdaaGreatDoor
