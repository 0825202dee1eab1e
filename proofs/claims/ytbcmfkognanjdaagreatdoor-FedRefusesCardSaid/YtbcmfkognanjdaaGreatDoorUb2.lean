/- FedRefuses: steps as rows, part 2. No conditions. -/
import Derived.Test.YtbcmfkognanjdaaGreatDoorUo
namespace Go.Proofs.YtbcmfkognanjdaaGreatDoor
open Go Go.W Go.Proofs
set_option maxRecDepth 100000
theorem fuM1_ok : RowC fuC 27 fuM1 := ⟨by kernel_rfl⟩
theorem fuM3_ok : RowC fuC 27 fuM3 := ⟨by kernel_rfl⟩
theorem fuM5_ok : RowC fuC 27 fuM5 := ⟨by kernel_rfl⟩
theorem fuM7_ok : RowC fuC 27 fuM7 := ⟨by kernel_rfl⟩
end Go.Proofs.YtbcmfkognanjdaaGreatDoor
