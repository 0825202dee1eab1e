/- FedRefuses: steps as rows, part 1. No conditions. -/
import Derived.Test.YtbcmfkognanjdaaGreatDoorUo
namespace Go.Proofs.YtbcmfkognanjdaaGreatDoor
open Go Go.W Go.Proofs
set_option maxRecDepth 100000
theorem fuM0_ok : RowC fuC 27 fuM0 := ⟨by kernel_rfl⟩
theorem fuM2_ok : RowC fuC 27 fuM2 := ⟨by kernel_rfl⟩
theorem fuM4_ok : RowC fuC 27 fuM4 := ⟨by kernel_rfl⟩
theorem fuM6_ok : RowC fuC 27 fuM6 := ⟨by kernel_rfl⟩
theorem fuM8_ok : RowC fuC 27 fuM8 := ⟨by kernel_rfl⟩
end Go.Proofs.YtbcmfkognanjdaaGreatDoor
