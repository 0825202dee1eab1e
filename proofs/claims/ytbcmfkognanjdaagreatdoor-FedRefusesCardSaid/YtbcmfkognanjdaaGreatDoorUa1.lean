/- FedRefuses: attempts on a node as rows, part 1. No conditions. -/
import Derived.Test.YtbcmfkognanjdaaGreatDoorUb
namespace Go.Proofs.YtbcmfkognanjdaaGreatDoor
open Go Go.W Go.Proofs
set_option maxRecDepth 100000
theorem fuA0_ok : RowC C0 173 fuA0 := ⟨by kernel_rfl⟩
theorem fuA1_ok : RowC C0 173 fuA1 := ⟨by kernel_rfl⟩
theorem fuA2_ok : RowC C0 173 fuA2 := ⟨by kernel_rfl⟩
theorem fuA3_ok : RowC C0 173 fuA3 := ⟨by kernel_rfl⟩
end Go.Proofs.YtbcmfkognanjdaaGreatDoor
