/- FedRacks: attempts on a node as rows, part 1. No conditions. -/
import Derived.Test.YtbcmfkognanjdaaGreatDoorRb
namespace Go.Proofs.YtbcmfkognanjdaaGreatDoor
open Go Go.W Go.Proofs
set_option maxRecDepth 100000
theorem frA0_ok : RowC C0 173 frA0 := ⟨by kernel_rfl⟩
theorem frA1_ok : RowC C0 173 frA1 := ⟨by kernel_rfl⟩
theorem frA2_ok : RowC C0 173 frA2 := ⟨by kernel_rfl⟩
theorem frA3_ok : RowC C0 173 frA3 := ⟨by kernel_rfl⟩
end Go.Proofs.YtbcmfkognanjdaaGreatDoor
