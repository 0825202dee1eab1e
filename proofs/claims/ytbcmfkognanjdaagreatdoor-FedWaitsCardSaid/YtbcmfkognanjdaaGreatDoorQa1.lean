/- FedWaits: attempts on a node as rows, part 1. No conditions. -/
import Derived.Test.YtbcmfkognanjdaaGreatDoorQb
namespace Go.Proofs.YtbcmfkognanjdaaGreatDoor
open Go Go.W Go.Proofs
set_option maxRecDepth 100000
theorem fqA0_ok : RowC C0 173 fqA0 := ⟨by kernel_rfl⟩
theorem fqA1_ok : RowC C0 173 fqA1 := ⟨by kernel_rfl⟩
end Go.Proofs.YtbcmfkognanjdaaGreatDoor
