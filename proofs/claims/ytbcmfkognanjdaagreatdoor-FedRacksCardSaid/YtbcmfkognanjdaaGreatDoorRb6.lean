/- FedRacks: steps as rows, part 6. No conditions. -/
import Derived.Test.YtbcmfkognanjdaaGreatDoorRo
namespace Go.Proofs.YtbcmfkognanjdaaGreatDoor
open Go Go.W Go.Proofs
set_option maxRecDepth 100000
theorem frM5_ok : RowC frC 27 frM5 := ⟨by kernel_rfl⟩
theorem frM11_ok : RowC frC 27 frM11 := ⟨by kernel_rfl⟩
theorem frM17_ok : RowC frC 27 frM17 := ⟨by kernel_rfl⟩
theorem frM23_ok : RowC frC 27 frM23 := ⟨by kernel_rfl⟩
theorem frM29_ok : RowC frC 27 frM29 := ⟨by kernel_rfl⟩
theorem frM35_ok : RowC frC 27 frM35 := ⟨by kernel_rfl⟩
theorem frM41_ok : RowC frC 27 frM41 := ⟨by kernel_rfl⟩
theorem frM47_ok : RowC frC 27 frM47 := ⟨by kernel_rfl⟩
theorem frM53_ok : RowC frC 27 frM53 := ⟨by kernel_rfl⟩
theorem frM59_ok : RowC frC 27 frM59 := ⟨by kernel_rfl⟩
theorem frM65_ok : RowC frC 27 frM65 := ⟨by kernel_rfl⟩
end Go.Proofs.YtbcmfkognanjdaaGreatDoor
