/- FedRacks: steps as rows, part 4. No conditions. -/
import Derived.Test.YtbcmfkognanjdaaGreatDoorRo
namespace Go.Proofs.YtbcmfkognanjdaaGreatDoor
open Go Go.W Go.Proofs
set_option maxRecDepth 100000
theorem frM3_ok : RowC frC 27 frM3 := ⟨by kernel_rfl⟩
theorem frM9_ok : RowC frC 27 frM9 := ⟨by kernel_rfl⟩
theorem frM15_ok : RowC frC 27 frM15 := ⟨by kernel_rfl⟩
theorem frM21_ok : RowC frC 27 frM21 := ⟨by kernel_rfl⟩
theorem frM27_ok : RowC frC 27 frM27 := ⟨by kernel_rfl⟩
theorem frM33_ok : RowC frC 27 frM33 := ⟨by kernel_rfl⟩
theorem frM39_ok : RowC frC 27 frM39 := ⟨by kernel_rfl⟩
theorem frM45_ok : RowC frC 27 frM45 := ⟨by kernel_rfl⟩
theorem frM51_ok : RowC frC 27 frM51 := ⟨by kernel_rfl⟩
theorem frM57_ok : RowC frC 27 frM57 := ⟨by kernel_rfl⟩
theorem frM63_ok : RowC frC 27 frM63 := ⟨by kernel_rfl⟩
end Go.Proofs.YtbcmfkognanjdaaGreatDoor
