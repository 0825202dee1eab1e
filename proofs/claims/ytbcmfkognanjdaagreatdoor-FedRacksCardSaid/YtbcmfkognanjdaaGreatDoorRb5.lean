/- FedRacks: steps as rows, part 5. No conditions. -/
import Derived.Test.YtbcmfkognanjdaaGreatDoorRo
namespace Go.Proofs.YtbcmfkognanjdaaGreatDoor
open Go Go.W Go.Proofs
set_option maxRecDepth 100000
theorem frM4_ok : RowC frC 27 frM4 := ⟨by kernel_rfl⟩
theorem frM10_ok : RowC frC 27 frM10 := ⟨by kernel_rfl⟩
theorem frM16_ok : RowC frC 27 frM16 := ⟨by kernel_rfl⟩
theorem frM22_ok : RowC frC 27 frM22 := ⟨by kernel_rfl⟩
theorem frM28_ok : RowC frC 27 frM28 := ⟨by kernel_rfl⟩
theorem frM34_ok : RowC frC 27 frM34 := ⟨by kernel_rfl⟩
theorem frM40_ok : RowC frC 27 frM40 := ⟨by kernel_rfl⟩
theorem frM46_ok : RowC frC 27 frM46 := ⟨by kernel_rfl⟩
theorem frM52_ok : RowC frC 27 frM52 := ⟨by kernel_rfl⟩
theorem frM58_ok : RowC frC 27 frM58 := ⟨by kernel_rfl⟩
theorem frM64_ok : RowC frC 27 frM64 := ⟨by kernel_rfl⟩
end Go.Proofs.YtbcmfkognanjdaaGreatDoor
