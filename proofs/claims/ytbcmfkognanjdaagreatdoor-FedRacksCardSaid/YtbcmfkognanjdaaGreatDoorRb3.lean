/- FedRacks: steps as rows, part 3. No conditions. -/
import Derived.Test.YtbcmfkognanjdaaGreatDoorRo
namespace Go.Proofs.YtbcmfkognanjdaaGreatDoor
open Go Go.W Go.Proofs
set_option maxRecDepth 100000
theorem frM2_ok : RowC frC 27 frM2 := ⟨by kernel_rfl⟩
theorem frM8_ok : RowC frC 27 frM8 := ⟨by kernel_rfl⟩
theorem frM14_ok : RowC frC 27 frM14 := ⟨by kernel_rfl⟩
theorem frM20_ok : RowC frC 27 frM20 := ⟨by kernel_rfl⟩
theorem frM26_ok : RowC frC 27 frM26 := ⟨by kernel_rfl⟩
theorem frM32_ok : RowC frC 27 frM32 := ⟨by kernel_rfl⟩
theorem frM38_ok : RowC frC 27 frM38 := ⟨by kernel_rfl⟩
theorem frM44_ok : RowC frC 27 frM44 := ⟨by kernel_rfl⟩
theorem frM50_ok : RowC frC 27 frM50 := ⟨by kernel_rfl⟩
theorem frM56_ok : RowC frC 27 frM56 := ⟨by kernel_rfl⟩
theorem frM62_ok : RowC frC 27 frM62 := ⟨by kernel_rfl⟩
end Go.Proofs.YtbcmfkognanjdaaGreatDoor
