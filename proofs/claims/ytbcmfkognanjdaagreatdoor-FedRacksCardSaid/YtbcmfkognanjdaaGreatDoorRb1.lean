/- FedRacks: steps as rows, part 1. No conditions. -/
import Derived.Test.YtbcmfkognanjdaaGreatDoorRo
namespace Go.Proofs.YtbcmfkognanjdaaGreatDoor
open Go Go.W Go.Proofs
set_option maxRecDepth 100000
theorem frM0_ok : RowC frC 27 frM0 := ⟨by kernel_rfl⟩
theorem frM6_ok : RowC frC 27 frM6 := ⟨by kernel_rfl⟩
theorem frM12_ok : RowC frC 27 frM12 := ⟨by kernel_rfl⟩
theorem frM18_ok : RowC frC 27 frM18 := ⟨by kernel_rfl⟩
theorem frM24_ok : RowC frC 27 frM24 := ⟨by kernel_rfl⟩
theorem frM30_ok : RowC frC 27 frM30 := ⟨by kernel_rfl⟩
theorem frM36_ok : RowC frC 27 frM36 := ⟨by kernel_rfl⟩
theorem frM42_ok : RowC frC 27 frM42 := ⟨by kernel_rfl⟩
theorem frM48_ok : RowC frC 27 frM48 := ⟨by kernel_rfl⟩
theorem frM54_ok : RowC frC 27 frM54 := ⟨by kernel_rfl⟩
theorem frM60_ok : RowC frC 27 frM60 := ⟨by kernel_rfl⟩
theorem frM66_ok : RowC frC 27 frM66 := ⟨by kernel_rfl⟩
end Go.Proofs.YtbcmfkognanjdaaGreatDoor
