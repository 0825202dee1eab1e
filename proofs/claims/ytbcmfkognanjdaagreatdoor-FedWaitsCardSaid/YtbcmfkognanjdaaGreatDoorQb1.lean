/- FedWaits: steps as rows, part 1. No conditions. -/
import Derived.Test.YtbcmfkognanjdaaGreatDoorQo
namespace Go.Proofs.YtbcmfkognanjdaaGreatDoor
open Go Go.W Go.Proofs
set_option maxRecDepth 100000
theorem fqM0_ok : RowC fqC 27 fqM0 := ⟨by kernel_rfl⟩
theorem fqM3_ok : RowC fqC 27 fqM3 := ⟨by kernel_rfl⟩
theorem fqM6_ok : RowC fqC 27 fqM6 := ⟨by kernel_rfl⟩
theorem fqM9_ok : RowC fqC 27 fqM9 := ⟨by kernel_rfl⟩
theorem fqM12_ok : RowC fqC 27 fqM12 := ⟨by kernel_rfl⟩
theorem fqM15_ok : RowC fqC 27 fqM15 := ⟨by kernel_rfl⟩
theorem fqM18_ok : RowC fqC 27 fqM18 := ⟨by kernel_rfl⟩
theorem fqM21_ok : RowC fqC 27 fqM21 := ⟨by kernel_rfl⟩
end Go.Proofs.YtbcmfkognanjdaaGreatDoor
