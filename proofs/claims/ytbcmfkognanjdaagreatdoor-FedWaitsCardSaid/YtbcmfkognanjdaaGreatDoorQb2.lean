/- FedWaits: steps as rows, part 2. No conditions. -/
import Derived.Test.YtbcmfkognanjdaaGreatDoorQo
namespace Go.Proofs.YtbcmfkognanjdaaGreatDoor
open Go Go.W Go.Proofs
set_option maxRecDepth 100000
theorem fqM1_ok : RowC fqC 27 fqM1 := ⟨by kernel_rfl⟩
theorem fqM4_ok : RowC fqC 27 fqM4 := ⟨by kernel_rfl⟩
theorem fqM7_ok : RowC fqC 27 fqM7 := ⟨by kernel_rfl⟩
theorem fqM10_ok : RowC fqC 27 fqM10 := ⟨by kernel_rfl⟩
theorem fqM13_ok : RowC fqC 27 fqM13 := ⟨by kernel_rfl⟩
theorem fqM16_ok : RowC fqC 27 fqM16 := ⟨by kernel_rfl⟩
theorem fqM19_ok : RowC fqC 27 fqM19 := ⟨by kernel_rfl⟩
theorem fqM22_ok : RowC fqC 27 fqM22 := ⟨by kernel_rfl⟩
end Go.Proofs.YtbcmfkognanjdaaGreatDoor
