/- FedWaits: steps as rows, part 3. No conditions. -/
import Derived.Test.YtbcmfkognanjdaaGreatDoorQo
namespace Go.Proofs.YtbcmfkognanjdaaGreatDoor
open Go Go.W Go.Proofs
set_option maxRecDepth 100000
theorem fqM2_ok : RowC fqC 27 fqM2 := ⟨by kernel_rfl⟩
theorem fqM5_ok : RowC fqC 27 fqM5 := ⟨by kernel_rfl⟩
theorem fqM8_ok : RowC fqC 27 fqM8 := ⟨by kernel_rfl⟩
theorem fqM11_ok : RowC fqC 27 fqM11 := ⟨by kernel_rfl⟩
theorem fqM14_ok : RowC fqC 27 fqM14 := ⟨by kernel_rfl⟩
theorem fqM17_ok : RowC fqC 27 fqM17 := ⟨by kernel_rfl⟩
theorem fqM20_ok : RowC fqC 27 fqM20 := ⟨by kernel_rfl⟩
end Go.Proofs.YtbcmfkognanjdaaGreatDoor
