/- ManagerNode: rows hold, part 6. No conditions. -/
import Derived.Test.YtmnkbfflpgmkmaaGreatDoorNo
namespace Go.Proofs.YtmnkbfflpgmkmaaGreatDoor
open Go Go.W Go.Proofs
set_option maxRecDepth 100000
theorem nnM5_ok : RowC nnC 10 nnM5 := ⟨by kernel_rfl⟩
theorem nnM11_ok : RowC nnC 10 nnM11 := ⟨by kernel_rfl⟩
theorem nnM17_ok : RowC nnC 10 nnM17 := ⟨by kernel_rfl⟩
theorem nnM23_ok : RowC nnC 10 nnM23 := ⟨by kernel_rfl⟩
theorem nnM29_ok : RowC nnC 10 nnM29 := ⟨by kernel_rfl⟩
theorem nnM35_ok : RowC nnC 10 nnM35 := ⟨by kernel_rfl⟩
theorem nnM41_ok : RowC nnC 8 nnM41 := ⟨by kernel_rfl⟩
theorem nnM47_ok : RowC nnC 8 nnM47 := ⟨by kernel_rfl⟩
theorem nnM53_ok : RowC nnC 8 nnM53 := ⟨by kernel_rfl⟩
theorem nnM59_ok : RowC nnC 10 nnM59 := ⟨by kernel_rfl⟩
theorem nnM65_ok : RowC nnC 10 nnM65 := ⟨by kernel_rfl⟩
theorem nnM71_ok : RowC nnC 10 nnM71 := ⟨by kernel_rfl⟩
theorem nnM77_ok : RowC nnC 10 nnM77 := ⟨by kernel_rfl⟩
end Go.Proofs.YtmnkbfflpgmkmaaGreatDoor
