/- ManagerNode: rows hold, part 3. No conditions. -/
import Derived.Test.YtmnkbfflpgmkmaaGreatDoorNo
namespace Go.Proofs.YtmnkbfflpgmkmaaGreatDoor
open Go Go.W Go.Proofs
set_option maxRecDepth 100000
theorem nnM2_ok : RowC nnC 8 nnM2 := ⟨by kernel_rfl⟩
theorem nnM8_ok : RowC nnC 10 nnM8 := ⟨by kernel_rfl⟩
theorem nnM14_ok : RowC nnC 10 nnM14 := ⟨by kernel_rfl⟩
theorem nnM20_ok : RowC nnC 10 nnM20 := ⟨by kernel_rfl⟩
theorem nnM26_ok : RowC nnC 10 nnM26 := ⟨by kernel_rfl⟩
theorem nnM32_ok : RowC nnC 10 nnM32 := ⟨by kernel_rfl⟩
theorem nnM38_ok : RowC nnC 8 nnM38 := ⟨by kernel_rfl⟩
theorem nnM44_ok : RowC nnC 8 nnM44 := ⟨by kernel_rfl⟩
theorem nnM50_ok : RowC nnC 8 nnM50 := ⟨by kernel_rfl⟩
theorem nnM56_ok : RowC nnC 10 nnM56 := ⟨by kernel_rfl⟩
theorem nnM62_ok : RowC nnC 10 nnM62 := ⟨by kernel_rfl⟩
theorem nnM68_ok : RowC nnC 10 nnM68 := ⟨by kernel_rfl⟩
theorem nnM74_ok : RowC nnC 10 nnM74 := ⟨by kernel_rfl⟩
end Go.Proofs.YtmnkbfflpgmkmaaGreatDoor
