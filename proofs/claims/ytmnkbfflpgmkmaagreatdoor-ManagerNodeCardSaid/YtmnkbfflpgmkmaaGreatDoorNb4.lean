/- ManagerNode: rows hold, part 4. No conditions. -/
import Derived.Test.YtmnkbfflpgmkmaaGreatDoorNo
namespace Go.Proofs.YtmnkbfflpgmkmaaGreatDoor
open Go Go.W Go.Proofs
set_option maxRecDepth 100000
theorem nnM3_ok : RowC nnC 10 nnM3 := ⟨by kernel_rfl⟩
theorem nnM9_ok : RowC nnC 10 nnM9 := ⟨by kernel_rfl⟩
theorem nnM15_ok : RowC nnC 8 nnM15 := ⟨by kernel_rfl⟩
theorem nnM21_ok : RowC nnC 8 nnM21 := ⟨by kernel_rfl⟩
theorem nnM27_ok : RowC nnC 8 nnM27 := ⟨by kernel_rfl⟩
theorem nnM33_ok : RowC nnC 10 nnM33 := ⟨by kernel_rfl⟩
theorem nnM39_ok : RowC nnC 10 nnM39 := ⟨by kernel_rfl⟩
theorem nnM45_ok : RowC nnC 10 nnM45 := ⟨by kernel_rfl⟩
theorem nnM51_ok : RowC nnC 10 nnM51 := ⟨by kernel_rfl⟩
theorem nnM57_ok : RowC nnC 10 nnM57 := ⟨by kernel_rfl⟩
theorem nnM63_ok : RowC nnC 10 nnM63 := ⟨by kernel_rfl⟩
theorem nnM69_ok : RowC nnC 10 nnM69 := ⟨by kernel_rfl⟩
theorem nnM75_ok : RowC nnC 10 nnM75 := ⟨by kernel_rfl⟩
end Go.Proofs.YtmnkbfflpgmkmaaGreatDoor
