/- ManagerNode: rows hold, part 5. No conditions. -/
import Derived.Test.YtmnkbfflpgmkmaaGreatDoorNo
namespace Go.Proofs.YtmnkbfflpgmkmaaGreatDoor
open Go Go.W Go.Proofs
set_option maxRecDepth 100000
theorem nnM4_ok : RowC nnC 10 nnM4 := ⟨by kernel_rfl⟩
theorem nnM10_ok : RowC nnC 10 nnM10 := ⟨by kernel_rfl⟩
theorem nnM16_ok : RowC nnC 10 nnM16 := ⟨by kernel_rfl⟩
theorem nnM22_ok : RowC nnC 10 nnM22 := ⟨by kernel_rfl⟩
theorem nnM28_ok : RowC nnC 8 nnM28 := ⟨by kernel_rfl⟩
theorem nnM34_ok : RowC nnC 10 nnM34 := ⟨by kernel_rfl⟩
theorem nnM40_ok : RowC nnC 10 nnM40 := ⟨by kernel_rfl⟩
theorem nnM46_ok : RowC nnC 10 nnM46 := ⟨by kernel_rfl⟩
theorem nnM52_ok : RowC nnC 10 nnM52 := ⟨by kernel_rfl⟩
theorem nnM58_ok : RowC nnC 10 nnM58 := ⟨by kernel_rfl⟩
theorem nnM64_ok : RowC nnC 8 nnM64 := ⟨by kernel_rfl⟩
theorem nnM70_ok : RowC nnC 8 nnM70 := ⟨by kernel_rfl⟩
theorem nnM76_ok : RowC nnC 8 nnM76 := ⟨by kernel_rfl⟩
end Go.Proofs.YtmnkbfflpgmkmaaGreatDoor
