/- ManagerNode: rows hold, part 2. No conditions. -/
import Derived.Test.YtmnkbfflpgmkmaaGreatDoorNo
namespace Go.Proofs.YtmnkbfflpgmkmaaGreatDoor
open Go Go.W Go.Proofs
set_option maxRecDepth 100000
theorem nnM1_ok : RowC nnC 8 nnM1 := ⟨by kernel_rfl⟩
theorem nnM7_ok : RowC nnC 10 nnM7 := ⟨by kernel_rfl⟩
theorem nnM13_ok : RowC nnC 10 nnM13 := ⟨by kernel_rfl⟩
theorem nnM19_ok : RowC nnC 10 nnM19 := ⟨by kernel_rfl⟩
theorem nnM25_ok : RowC nnC 10 nnM25 := ⟨by kernel_rfl⟩
theorem nnM31_ok : RowC nnC 10 nnM31 := ⟨by kernel_rfl⟩
theorem nnM37_ok : RowC nnC 10 nnM37 := ⟨by kernel_rfl⟩
theorem nnM43_ok : RowC nnC 10 nnM43 := ⟨by kernel_rfl⟩
theorem nnM49_ok : RowC nnC 10 nnM49 := ⟨by kernel_rfl⟩
theorem nnM55_ok : RowC nnC 10 nnM55 := ⟨by kernel_rfl⟩
theorem nnM61_ok : RowC nnC 10 nnM61 := ⟨by kernel_rfl⟩
theorem nnM67_ok : RowC nnC 8 nnM67 := ⟨by kernel_rfl⟩
theorem nnM73_ok : RowC nnC 8 nnM73 := ⟨by kernel_rfl⟩
end Go.Proofs.YtmnkbfflpgmkmaaGreatDoor
