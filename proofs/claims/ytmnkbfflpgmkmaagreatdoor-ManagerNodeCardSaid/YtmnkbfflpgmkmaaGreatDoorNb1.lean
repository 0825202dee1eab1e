/- ManagerNode: rows hold, part 1. No conditions. -/
import Derived.Test.YtmnkbfflpgmkmaaGreatDoorNo
namespace Go.Proofs.YtmnkbfflpgmkmaaGreatDoor
open Go Go.W Go.Proofs
set_option maxRecDepth 100000
theorem nnM0_ok : RowC nnC 8 nnM0 := ⟨by kernel_rfl⟩
theorem nnM6_ok : RowC nnC 10 nnM6 := ⟨by kernel_rfl⟩
theorem nnM12_ok : RowC nnC 8 nnM12 := ⟨by kernel_rfl⟩
theorem nnM18_ok : RowC nnC 8 nnM18 := ⟨by kernel_rfl⟩
theorem nnM24_ok : RowC nnC 8 nnM24 := ⟨by kernel_rfl⟩
theorem nnM30_ok : RowC nnC 10 nnM30 := ⟨by kernel_rfl⟩
theorem nnM36_ok : RowC nnC 10 nnM36 := ⟨by kernel_rfl⟩
theorem nnM42_ok : RowC nnC 10 nnM42 := ⟨by kernel_rfl⟩
theorem nnM48_ok : RowC nnC 10 nnM48 := ⟨by kernel_rfl⟩
theorem nnM54_ok : RowC nnC 8 nnM54 := ⟨by kernel_rfl⟩
theorem nnM60_ok : RowC nnC 10 nnM60 := ⟨by kernel_rfl⟩
theorem nnM66_ok : RowC nnC 10 nnM66 := ⟨by kernel_rfl⟩
theorem nnM72_ok : RowC nnC 10 nnM72 := ⟨by kernel_rfl⟩
theorem nnM78_ok : RowC nnC 10 nnM78 := ⟨by kernel_rfl⟩
end Go.Proofs.YtmnkbfflpgmkmaaGreatDoor
