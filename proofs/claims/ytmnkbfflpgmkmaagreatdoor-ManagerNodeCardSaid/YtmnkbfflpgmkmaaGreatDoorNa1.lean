/- ManagerNode: attempts on a node as rows, part 1. No conditions. -/
import Derived.Test.YtmnkbfflpgmkmaaGreatDoorNb
namespace Go.Proofs.YtmnkbfflpgmkmaaGreatDoor
open Go Go.W Go.Proofs
set_option maxRecDepth 100000
theorem nnA0_ok : RowC C0 162 nnA0 := ⟨by kernel_rfl⟩
theorem nnA1_ok : RowC C0 162 nnA1 := ⟨by kernel_rfl⟩
theorem nnA2_ok : RowC C0 162 nnA2 := ⟨by kernel_rfl⟩
theorem nnA3_ok : RowC C0 162 nnA3 := ⟨by kernel_rfl⟩
theorem nnA4_ok : RowC C0 162 nnA4 := ⟨by kernel_rfl⟩
theorem nnA5_ok : RowC C0 162 nnA5 := ⟨by kernel_rfl⟩
theorem nnA6_ok : RowC C0 162 nnA6 := ⟨by kernel_rfl⟩
theorem nnA7_ok : RowC C0 162 nnA7 := ⟨by kernel_rfl⟩
end Go.Proofs.YtmnkbfflpgmkmaaGreatDoor
