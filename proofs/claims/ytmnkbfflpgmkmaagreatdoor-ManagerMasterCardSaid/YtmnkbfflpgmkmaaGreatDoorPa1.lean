/- ManagerMaster: attempts on a node as rows, part 1. No conditions. -/
import Derived.Test.YtmnkbfflpgmkmaaGreatDoorPb
namespace Go.Proofs.YtmnkbfflpgmkmaaGreatDoor
open Go Go.W Go.Proofs
set_option maxRecDepth 100000
theorem ppA0_ok : RowC C0 162 ppA0 := ⟨by kernel_rfl⟩
theorem ppA8_ok : RowC C0 162 ppA8 := ⟨by kernel_rfl⟩
theorem ppA16_ok : RowC C0 162 ppA16 := ⟨by kernel_rfl⟩
theorem ppA24_ok : RowC C0 162 ppA24 := ⟨by kernel_rfl⟩
theorem ppA32_ok : RowC C0 162 ppA32 := ⟨by kernel_rfl⟩
theorem ppA40_ok : RowC C0 162 ppA40 := ⟨by kernel_rfl⟩
theorem ppA48_ok : RowC C0 162 ppA48 := ⟨by kernel_rfl⟩
theorem ppA56_ok : RowC C0 162 ppA56 := ⟨by kernel_rfl⟩
theorem ppA64_ok : RowC C0 162 ppA64 := ⟨by kernel_rfl⟩
theorem ppA72_ok : RowC C0 162 ppA72 := ⟨by kernel_rfl⟩
theorem ppA80_ok : RowC C0 162 ppA80 := ⟨by kernel_rfl⟩
theorem ppA88_ok : RowC C0 162 ppA88 := ⟨by kernel_rfl⟩
end Go.Proofs.YtmnkbfflpgmkmaaGreatDoor
