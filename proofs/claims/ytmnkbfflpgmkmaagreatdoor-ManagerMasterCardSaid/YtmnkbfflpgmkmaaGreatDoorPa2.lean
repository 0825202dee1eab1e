/- ManagerMaster: attempts on a node as rows, part 2. No conditions. -/
import Derived.Test.YtmnkbfflpgmkmaaGreatDoorPb
namespace Go.Proofs.YtmnkbfflpgmkmaaGreatDoor
open Go Go.W Go.Proofs
set_option maxRecDepth 100000
theorem ppA1_ok : RowC C0 162 ppA1 := ⟨by kernel_rfl⟩
theorem ppA9_ok : RowC C0 162 ppA9 := ⟨by kernel_rfl⟩
theorem ppA17_ok : RowC C0 162 ppA17 := ⟨by kernel_rfl⟩
theorem ppA25_ok : RowC C0 162 ppA25 := ⟨by kernel_rfl⟩
theorem ppA33_ok : RowC C0 162 ppA33 := ⟨by kernel_rfl⟩
theorem ppA41_ok : RowC C0 162 ppA41 := ⟨by kernel_rfl⟩
theorem ppA49_ok : RowC C0 162 ppA49 := ⟨by kernel_rfl⟩
theorem ppA57_ok : RowC C0 162 ppA57 := ⟨by kernel_rfl⟩
theorem ppA65_ok : RowC C0 162 ppA65 := ⟨by kernel_rfl⟩
theorem ppA73_ok : RowC C0 162 ppA73 := ⟨by kernel_rfl⟩
theorem ppA81_ok : RowC C0 162 ppA81 := ⟨by kernel_rfl⟩
theorem ppA89_ok : RowC C0 162 ppA89 := ⟨by kernel_rfl⟩
end Go.Proofs.YtmnkbfflpgmkmaaGreatDoor
