/- ManagerMaster: attempts on a node as rows, part 8. No conditions. -/
import Derived.Test.YtmnkbfflpgmkmaaGreatDoorPb
namespace Go.Proofs.YtmnkbfflpgmkmaaGreatDoor
open Go Go.W Go.Proofs
set_option maxRecDepth 100000
theorem ppA7_ok : RowC C0 162 ppA7 := ⟨by kernel_rfl⟩
theorem ppA15_ok : RowC C0 162 ppA15 := ⟨by kernel_rfl⟩
theorem ppA23_ok : RowC C0 162 ppA23 := ⟨by kernel_rfl⟩
theorem ppA31_ok : RowC C0 162 ppA31 := ⟨by kernel_rfl⟩
theorem ppA39_ok : RowC C0 162 ppA39 := ⟨by kernel_rfl⟩
theorem ppA47_ok : RowC C0 162 ppA47 := ⟨by kernel_rfl⟩
theorem ppA55_ok : RowC C0 162 ppA55 := ⟨by kernel_rfl⟩
theorem ppA63_ok : RowC C0 162 ppA63 := ⟨by kernel_rfl⟩
theorem ppA71_ok : RowC C0 162 ppA71 := ⟨by kernel_rfl⟩
theorem ppA79_ok : RowC C0 162 ppA79 := ⟨by kernel_rfl⟩
theorem ppA87_ok : RowC C0 162 ppA87 := ⟨by kernel_rfl⟩
end Go.Proofs.YtmnkbfflpgmkmaaGreatDoor
