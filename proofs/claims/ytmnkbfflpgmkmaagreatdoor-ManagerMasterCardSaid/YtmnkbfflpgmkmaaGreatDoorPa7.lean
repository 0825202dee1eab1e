/- ManagerMaster: attempts on a node as rows, part 7. No conditions. -/
import Derived.Test.YtmnkbfflpgmkmaaGreatDoorPb
namespace Go.Proofs.YtmnkbfflpgmkmaaGreatDoor
open Go Go.W Go.Proofs
set_option maxRecDepth 100000
theorem ppA6_ok : RowC C0 162 ppA6 := ⟨by kernel_rfl⟩
theorem ppA14_ok : RowC C0 162 ppA14 := ⟨by kernel_rfl⟩
theorem ppA22_ok : RowC C0 162 ppA22 := ⟨by kernel_rfl⟩
theorem ppA30_ok : RowC C0 162 ppA30 := ⟨by kernel_rfl⟩
theorem ppA38_ok : RowC C0 162 ppA38 := ⟨by kernel_rfl⟩
theorem ppA46_ok : RowC C0 162 ppA46 := ⟨by kernel_rfl⟩
theorem ppA54_ok : RowC C0 162 ppA54 := ⟨by kernel_rfl⟩
theorem ppA62_ok : RowC C0 162 ppA62 := ⟨by kernel_rfl⟩
theorem ppA70_ok : RowC C0 162 ppA70 := ⟨by kernel_rfl⟩
theorem ppA78_ok : RowC C0 162 ppA78 := ⟨by kernel_rfl⟩
theorem ppA86_ok : RowC C0 162 ppA86 := ⟨by kernel_rfl⟩
theorem ppA94_ok : RowC C0 162 ppA94 := ⟨by kernel_rfl⟩
end Go.Proofs.YtmnkbfflpgmkmaaGreatDoor
