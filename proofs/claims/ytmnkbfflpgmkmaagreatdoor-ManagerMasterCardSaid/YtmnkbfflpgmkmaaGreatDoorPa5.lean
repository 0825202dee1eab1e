/- ManagerMaster: attempts on a node as rows, part 5. No conditions. -/
import Derived.Test.YtmnkbfflpgmkmaaGreatDoorPb
namespace Go.Proofs.YtmnkbfflpgmkmaaGreatDoor
open Go Go.W Go.Proofs
set_option maxRecDepth 100000
theorem ppA4_ok : RowC C0 162 ppA4 := ⟨by kernel_rfl⟩
theorem ppA12_ok : RowC C0 162 ppA12 := ⟨by kernel_rfl⟩
theorem ppA20_ok : RowC C0 162 ppA20 := ⟨by kernel_rfl⟩
theorem ppA28_ok : RowC C0 162 ppA28 := ⟨by kernel_rfl⟩
theorem ppA36_ok : RowC C0 162 ppA36 := ⟨by kernel_rfl⟩
theorem ppA44_ok : RowC C0 162 ppA44 := ⟨by kernel_rfl⟩
theorem ppA52_ok : RowC C0 162 ppA52 := ⟨by kernel_rfl⟩
theorem ppA60_ok : RowC C0 162 ppA60 := ⟨by kernel_rfl⟩
theorem ppA68_ok : RowC C0 162 ppA68 := ⟨by kernel_rfl⟩
theorem ppA76_ok : RowC C0 162 ppA76 := ⟨by kernel_rfl⟩
theorem ppA84_ok : RowC C0 162 ppA84 := ⟨by kernel_rfl⟩
theorem ppA92_ok : RowC C0 162 ppA92 := ⟨by kernel_rfl⟩
end Go.Proofs.YtmnkbfflpgmkmaaGreatDoor
