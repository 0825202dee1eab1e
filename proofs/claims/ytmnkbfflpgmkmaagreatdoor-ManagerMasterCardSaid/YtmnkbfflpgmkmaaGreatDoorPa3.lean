/- ManagerMaster: attempts on a node as rows, part 3. No conditions. -/
import Derived.Test.YtmnkbfflpgmkmaaGreatDoorPb
namespace Go.Proofs.YtmnkbfflpgmkmaaGreatDoor
open Go Go.W Go.Proofs
set_option maxRecDepth 100000
theorem ppA2_ok : RowC C0 162 ppA2 := ⟨by kernel_rfl⟩
theorem ppA10_ok : RowC C0 162 ppA10 := ⟨by kernel_rfl⟩
theorem ppA18_ok : RowC C0 162 ppA18 := ⟨by kernel_rfl⟩
theorem ppA26_ok : RowC C0 162 ppA26 := ⟨by kernel_rfl⟩
theorem ppA34_ok : RowC C0 162 ppA34 := ⟨by kernel_rfl⟩
theorem ppA42_ok : RowC C0 162 ppA42 := ⟨by kernel_rfl⟩
theorem ppA50_ok : RowC C0 162 ppA50 := ⟨by kernel_rfl⟩
theorem ppA58_ok : RowC C0 162 ppA58 := ⟨by kernel_rfl⟩
theorem ppA66_ok : RowC C0 162 ppA66 := ⟨by kernel_rfl⟩
theorem ppA74_ok : RowC C0 162 ppA74 := ⟨by kernel_rfl⟩
theorem ppA82_ok : RowC C0 162 ppA82 := ⟨by kernel_rfl⟩
theorem ppA90_ok : RowC C0 162 ppA90 := ⟨by kernel_rfl⟩
end Go.Proofs.YtmnkbfflpgmkmaaGreatDoor
