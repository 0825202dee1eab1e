/- ManagerMaster: attempts on a node as rows, part 6. No conditions. -/
import Derived.Test.YtmnkbfflpgmkmaaGreatDoorPb
namespace Go.Proofs.YtmnkbfflpgmkmaaGreatDoor
open Go Go.W Go.Proofs
set_option maxRecDepth 100000
theorem ppA5_ok : RowC C0 162 ppA5 := ⟨by kernel_rfl⟩
theorem ppA13_ok : RowC C0 162 ppA13 := ⟨by kernel_rfl⟩
theorem ppA21_ok : RowC C0 162 ppA21 := ⟨by kernel_rfl⟩
theorem ppA29_ok : RowC C0 162 ppA29 := ⟨by kernel_rfl⟩
theorem ppA37_ok : RowC C0 162 ppA37 := ⟨by kernel_rfl⟩
theorem ppA45_ok : RowC C0 162 ppA45 := ⟨by kernel_rfl⟩
theorem ppA53_ok : RowC C0 162 ppA53 := ⟨by kernel_rfl⟩
theorem ppA61_ok : RowC C0 162 ppA61 := ⟨by kernel_rfl⟩
theorem ppA69_ok : RowC C0 162 ppA69 := ⟨by kernel_rfl⟩
theorem ppA77_ok : RowC C0 162 ppA77 := ⟨by kernel_rfl⟩
theorem ppA85_ok : RowC C0 162 ppA85 := ⟨by kernel_rfl⟩
theorem ppA93_ok : RowC C0 162 ppA93 := ⟨by kernel_rfl⟩
end Go.Proofs.YtmnkbfflpgmkmaaGreatDoor
