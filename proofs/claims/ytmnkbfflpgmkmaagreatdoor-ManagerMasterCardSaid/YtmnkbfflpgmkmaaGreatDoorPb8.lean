/- ManagerMaster: rows hold, part 8. No conditions. -/
import Derived.Test.YtmnkbfflpgmkmaaGreatDoorPo
namespace Go.Proofs.YtmnkbfflpgmkmaaGreatDoor
open Go Go.W Go.Proofs
set_option maxRecDepth 100000
theorem ppM7_ok : RowC ppC 8 ppM7 := ⟨by kernel_rfl⟩
theorem ppM21_ok : RowC ppC 8 ppM21 := ⟨by kernel_rfl⟩
theorem ppM35_ok : RowC ppC 8 ppM35 := ⟨by kernel_rfl⟩
theorem ppM49_ok : RowC ppC 8 ppM49 := ⟨by kernel_rfl⟩
theorem ppM63_ok : RowC ppC 8 ppM63 := ⟨by kernel_rfl⟩
theorem ppM77_ok : RowC ppC 8 ppM77 := ⟨by kernel_rfl⟩
theorem ppM91_ok : RowC ppC 8 ppM91 := ⟨by kernel_rfl⟩
theorem ppM105_ok : RowC ppC 8 ppM105 := ⟨by kernel_rfl⟩
theorem ppM119_ok : RowC ppC 8 ppM119 := ⟨by kernel_rfl⟩
theorem ppM133_ok : RowC ppC 8 ppM133 := ⟨by kernel_rfl⟩
theorem ppM147_ok : RowC ppC 8 ppM147 := ⟨by kernel_rfl⟩
theorem ppM161_ok : RowC ppC 8 ppM161 := ⟨by kernel_rfl⟩
end Go.Proofs.YtmnkbfflpgmkmaaGreatDoor
