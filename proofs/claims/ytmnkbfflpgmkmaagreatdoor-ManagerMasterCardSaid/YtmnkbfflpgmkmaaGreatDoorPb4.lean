/- ManagerMaster: rows hold, part 4. No conditions. -/
import Derived.Test.YtmnkbfflpgmkmaaGreatDoorPo
namespace Go.Proofs.YtmnkbfflpgmkmaaGreatDoor
open Go Go.W Go.Proofs
set_option maxRecDepth 100000
theorem ppM3_ok : RowC ppC 8 ppM3 := ⟨by kernel_rfl⟩
theorem ppM17_ok : RowC ppC 8 ppM17 := ⟨by kernel_rfl⟩
theorem ppM31_ok : RowC ppC 8 ppM31 := ⟨by kernel_rfl⟩
theorem ppM45_ok : RowC ppC 8 ppM45 := ⟨by kernel_rfl⟩
theorem ppM59_ok : RowC ppC 8 ppM59 := ⟨by kernel_rfl⟩
theorem ppM73_ok : RowC ppC 8 ppM73 := ⟨by kernel_rfl⟩
theorem ppM87_ok : RowC ppC 8 ppM87 := ⟨by kernel_rfl⟩
theorem ppM101_ok : RowC ppC 8 ppM101 := ⟨by kernel_rfl⟩
theorem ppM115_ok : RowC ppC 8 ppM115 := ⟨by kernel_rfl⟩
theorem ppM129_ok : RowC ppC 8 ppM129 := ⟨by kernel_rfl⟩
theorem ppM143_ok : RowC ppC 8 ppM143 := ⟨by kernel_rfl⟩
theorem ppM157_ok : RowC ppC 8 ppM157 := ⟨by kernel_rfl⟩
end Go.Proofs.YtmnkbfflpgmkmaaGreatDoor
