/- ManagerMaster: rows hold, part 9. No conditions. -/
import Derived.Test.YtmnkbfflpgmkmaaGreatDoorPo
namespace Go.Proofs.YtmnkbfflpgmkmaaGreatDoor
open Go Go.W Go.Proofs
set_option maxRecDepth 100000
theorem ppM8_ok : RowC ppC 8 ppM8 := ⟨by kernel_rfl⟩
theorem ppM22_ok : RowC ppC 10 ppM22 := ⟨by kernel_rfl⟩
theorem ppM36_ok : RowC ppC 10 ppM36 := ⟨by kernel_rfl⟩
theorem ppM50_ok : RowC ppC 10 ppM50 := ⟨by kernel_rfl⟩
theorem ppM64_ok : RowC ppC 10 ppM64 := ⟨by kernel_rfl⟩
theorem ppM78_ok : RowC ppC 10 ppM78 := ⟨by kernel_rfl⟩
theorem ppM92_ok : RowC ppC 10 ppM92 := ⟨by kernel_rfl⟩
theorem ppM106_ok : RowC ppC 10 ppM106 := ⟨by kernel_rfl⟩
theorem ppM120_ok : RowC ppC 10 ppM120 := ⟨by kernel_rfl⟩
theorem ppM134_ok : RowC ppC 10 ppM134 := ⟨by kernel_rfl⟩
theorem ppM148_ok : RowC ppC 10 ppM148 := ⟨by kernel_rfl⟩
theorem ppM162_ok : RowC ppC 10 ppM162 := ⟨by kernel_rfl⟩
end Go.Proofs.YtmnkbfflpgmkmaaGreatDoor
