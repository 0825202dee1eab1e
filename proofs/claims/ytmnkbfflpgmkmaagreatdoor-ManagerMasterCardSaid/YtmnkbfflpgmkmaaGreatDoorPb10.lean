/- ManagerMaster: rows hold, part 10. No conditions. -/
import Derived.Test.YtmnkbfflpgmkmaaGreatDoorPo
namespace Go.Proofs.YtmnkbfflpgmkmaaGreatDoor
open Go Go.W Go.Proofs
set_option maxRecDepth 100000
theorem ppM9_ok : RowC ppC 8 ppM9 := ⟨by kernel_rfl⟩
theorem ppM23_ok : RowC ppC 8 ppM23 := ⟨by kernel_rfl⟩
theorem ppM37_ok : RowC ppC 8 ppM37 := ⟨by kernel_rfl⟩
theorem ppM51_ok : RowC ppC 8 ppM51 := ⟨by kernel_rfl⟩
theorem ppM65_ok : RowC ppC 8 ppM65 := ⟨by kernel_rfl⟩
theorem ppM79_ok : RowC ppC 8 ppM79 := ⟨by kernel_rfl⟩
theorem ppM93_ok : RowC ppC 8 ppM93 := ⟨by kernel_rfl⟩
theorem ppM107_ok : RowC ppC 8 ppM107 := ⟨by kernel_rfl⟩
theorem ppM121_ok : RowC ppC 8 ppM121 := ⟨by kernel_rfl⟩
theorem ppM135_ok : RowC ppC 8 ppM135 := ⟨by kernel_rfl⟩
theorem ppM149_ok : RowC ppC 8 ppM149 := ⟨by kernel_rfl⟩
theorem ppM163_ok : RowC ppC 8 ppM163 := ⟨by kernel_rfl⟩
end Go.Proofs.YtmnkbfflpgmkmaaGreatDoor
