/- ManagerMaster: rows hold, part 6. No conditions. -/
import Derived.Test.YtmnkbfflpgmkmaaGreatDoorPo
namespace Go.Proofs.YtmnkbfflpgmkmaaGreatDoor
open Go Go.W Go.Proofs
set_option maxRecDepth 100000
theorem ppM5_ok : RowC ppC 8 ppM5 := ⟨by kernel_rfl⟩
theorem ppM19_ok : RowC ppC 8 ppM19 := ⟨by kernel_rfl⟩
theorem ppM33_ok : RowC ppC 8 ppM33 := ⟨by kernel_rfl⟩
theorem ppM47_ok : RowC ppC 8 ppM47 := ⟨by kernel_rfl⟩
theorem ppM61_ok : RowC ppC 8 ppM61 := ⟨by kernel_rfl⟩
theorem ppM75_ok : RowC ppC 8 ppM75 := ⟨by kernel_rfl⟩
theorem ppM89_ok : RowC ppC 8 ppM89 := ⟨by kernel_rfl⟩
theorem ppM103_ok : RowC ppC 8 ppM103 := ⟨by kernel_rfl⟩
theorem ppM117_ok : RowC ppC 8 ppM117 := ⟨by kernel_rfl⟩
theorem ppM131_ok : RowC ppC 8 ppM131 := ⟨by kernel_rfl⟩
theorem ppM145_ok : RowC ppC 8 ppM145 := ⟨by kernel_rfl⟩
theorem ppM159_ok : RowC ppC 8 ppM159 := ⟨by kernel_rfl⟩
end Go.Proofs.YtmnkbfflpgmkmaaGreatDoor
