/- ManagerMaster: rows hold, part 2. No conditions. -/
import Derived.Test.YtmnkbfflpgmkmaaGreatDoorPo
namespace Go.Proofs.YtmnkbfflpgmkmaaGreatDoor
open Go Go.W Go.Proofs
set_option maxRecDepth 100000
theorem ppM1_ok : RowC ppC 8 ppM1 := ⟨by kernel_rfl⟩
theorem ppM15_ok : RowC ppC 8 ppM15 := ⟨by kernel_rfl⟩
theorem ppM29_ok : RowC ppC 8 ppM29 := ⟨by kernel_rfl⟩
theorem ppM43_ok : RowC ppC 8 ppM43 := ⟨by kernel_rfl⟩
theorem ppM57_ok : RowC ppC 8 ppM57 := ⟨by kernel_rfl⟩
theorem ppM71_ok : RowC ppC 8 ppM71 := ⟨by kernel_rfl⟩
theorem ppM85_ok : RowC ppC 8 ppM85 := ⟨by kernel_rfl⟩
theorem ppM99_ok : RowC ppC 8 ppM99 := ⟨by kernel_rfl⟩
theorem ppM113_ok : RowC ppC 8 ppM113 := ⟨by kernel_rfl⟩
theorem ppM127_ok : RowC ppC 8 ppM127 := ⟨by kernel_rfl⟩
theorem ppM141_ok : RowC ppC 8 ppM141 := ⟨by kernel_rfl⟩
theorem ppM155_ok : RowC ppC 8 ppM155 := ⟨by kernel_rfl⟩
theorem ppM169_ok : RowC ppC 8 ppM169 := ⟨by kernel_rfl⟩
end Go.Proofs.YtmnkbfflpgmkmaaGreatDoor
