/- ManagerMaster: rows hold, part 13. No conditions. -/
import Derived.Test.YtmnkbfflpgmkmaaGreatDoorPo
namespace Go.Proofs.YtmnkbfflpgmkmaaGreatDoor
open Go Go.W Go.Proofs
set_option maxRecDepth 100000
theorem ppM12_ok : RowC ppC 8 ppM12 := ⟨by kernel_rfl⟩
theorem ppM26_ok : RowC ppC 10 ppM26 := ⟨by kernel_rfl⟩
theorem ppM40_ok : RowC ppC 10 ppM40 := ⟨by kernel_rfl⟩
theorem ppM54_ok : RowC ppC 10 ppM54 := ⟨by kernel_rfl⟩
theorem ppM68_ok : RowC ppC 10 ppM68 := ⟨by kernel_rfl⟩
theorem ppM82_ok : RowC ppC 10 ppM82 := ⟨by kernel_rfl⟩
theorem ppM96_ok : RowC ppC 10 ppM96 := ⟨by kernel_rfl⟩
theorem ppM110_ok : RowC ppC 10 ppM110 := ⟨by kernel_rfl⟩
theorem ppM124_ok : RowC ppC 10 ppM124 := ⟨by kernel_rfl⟩
theorem ppM138_ok : RowC ppC 10 ppM138 := ⟨by kernel_rfl⟩
theorem ppM152_ok : RowC ppC 10 ppM152 := ⟨by kernel_rfl⟩
theorem ppM166_ok : RowC ppC 10 ppM166 := ⟨by kernel_rfl⟩
end Go.Proofs.YtmnkbfflpgmkmaaGreatDoor
