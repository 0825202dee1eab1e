/- ManagerMaster: rows hold, part 14. No conditions. -/
import Derived.Test.YtmnkbfflpgmkmaaGreatDoorPo
namespace Go.Proofs.YtmnkbfflpgmkmaaGreatDoor
open Go Go.W Go.Proofs
set_option maxRecDepth 100000
theorem ppM13_ok : RowC ppC 8 ppM13 := ⟨by kernel_rfl⟩
theorem ppM27_ok : RowC ppC 8 ppM27 := ⟨by kernel_rfl⟩
theorem ppM41_ok : RowC ppC 8 ppM41 := ⟨by kernel_rfl⟩
theorem ppM55_ok : RowC ppC 8 ppM55 := ⟨by kernel_rfl⟩
theorem ppM69_ok : RowC ppC 8 ppM69 := ⟨by kernel_rfl⟩
theorem ppM83_ok : RowC ppC 8 ppM83 := ⟨by kernel_rfl⟩
theorem ppM97_ok : RowC ppC 8 ppM97 := ⟨by kernel_rfl⟩
theorem ppM111_ok : RowC ppC 8 ppM111 := ⟨by kernel_rfl⟩
theorem ppM125_ok : RowC ppC 8 ppM125 := ⟨by kernel_rfl⟩
theorem ppM139_ok : RowC ppC 8 ppM139 := ⟨by kernel_rfl⟩
theorem ppM153_ok : RowC ppC 8 ppM153 := ⟨by kernel_rfl⟩
theorem ppM167_ok : RowC ppC 8 ppM167 := ⟨by kernel_rfl⟩
end Go.Proofs.YtmnkbfflpgmkmaaGreatDoor
