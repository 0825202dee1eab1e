/- ManagerMaster: rows hold, part 7. No conditions. -/
import Derived.Test.YtmnkbfflpgmkmaaGreatDoorPo
namespace Go.Proofs.YtmnkbfflpgmkmaaGreatDoor
open Go Go.W Go.Proofs
set_option maxRecDepth 100000
theorem ppM6_ok : RowC ppC 10 ppM6 := ⟨by kernel_rfl⟩
theorem ppM20_ok : RowC ppC 10 ppM20 := ⟨by kernel_rfl⟩
theorem ppM34_ok : RowC ppC 10 ppM34 := ⟨by kernel_rfl⟩
theorem ppM48_ok : RowC ppC 10 ppM48 := ⟨by kernel_rfl⟩
theorem ppM62_ok : RowC ppC 10 ppM62 := ⟨by kernel_rfl⟩
theorem ppM76_ok : RowC ppC 10 ppM76 := ⟨by kernel_rfl⟩
theorem ppM90_ok : RowC ppC 10 ppM90 := ⟨by kernel_rfl⟩
theorem ppM104_ok : RowC ppC 10 ppM104 := ⟨by kernel_rfl⟩
theorem ppM118_ok : RowC ppC 10 ppM118 := ⟨by kernel_rfl⟩
theorem ppM132_ok : RowC ppC 10 ppM132 := ⟨by kernel_rfl⟩
theorem ppM146_ok : RowC ppC 10 ppM146 := ⟨by kernel_rfl⟩
theorem ppM160_ok : RowC ppC 10 ppM160 := ⟨by kernel_rfl⟩
end Go.Proofs.YtmnkbfflpgmkmaaGreatDoor
