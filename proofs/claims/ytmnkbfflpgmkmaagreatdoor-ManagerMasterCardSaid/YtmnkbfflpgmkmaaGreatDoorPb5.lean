/- ManagerMaster: rows hold, part 5. No conditions. -/
import Derived.Test.YtmnkbfflpgmkmaaGreatDoorPo
namespace Go.Proofs.YtmnkbfflpgmkmaaGreatDoor
open Go Go.W Go.Proofs
set_option maxRecDepth 100000
theorem ppM4_ok : RowC ppC 8 ppM4 := ⟨by kernel_rfl⟩
theorem ppM18_ok : RowC ppC 10 ppM18 := ⟨by kernel_rfl⟩
theorem ppM32_ok : RowC ppC 10 ppM32 := ⟨by kernel_rfl⟩
theorem ppM46_ok : RowC ppC 10 ppM46 := ⟨by kernel_rfl⟩
theorem ppM60_ok : RowC ppC 10 ppM60 := ⟨by kernel_rfl⟩
theorem ppM74_ok : RowC ppC 10 ppM74 := ⟨by kernel_rfl⟩
theorem ppM88_ok : RowC ppC 10 ppM88 := ⟨by kernel_rfl⟩
theorem ppM102_ok : RowC ppC 10 ppM102 := ⟨by kernel_rfl⟩
theorem ppM116_ok : RowC ppC 10 ppM116 := ⟨by kernel_rfl⟩
theorem ppM130_ok : RowC ppC 10 ppM130 := ⟨by kernel_rfl⟩
theorem ppM144_ok : RowC ppC 10 ppM144 := ⟨by kernel_rfl⟩
theorem ppM158_ok : RowC ppC 10 ppM158 := ⟨by kernel_rfl⟩
end Go.Proofs.YtmnkbfflpgmkmaaGreatDoor
