/- ManagerMaster: rows hold, part 3. No conditions. -/
import Derived.Test.YtmnkbfflpgmkmaaGreatDoorPo
namespace Go.Proofs.YtmnkbfflpgmkmaaGreatDoor
open Go Go.W Go.Proofs
set_option maxRecDepth 100000
theorem ppM2_ok : RowC ppC 8 ppM2 := ⟨by kernel_rfl⟩
theorem ppM16_ok : RowC ppC 8 ppM16 := ⟨by kernel_rfl⟩
theorem ppM30_ok : RowC ppC 10 ppM30 := ⟨by kernel_rfl⟩
theorem ppM44_ok : RowC ppC 10 ppM44 := ⟨by kernel_rfl⟩
theorem ppM58_ok : RowC ppC 10 ppM58 := ⟨by kernel_rfl⟩
theorem ppM72_ok : RowC ppC 10 ppM72 := ⟨by kernel_rfl⟩
theorem ppM86_ok : RowC ppC 10 ppM86 := ⟨by kernel_rfl⟩
theorem ppM100_ok : RowC ppC 10 ppM100 := ⟨by kernel_rfl⟩
theorem ppM114_ok : RowC ppC 10 ppM114 := ⟨by kernel_rfl⟩
theorem ppM128_ok : RowC ppC 10 ppM128 := ⟨by kernel_rfl⟩
theorem ppM142_ok : RowC ppC 10 ppM142 := ⟨by kernel_rfl⟩
theorem ppM156_ok : RowC ppC 10 ppM156 := ⟨by kernel_rfl⟩
theorem ppM170_ok : RowC ppC 10 ppM170 := ⟨by kernel_rfl⟩
end Go.Proofs.YtmnkbfflpgmkmaaGreatDoor
