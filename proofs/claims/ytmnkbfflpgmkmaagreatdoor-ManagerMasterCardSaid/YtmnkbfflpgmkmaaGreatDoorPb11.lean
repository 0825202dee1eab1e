/- ManagerMaster: rows hold, part 11. No conditions. -/
import Derived.Test.YtmnkbfflpgmkmaaGreatDoorPo
namespace Go.Proofs.YtmnkbfflpgmkmaaGreatDoor
open Go Go.W Go.Proofs
set_option maxRecDepth 100000
theorem ppM10_ok : RowC ppC 10 ppM10 := ⟨by kernel_rfl⟩
theorem ppM24_ok : RowC ppC 10 ppM24 := ⟨by kernel_rfl⟩
theorem ppM38_ok : RowC ppC 10 ppM38 := ⟨by kernel_rfl⟩
theorem ppM52_ok : RowC ppC 10 ppM52 := ⟨by kernel_rfl⟩
theorem ppM66_ok : RowC ppC 10 ppM66 := ⟨by kernel_rfl⟩
theorem ppM80_ok : RowC ppC 10 ppM80 := ⟨by kernel_rfl⟩
theorem ppM94_ok : RowC ppC 10 ppM94 := ⟨by kernel_rfl⟩
theorem ppM108_ok : RowC ppC 10 ppM108 := ⟨by kernel_rfl⟩
theorem ppM122_ok : RowC ppC 10 ppM122 := ⟨by kernel_rfl⟩
theorem ppM136_ok : RowC ppC 10 ppM136 := ⟨by kernel_rfl⟩
theorem ppM150_ok : RowC ppC 10 ppM150 := ⟨by kernel_rfl⟩
theorem ppM164_ok : RowC ppC 10 ppM164 := ⟨by kernel_rfl⟩
end Go.Proofs.YtmnkbfflpgmkmaaGreatDoor
