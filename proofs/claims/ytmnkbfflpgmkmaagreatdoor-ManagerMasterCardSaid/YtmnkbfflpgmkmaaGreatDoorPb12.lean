/- ManagerMaster: rows hold, part 12. No conditions. -/
import Derived.Test.YtmnkbfflpgmkmaaGreatDoorPo
namespace Go.Proofs.YtmnkbfflpgmkmaaGreatDoor
open Go Go.W Go.Proofs
set_option maxRecDepth 100000
theorem ppM11_ok : RowC ppC 8 ppM11 := ⟨by kernel_rfl⟩
theorem ppM25_ok : RowC ppC 8 ppM25 := ⟨by kernel_rfl⟩
theorem ppM39_ok : RowC ppC 8 ppM39 := ⟨by kernel_rfl⟩
theorem ppM53_ok : RowC ppC 8 ppM53 := ⟨by kernel_rfl⟩
theorem ppM67_ok : RowC ppC 8 ppM67 := ⟨by kernel_rfl⟩
theorem ppM81_ok : RowC ppC 8 ppM81 := ⟨by kernel_rfl⟩
theorem ppM95_ok : RowC ppC 8 ppM95 := ⟨by kernel_rfl⟩
theorem ppM109_ok : RowC ppC 8 ppM109 := ⟨by kernel_rfl⟩
theorem ppM123_ok : RowC ppC 8 ppM123 := ⟨by kernel_rfl⟩
theorem ppM137_ok : RowC ppC 8 ppM137 := ⟨by kernel_rfl⟩
theorem ppM151_ok : RowC ppC 8 ppM151 := ⟨by kernel_rfl⟩
theorem ppM165_ok : RowC ppC 8 ppM165 := ⟨by kernel_rfl⟩
end Go.Proofs.YtmnkbfflpgmkmaaGreatDoor
