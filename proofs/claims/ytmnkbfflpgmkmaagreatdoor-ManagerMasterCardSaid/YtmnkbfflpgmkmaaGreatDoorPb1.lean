/- ManagerMaster: rows hold, part 1. No conditions. -/
import Derived.Test.YtmnkbfflpgmkmaaGreatDoorPo
namespace Go.Proofs.YtmnkbfflpgmkmaaGreatDoor
open Go Go.W Go.Proofs
set_option maxRecDepth 100000
theorem ppM0_ok : RowC ppC 8 ppM0 := ⟨by kernel_rfl⟩
theorem ppM14_ok : RowC ppC 10 ppM14 := ⟨by kernel_rfl⟩
theorem ppM28_ok : RowC ppC 10 ppM28 := ⟨by kernel_rfl⟩
theorem ppM42_ok : RowC ppC 10 ppM42 := ⟨by kernel_rfl⟩
theorem ppM56_ok : RowC ppC 10 ppM56 := ⟨by kernel_rfl⟩
theorem ppM70_ok : RowC ppC 10 ppM70 := ⟨by kernel_rfl⟩
theorem ppM84_ok : RowC ppC 10 ppM84 := ⟨by kernel_rfl⟩
theorem ppM98_ok : RowC ppC 10 ppM98 := ⟨by kernel_rfl⟩
theorem ppM112_ok : RowC ppC 10 ppM112 := ⟨by kernel_rfl⟩
theorem ppM126_ok : RowC ppC 10 ppM126 := ⟨by kernel_rfl⟩
theorem ppM140_ok : RowC ppC 10 ppM140 := ⟨by kernel_rfl⟩
theorem ppM154_ok : RowC ppC 10 ppM154 := ⟨by kernel_rfl⟩
theorem ppM168_ok : RowC ppC 10 ppM168 := ⟨by kernel_rfl⟩
end Go.Proofs.YtmnkbfflpgmkmaaGreatDoor
