/- ShellGrants: steps as rows, part 15. No conditions. -/
import Derived.Test.YtgogidieibkimaaGreatDoorHo
namespace Go.Proofs.YtgogidieibkimaaGreatDoor
open Go Go.W Go.Proofs
set_option maxRecDepth 100000
theorem grM14_ok : RowC grC 79 grM14 := ⟨by kernel_rfl⟩
theorem grM34_ok : RowC grC 79 grM34 := ⟨by kernel_rfl⟩
theorem grM54_ok : RowC grC 79 grM54 := ⟨by kernel_rfl⟩
theorem grM74_ok : RowC grC 79 grM74 := ⟨by kernel_rfl⟩
theorem grM94_ok : RowC grC 79 grM94 := ⟨by kernel_rfl⟩
theorem grM114_ok : RowC grC 79 grM114 := ⟨by kernel_rfl⟩
theorem grM134_ok : RowC grC 79 grM134 := ⟨by kernel_rfl⟩
theorem grM154_ok : RowC grC 79 grM154 := ⟨by kernel_rfl⟩
end Go.Proofs.YtgogidieibkimaaGreatDoor
