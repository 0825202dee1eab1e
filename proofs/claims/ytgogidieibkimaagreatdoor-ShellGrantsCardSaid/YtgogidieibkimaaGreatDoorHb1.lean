/- ShellGrants: steps as rows, part 1. No conditions. -/
import Derived.Test.YtgogidieibkimaaGreatDoorHo
namespace Go.Proofs.YtgogidieibkimaaGreatDoor
open Go Go.W Go.Proofs
set_option maxRecDepth 100000
theorem grM0_ok : RowC grC 79 grM0 := ⟨by kernel_rfl⟩
theorem grM20_ok : RowC grC 79 grM20 := ⟨by kernel_rfl⟩
theorem grM40_ok : RowC grC 79 grM40 := ⟨by kernel_rfl⟩
theorem grM60_ok : RowC grC 79 grM60 := ⟨by kernel_rfl⟩
theorem grM80_ok : RowC grC 79 grM80 := ⟨by kernel_rfl⟩
theorem grM100_ok : RowC grC 79 grM100 := ⟨by kernel_rfl⟩
theorem grM120_ok : RowC grC 79 grM120 := ⟨by kernel_rfl⟩
theorem grM140_ok : RowC grC 79 grM140 := ⟨by kernel_rfl⟩
theorem grM160_ok : RowC grC 79 grM160 := ⟨by kernel_rfl⟩
end Go.Proofs.YtgogidieibkimaaGreatDoor
