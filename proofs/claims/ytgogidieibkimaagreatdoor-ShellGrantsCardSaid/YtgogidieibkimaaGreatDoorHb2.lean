/- ShellGrants: steps as rows, part 2. No conditions. -/
import Derived.Test.YtgogidieibkimaaGreatDoorHo
namespace Go.Proofs.YtgogidieibkimaaGreatDoor
open Go Go.W Go.Proofs
set_option maxRecDepth 100000
theorem grM1_ok : RowC grC 79 grM1 := ⟨by kernel_rfl⟩
theorem grM21_ok : RowC grC 79 grM21 := ⟨by kernel_rfl⟩
theorem grM41_ok : RowC grC 79 grM41 := ⟨by kernel_rfl⟩
theorem grM61_ok : RowC grC 79 grM61 := ⟨by kernel_rfl⟩
theorem grM81_ok : RowC grC 79 grM81 := ⟨by kernel_rfl⟩
theorem grM101_ok : RowC grC 79 grM101 := ⟨by kernel_rfl⟩
theorem grM121_ok : RowC grC 79 grM121 := ⟨by kernel_rfl⟩
theorem grM141_ok : RowC grC 79 grM141 := ⟨by kernel_rfl⟩
theorem grM161_ok : RowC grC 79 grM161 := ⟨by kernel_rfl⟩
end Go.Proofs.YtgogidieibkimaaGreatDoor
