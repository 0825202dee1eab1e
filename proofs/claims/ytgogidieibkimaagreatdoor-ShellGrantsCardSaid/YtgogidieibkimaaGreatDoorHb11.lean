/- ShellGrants: steps as rows, part 11. No conditions. -/
import Derived.Test.YtgogidieibkimaaGreatDoorHo
namespace Go.Proofs.YtgogidieibkimaaGreatDoor
open Go Go.W Go.Proofs
set_option maxRecDepth 100000
theorem grM10_ok : RowC grC 79 grM10 := ⟨by kernel_rfl⟩
theorem grM30_ok : RowC grC 79 grM30 := ⟨by kernel_rfl⟩
theorem grM50_ok : RowC grC 79 grM50 := ⟨by kernel_rfl⟩
theorem grM70_ok : RowC grC 79 grM70 := ⟨by kernel_rfl⟩
theorem grM90_ok : RowC grC 79 grM90 := ⟨by kernel_rfl⟩
theorem grM110_ok : RowC grC 79 grM110 := ⟨by kernel_rfl⟩
theorem grM130_ok : RowC grC 79 grM130 := ⟨by kernel_rfl⟩
theorem grM150_ok : RowC grC 79 grM150 := ⟨by kernel_rfl⟩
theorem grM170_ok : RowC grC 79 grM170 := ⟨by kernel_rfl⟩
end Go.Proofs.YtgogidieibkimaaGreatDoor
