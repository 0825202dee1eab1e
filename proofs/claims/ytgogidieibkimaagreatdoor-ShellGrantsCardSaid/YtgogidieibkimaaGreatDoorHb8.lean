/- ShellGrants: steps as rows, part 8. No conditions. -/
import Derived.Test.YtgogidieibkimaaGreatDoorHo
namespace Go.Proofs.YtgogidieibkimaaGreatDoor
open Go Go.W Go.Proofs
set_option maxRecDepth 100000
theorem grM7_ok : RowC grC 79 grM7 := ⟨by kernel_rfl⟩
theorem grM27_ok : RowC grC 79 grM27 := ⟨by kernel_rfl⟩
theorem grM47_ok : RowC grC 79 grM47 := ⟨by kernel_rfl⟩
theorem grM67_ok : RowC grC 79 grM67 := ⟨by kernel_rfl⟩
theorem grM87_ok : RowC grC 79 grM87 := ⟨by kernel_rfl⟩
theorem grM107_ok : RowC grC 79 grM107 := ⟨by kernel_rfl⟩
theorem grM127_ok : RowC grC 79 grM127 := ⟨by kernel_rfl⟩
theorem grM147_ok : RowC grC 79 grM147 := ⟨by kernel_rfl⟩
theorem grM167_ok : RowC grC 79 grM167 := ⟨by kernel_rfl⟩
end Go.Proofs.YtgogidieibkimaaGreatDoor
