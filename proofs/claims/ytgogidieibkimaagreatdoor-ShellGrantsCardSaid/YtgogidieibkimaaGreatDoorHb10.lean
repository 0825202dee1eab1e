/- ShellGrants: steps as rows, part 10. No conditions. -/
import Derived.Test.YtgogidieibkimaaGreatDoorHo
namespace Go.Proofs.YtgogidieibkimaaGreatDoor
open Go Go.W Go.Proofs
set_option maxRecDepth 100000
theorem grM9_ok : RowC grC 79 grM9 := ⟨by kernel_rfl⟩
theorem grM29_ok : RowC grC 79 grM29 := ⟨by kernel_rfl⟩
theorem grM49_ok : RowC grC 79 grM49 := ⟨by kernel_rfl⟩
theorem grM69_ok : RowC grC 79 grM69 := ⟨by kernel_rfl⟩
theorem grM89_ok : RowC grC 79 grM89 := ⟨by kernel_rfl⟩
theorem grM109_ok : RowC grC 79 grM109 := ⟨by kernel_rfl⟩
theorem grM129_ok : RowC grC 79 grM129 := ⟨by kernel_rfl⟩
theorem grM149_ok : RowC grC 79 grM149 := ⟨by kernel_rfl⟩
theorem grM169_ok : RowC grC 79 grM169 := ⟨by kernel_rfl⟩
end Go.Proofs.YtgogidieibkimaaGreatDoor
