/- ShellGrants: steps as rows, part 20. No conditions. -/
import Derived.Test.YtgogidieibkimaaGreatDoorHo
namespace Go.Proofs.YtgogidieibkimaaGreatDoor
open Go Go.W Go.Proofs
set_option maxRecDepth 100000
theorem grM19_ok : RowC grC 79 grM19 := ⟨by kernel_rfl⟩
theorem grM39_ok : RowC grC 79 grM39 := ⟨by kernel_rfl⟩
theorem grM59_ok : RowC grC 79 grM59 := ⟨by kernel_rfl⟩
theorem grM79_ok : RowC grC 79 grM79 := ⟨by kernel_rfl⟩
theorem grM99_ok : RowC grC 79 grM99 := ⟨by kernel_rfl⟩
theorem grM119_ok : RowC grC 79 grM119 := ⟨by kernel_rfl⟩
theorem grM139_ok : RowC grC 79 grM139 := ⟨by kernel_rfl⟩
theorem grM159_ok : RowC grC 79 grM159 := ⟨by kernel_rfl⟩
end Go.Proofs.YtgogidieibkimaaGreatDoor
