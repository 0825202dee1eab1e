/- ShellGrants: steps as rows, part 17. No conditions. -/
import Derived.Test.YtgogidieibkimaaGreatDoorHo
namespace Go.Proofs.YtgogidieibkimaaGreatDoor
open Go Go.W Go.Proofs
set_option maxRecDepth 100000
theorem grM16_ok : RowC grC 79 grM16 := ⟨by kernel_rfl⟩
theorem grM36_ok : RowC grC 79 grM36 := ⟨by kernel_rfl⟩
theorem grM56_ok : RowC grC 79 grM56 := ⟨by kernel_rfl⟩
theorem grM76_ok : RowC grC 79 grM76 := ⟨by kernel_rfl⟩
theorem grM96_ok : RowC grC 79 grM96 := ⟨by kernel_rfl⟩
theorem grM116_ok : RowC grC 79 grM116 := ⟨by kernel_rfl⟩
theorem grM136_ok : RowC grC 79 grM136 := ⟨by kernel_rfl⟩
theorem grM156_ok : RowC grC 79 grM156 := ⟨by kernel_rfl⟩
end Go.Proofs.YtgogidieibkimaaGreatDoor
