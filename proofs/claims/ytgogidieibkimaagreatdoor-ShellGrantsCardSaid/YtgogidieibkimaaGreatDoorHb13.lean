/- ShellGrants: steps as rows, part 13. No conditions. -/
import Derived.Test.YtgogidieibkimaaGreatDoorHo
namespace Go.Proofs.YtgogidieibkimaaGreatDoor
open Go Go.W Go.Proofs
set_option maxRecDepth 100000
theorem grM12_ok : RowC grC 79 grM12 := ⟨by kernel_rfl⟩
theorem grM32_ok : RowC grC 79 grM32 := ⟨by kernel_rfl⟩
theorem grM52_ok : RowC grC 79 grM52 := ⟨by kernel_rfl⟩
theorem grM72_ok : RowC grC 79 grM72 := ⟨by kernel_rfl⟩
theorem grM92_ok : RowC grC 79 grM92 := ⟨by kernel_rfl⟩
theorem grM112_ok : RowC grC 79 grM112 := ⟨by kernel_rfl⟩
theorem grM132_ok : RowC grC 79 grM132 := ⟨by kernel_rfl⟩
theorem grM152_ok : RowC grC 79 grM152 := ⟨by kernel_rfl⟩
end Go.Proofs.YtgogidieibkimaaGreatDoor
