/- ShellGrants: steps as rows, part 12. No conditions. -/
import Derived.Test.YtgogidieibkimaaGreatDoorHo
namespace Go.Proofs.YtgogidieibkimaaGreatDoor
open Go Go.W Go.Proofs
set_option maxRecDepth 100000
theorem grM11_ok : RowC grC 79 grM11 := ⟨by kernel_rfl⟩
theorem grM31_ok : RowC grC 79 grM31 := ⟨by kernel_rfl⟩
theorem grM51_ok : RowC grC 79 grM51 := ⟨by kernel_rfl⟩
theorem grM71_ok : RowC grC 79 grM71 := ⟨by kernel_rfl⟩
theorem grM91_ok : RowC grC 79 grM91 := ⟨by kernel_rfl⟩
theorem grM111_ok : RowC grC 79 grM111 := ⟨by kernel_rfl⟩
theorem grM131_ok : RowC grC 79 grM131 := ⟨by kernel_rfl⟩
theorem grM151_ok : RowC grC 79 grM151 := ⟨by kernel_rfl⟩
end Go.Proofs.YtgogidieibkimaaGreatDoor
