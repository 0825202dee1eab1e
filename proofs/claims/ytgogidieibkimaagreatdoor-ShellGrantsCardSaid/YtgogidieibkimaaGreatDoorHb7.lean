/- ShellGrants: steps as rows, part 7. No conditions. -/
import Derived.Test.YtgogidieibkimaaGreatDoorHo
namespace Go.Proofs.YtgogidieibkimaaGreatDoor
open Go Go.W Go.Proofs
set_option maxRecDepth 100000
theorem grM6_ok : RowC grC 79 grM6 := ⟨by kernel_rfl⟩
theorem grM26_ok : RowC grC 79 grM26 := ⟨by kernel_rfl⟩
theorem grM46_ok : RowC grC 79 grM46 := ⟨by kernel_rfl⟩
theorem grM66_ok : RowC grC 79 grM66 := ⟨by kernel_rfl⟩
theorem grM86_ok : RowC grC 79 grM86 := ⟨by kernel_rfl⟩
theorem grM106_ok : RowC grC 79 grM106 := ⟨by kernel_rfl⟩
theorem grM126_ok : RowC grC 79 grM126 := ⟨by kernel_rfl⟩
theorem grM146_ok : RowC grC 79 grM146 := ⟨by kernel_rfl⟩
theorem grM166_ok : RowC grC 79 grM166 := ⟨by kernel_rfl⟩
end Go.Proofs.YtgogidieibkimaaGreatDoor
