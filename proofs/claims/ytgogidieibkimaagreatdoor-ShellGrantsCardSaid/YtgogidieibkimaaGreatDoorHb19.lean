/- ShellGrants: steps as rows, part 19. No conditions. -/
import Derived.Test.YtgogidieibkimaaGreatDoorHo
namespace Go.Proofs.YtgogidieibkimaaGreatDoor
open Go Go.W Go.Proofs
set_option maxRecDepth 100000
theorem grM18_ok : RowC grC 79 grM18 := ⟨by kernel_rfl⟩
theorem grM38_ok : RowC grC 79 grM38 := ⟨by kernel_rfl⟩
theorem grM58_ok : RowC grC 79 grM58 := ⟨by kernel_rfl⟩
theorem grM78_ok : RowC grC 79 grM78 := ⟨by kernel_rfl⟩
theorem grM98_ok : RowC grC 79 grM98 := ⟨by kernel_rfl⟩
theorem grM118_ok : RowC grC 79 grM118 := ⟨by kernel_rfl⟩
theorem grM138_ok : RowC grC 79 grM138 := ⟨by kernel_rfl⟩
theorem grM158_ok : RowC grC 79 grM158 := ⟨by kernel_rfl⟩
end Go.Proofs.YtgogidieibkimaaGreatDoor
