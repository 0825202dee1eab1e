/- ShellGrants: steps as rows, part 3. No conditions. -/
import Derived.Test.YtgogidieibkimaaGreatDoorHo
namespace Go.Proofs.YtgogidieibkimaaGreatDoor
open Go Go.W Go.Proofs
set_option maxRecDepth 100000
theorem grM2_ok : RowC grC 79 grM2 := ⟨by kernel_rfl⟩
theorem grM22_ok : RowC grC 79 grM22 := ⟨by kernel_rfl⟩
theorem grM42_ok : RowC grC 79 grM42 := ⟨by kernel_rfl⟩
theorem grM62_ok : RowC grC 79 grM62 := ⟨by kernel_rfl⟩
theorem grM82_ok : RowC grC 79 grM82 := ⟨by kernel_rfl⟩
theorem grM102_ok : RowC grC 79 grM102 := ⟨by kernel_rfl⟩
theorem grM122_ok : RowC grC 79 grM122 := ⟨by kernel_rfl⟩
theorem grM142_ok : RowC grC 79 grM142 := ⟨by kernel_rfl⟩
theorem grM162_ok : RowC grC 79 grM162 := ⟨by kernel_rfl⟩
end Go.Proofs.YtgogidieibkimaaGreatDoor
