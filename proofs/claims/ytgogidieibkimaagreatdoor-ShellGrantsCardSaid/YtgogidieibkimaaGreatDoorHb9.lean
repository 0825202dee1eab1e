/- ShellGrants: steps as rows, part 9. No conditions. -/
import Derived.Test.YtgogidieibkimaaGreatDoorHo
namespace Go.Proofs.YtgogidieibkimaaGreatDoor
open Go Go.W Go.Proofs
set_option maxRecDepth 100000
theorem grM8_ok : RowC grC 79 grM8 := ⟨by kernel_rfl⟩
theorem grM28_ok : RowC grC 79 grM28 := ⟨by kernel_rfl⟩
theorem grM48_ok : RowC grC 79 grM48 := ⟨by kernel_rfl⟩
theorem grM68_ok : RowC grC 79 grM68 := ⟨by kernel_rfl⟩
theorem grM88_ok : RowC grC 79 grM88 := ⟨by kernel_rfl⟩
theorem grM108_ok : RowC grC 79 grM108 := ⟨by kernel_rfl⟩
theorem grM128_ok : RowC grC 79 grM128 := ⟨by kernel_rfl⟩
theorem grM148_ok : RowC grC 79 grM148 := ⟨by kernel_rfl⟩
theorem grM168_ok : RowC grC 79 grM168 := ⟨by kernel_rfl⟩
end Go.Proofs.YtgogidieibkimaaGreatDoor
