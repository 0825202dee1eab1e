/- ShellGrants: steps as rows, part 18. No conditions. -/
import Derived.Test.YtgogidieibkimaaGreatDoorHo
namespace Go.Proofs.YtgogidieibkimaaGreatDoor
open Go Go.W Go.Proofs
set_option maxRecDepth 100000
theorem grM17_ok : RowC grC 79 grM17 := ⟨by kernel_rfl⟩
theorem grM37_ok : RowC grC 79 grM37 := ⟨by kernel_rfl⟩
theorem grM57_ok : RowC grC 79 grM57 := ⟨by kernel_rfl⟩
theorem grM77_ok : RowC grC 79 grM77 := ⟨by kernel_rfl⟩
theorem grM97_ok : RowC grC 79 grM97 := ⟨by kernel_rfl⟩
theorem grM117_ok : RowC grC 79 grM117 := ⟨by kernel_rfl⟩
theorem grM137_ok : RowC grC 79 grM137 := ⟨by kernel_rfl⟩
theorem grM157_ok : RowC grC 79 grM157 := ⟨by kernel_rfl⟩
end Go.Proofs.YtgogidieibkimaaGreatDoor
