/- ShellGrants: steps as rows, part 16. No conditions. -/
import Derived.Test.YtgogidieibkimaaGreatDoorHo
namespace Go.Proofs.YtgogidieibkimaaGreatDoor
open Go Go.W Go.Proofs
set_option maxRecDepth 100000
theorem grM15_ok : RowC grC 79 grM15 := ⟨by kernel_rfl⟩
theorem grM35_ok : RowC grC 79 grM35 := ⟨by kernel_rfl⟩
theorem grM55_ok : RowC grC 79 grM55 := ⟨by kernel_rfl⟩
theorem grM75_ok : RowC grC 79 grM75 := ⟨by kernel_rfl⟩
theorem grM95_ok : RowC grC 79 grM95 := ⟨by kernel_rfl⟩
theorem grM115_ok : RowC grC 79 grM115 := ⟨by kernel_rfl⟩
theorem grM135_ok : RowC grC 79 grM135 := ⟨by kernel_rfl⟩
theorem grM155_ok : RowC grC 79 grM155 := ⟨by kernel_rfl⟩
end Go.Proofs.YtgogidieibkimaaGreatDoor
