/- ShellGrants: steps as rows, part 6. No conditions. -/
import Derived.Test.YtgogidieibkimaaGreatDoorHo
namespace Go.Proofs.YtgogidieibkimaaGreatDoor
open Go Go.W Go.Proofs
set_option maxRecDepth 100000
theorem grM5_ok : RowC grC 79 grM5 := ⟨by kernel_rfl⟩
theorem grM25_ok : RowC grC 79 grM25 := ⟨by kernel_rfl⟩
theorem grM45_ok : RowC grC 79 grM45 := ⟨by kernel_rfl⟩
theorem grM65_ok : RowC grC 79 grM65 := ⟨by kernel_rfl⟩
theorem grM85_ok : RowC grC 79 grM85 := ⟨by kernel_rfl⟩
theorem grM105_ok : RowC grC 79 grM105 := ⟨by kernel_rfl⟩
theorem grM125_ok : RowC grC 79 grM125 := ⟨by kernel_rfl⟩
theorem grM145_ok : RowC grC 79 grM145 := ⟨by kernel_rfl⟩
theorem grM165_ok : RowC grC 79 grM165 := ⟨by kernel_rfl⟩
end Go.Proofs.YtgogidieibkimaaGreatDoor
