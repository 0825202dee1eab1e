/- ShellGrants: steps as rows, part 14. No conditions. -/
import Derived.Test.YtgogidieibkimaaGreatDoorHo
namespace Go.Proofs.YtgogidieibkimaaGreatDoor
open Go Go.W Go.Proofs
set_option maxRecDepth 100000
theorem grM13_ok : RowC grC 79 grM13 := ⟨by kernel_rfl⟩
theorem grM33_ok : RowC grC 79 grM33 := ⟨by kernel_rfl⟩
theorem grM53_ok : RowC grC 79 grM53 := ⟨by kernel_rfl⟩
theorem grM73_ok : RowC grC 79 grM73 := ⟨by kernel_rfl⟩
theorem grM93_ok : RowC grC 79 grM93 := ⟨by kernel_rfl⟩
theorem grM113_ok : RowC grC 79 grM113 := ⟨by kernel_rfl⟩
theorem grM133_ok : RowC grC 79 grM133 := ⟨by kernel_rfl⟩
theorem grM153_ok : RowC grC 79 grM153 := ⟨by kernel_rfl⟩
end Go.Proofs.YtgogidieibkimaaGreatDoor
