/- ShellGrants: attempts on a node as rows, part 6. No conditions. -/
import Derived.Test.YtgogidieibkimaaGreatDoorHb
namespace Go.Proofs.YtgogidieibkimaaGreatDoor
open Go Go.W Go.Proofs
set_option maxRecDepth 100000
theorem grA5_ok : RowC C0 295 grA5 := ⟨by kernel_rfl⟩
theorem grA11_ok : RowC C0 295 grA11 := ⟨by kernel_rfl⟩
theorem grA17_ok : RowC C0 295 grA17 := ⟨by kernel_rfl⟩
theorem grA23_ok : RowC C0 295 grA23 := ⟨by kernel_rfl⟩
theorem grA29_ok : RowC C0 295 grA29 := ⟨by kernel_rfl⟩
theorem grA35_ok : RowC C0 295 grA35 := ⟨by kernel_rfl⟩
theorem grA41_ok : RowC C0 295 grA41 := ⟨by kernel_rfl⟩
theorem grA47_ok : RowC C0 295 grA47 := ⟨by kernel_rfl⟩
theorem grA53_ok : RowC C0 295 grA53 := ⟨by kernel_rfl⟩
theorem grA59_ok : RowC C0 295 grA59 := ⟨by kernel_rfl⟩
theorem grA65_ok : RowC C0 295 grA65 := ⟨by kernel_rfl⟩
theorem grA71_ok : RowC C0 295 grA71 := ⟨by kernel_rfl⟩
end Go.Proofs.YtgogidieibkimaaGreatDoor
