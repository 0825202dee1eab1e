/- ShellGrants: attempts on a node as rows, part 5. No conditions. -/
import Derived.Test.YtgogidieibkimaaGreatDoorHb
namespace Go.Proofs.YtgogidieibkimaaGreatDoor
open Go Go.W Go.Proofs
set_option maxRecDepth 100000
theorem grA4_ok : RowC C0 295 grA4 := ⟨by kernel_rfl⟩
theorem grA10_ok : RowC C0 295 grA10 := ⟨by kernel_rfl⟩
theorem grA16_ok : RowC C0 295 grA16 := ⟨by kernel_rfl⟩
theorem grA22_ok : RowC C0 295 grA22 := ⟨by kernel_rfl⟩
theorem grA28_ok : RowC C0 295 grA28 := ⟨by kernel_rfl⟩
theorem grA34_ok : RowC C0 295 grA34 := ⟨by kernel_rfl⟩
theorem grA40_ok : RowC C0 295 grA40 := ⟨by kernel_rfl⟩
theorem grA46_ok : RowC C0 295 grA46 := ⟨by kernel_rfl⟩
theorem grA52_ok : RowC C0 295 grA52 := ⟨by kernel_rfl⟩
theorem grA58_ok : RowC C0 295 grA58 := ⟨by kernel_rfl⟩
theorem grA64_ok : RowC C0 295 grA64 := ⟨by kernel_rfl⟩
theorem grA70_ok : RowC C0 295 grA70 := ⟨by kernel_rfl⟩
end Go.Proofs.YtgogidieibkimaaGreatDoor
