/- ShellGrants: attempts on a node as rows, part 4. No conditions. -/
import Derived.Test.YtgogidieibkimaaGreatDoorHb
namespace Go.Proofs.YtgogidieibkimaaGreatDoor
open Go Go.W Go.Proofs
set_option maxRecDepth 100000
theorem grA3_ok : RowC C0 295 grA3 := ⟨by kernel_rfl⟩
theorem grA9_ok : RowC C0 295 grA9 := ⟨by kernel_rfl⟩
theorem grA15_ok : RowC C0 295 grA15 := ⟨by kernel_rfl⟩
theorem grA21_ok : RowC C0 295 grA21 := ⟨by kernel_rfl⟩
theorem grA27_ok : RowC C0 295 grA27 := ⟨by kernel_rfl⟩
theorem grA33_ok : RowC C0 295 grA33 := ⟨by kernel_rfl⟩
theorem grA39_ok : RowC C0 295 grA39 := ⟨by kernel_rfl⟩
theorem grA45_ok : RowC C0 295 grA45 := ⟨by kernel_rfl⟩
theorem grA51_ok : RowC C0 295 grA51 := ⟨by kernel_rfl⟩
theorem grA57_ok : RowC C0 295 grA57 := ⟨by kernel_rfl⟩
theorem grA63_ok : RowC C0 295 grA63 := ⟨by kernel_rfl⟩
theorem grA69_ok : RowC C0 295 grA69 := ⟨by kernel_rfl⟩
end Go.Proofs.YtgogidieibkimaaGreatDoor
