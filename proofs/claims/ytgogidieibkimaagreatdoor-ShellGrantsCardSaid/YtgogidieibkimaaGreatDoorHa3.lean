/- ShellGrants: attempts on a node as rows, part 3. No conditions. -/
import Derived.Test.YtgogidieibkimaaGreatDoorHb
namespace Go.Proofs.YtgogidieibkimaaGreatDoor
open Go Go.W Go.Proofs
set_option maxRecDepth 100000
theorem grA2_ok : RowC C0 295 grA2 := ⟨by kernel_rfl⟩
theorem grA8_ok : RowC C0 295 grA8 := ⟨by kernel_rfl⟩
theorem grA14_ok : RowC C0 295 grA14 := ⟨by kernel_rfl⟩
theorem grA20_ok : RowC C0 295 grA20 := ⟨by kernel_rfl⟩
theorem grA26_ok : RowC C0 295 grA26 := ⟨by kernel_rfl⟩
theorem grA32_ok : RowC C0 295 grA32 := ⟨by kernel_rfl⟩
theorem grA38_ok : RowC C0 295 grA38 := ⟨by kernel_rfl⟩
theorem grA44_ok : RowC C0 295 grA44 := ⟨by kernel_rfl⟩
theorem grA50_ok : RowC C0 295 grA50 := ⟨by kernel_rfl⟩
theorem grA56_ok : RowC C0 295 grA56 := ⟨by kernel_rfl⟩
theorem grA62_ok : RowC C0 295 grA62 := ⟨by kernel_rfl⟩
theorem grA68_ok : RowC C0 295 grA68 := ⟨by kernel_rfl⟩
end Go.Proofs.YtgogidieibkimaaGreatDoor
