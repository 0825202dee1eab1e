/- ShellGrants: attempts on a node as rows, part 2. No conditions. -/
import Derived.Test.YtgogidieibkimaaGreatDoorHb
namespace Go.Proofs.YtgogidieibkimaaGreatDoor
open Go Go.W Go.Proofs
set_option maxRecDepth 100000
theorem grA1_ok : RowC C0 295 grA1 := ⟨by kernel_rfl⟩
theorem grA7_ok : RowC C0 295 grA7 := ⟨by kernel_rfl⟩
theorem grA13_ok : RowC C0 295 grA13 := ⟨by kernel_rfl⟩
theorem grA19_ok : RowC C0 295 grA19 := ⟨by kernel_rfl⟩
theorem grA25_ok : RowC C0 295 grA25 := ⟨by kernel_rfl⟩
theorem grA31_ok : RowC C0 295 grA31 := ⟨by kernel_rfl⟩
theorem grA37_ok : RowC C0 295 grA37 := ⟨by kernel_rfl⟩
theorem grA43_ok : RowC C0 295 grA43 := ⟨by kernel_rfl⟩
theorem grA49_ok : RowC C0 295 grA49 := ⟨by kernel_rfl⟩
theorem grA55_ok : RowC C0 295 grA55 := ⟨by kernel_rfl⟩
theorem grA61_ok : RowC C0 295 grA61 := ⟨by kernel_rfl⟩
theorem grA67_ok : RowC C0 295 grA67 := ⟨by kernel_rfl⟩
end Go.Proofs.YtgogidieibkimaaGreatDoor
