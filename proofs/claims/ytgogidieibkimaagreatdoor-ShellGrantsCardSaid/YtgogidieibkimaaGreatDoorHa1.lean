/- ShellGrants: attempts on a node as rows, part 1. No conditions. -/
import Derived.Test.YtgogidieibkimaaGreatDoorHb
namespace Go.Proofs.YtgogidieibkimaaGreatDoor
open Go Go.W Go.Proofs
set_option maxRecDepth 100000
theorem grA0_ok : RowC C0 295 grA0 := ⟨by kernel_rfl⟩
theorem grA6_ok : RowC C0 295 grA6 := ⟨by kernel_rfl⟩
theorem grA12_ok : RowC C0 295 grA12 := ⟨by kernel_rfl⟩
theorem grA18_ok : RowC C0 295 grA18 := ⟨by kernel_rfl⟩
theorem grA24_ok : RowC C0 295 grA24 := ⟨by kernel_rfl⟩
theorem grA30_ok : RowC C0 295 grA30 := ⟨by kernel_rfl⟩
theorem grA36_ok : RowC C0 295 grA36 := ⟨by kernel_rfl⟩
theorem grA42_ok : RowC C0 295 grA42 := ⟨by kernel_rfl⟩
theorem grA48_ok : RowC C0 295 grA48 := ⟨by kernel_rfl⟩
theorem grA54_ok : RowC C0 295 grA54 := ⟨by kernel_rfl⟩
theorem grA60_ok : RowC C0 295 grA60 := ⟨by kernel_rfl⟩
theorem grA66_ok : RowC C0 295 grA66 := ⟨by kernel_rfl⟩
end Go.Proofs.YtgogidieibkimaaGreatDoor
