/- ShellGrants: steps as rows, part 5. No conditions. -/
import Derived.Test.YtgogidieibkimaaGreatDoorHo
namespace Go.Proofs.YtgogidieibkimaaGreatDoor
open Go Go.W Go.Proofs
set_option maxRecDepth 100000
theorem grM4_ok : RowC grC 79 grM4 := ⟨by kernel_rfl⟩
theorem grM24_ok : RowC grC 79 grM24 := ⟨by kernel_rfl⟩
theorem grM44_ok : RowC grC 79 grM44 := ⟨by kernel_rfl⟩
theorem grM64_ok : RowC grC 79 grM64 := ⟨by kernel_rfl⟩
theorem grM84_ok : RowC grC 79 grM84 := ⟨by kernel_rfl⟩
theorem grM104_ok : RowC grC 79 grM104 := ⟨by kernel_rfl⟩
theorem grM124_ok : RowC grC 79 grM124 := ⟨by kernel_rfl⟩
theorem grM144_ok : RowC grC 79 grM144 := ⟨by kernel_rfl⟩
theorem grM164_ok : RowC grC 79 grM164 := ⟨by kernel_rfl⟩
end Go.Proofs.YtgogidieibkimaaGreatDoor
