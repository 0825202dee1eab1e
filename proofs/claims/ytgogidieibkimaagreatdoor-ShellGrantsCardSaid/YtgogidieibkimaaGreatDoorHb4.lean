/- ShellGrants: steps as rows, part 4. No conditions. -/
import Derived.Test.YtgogidieibkimaaGreatDoorHo
namespace Go.Proofs.YtgogidieibkimaaGreatDoor
open Go Go.W Go.Proofs
set_option maxRecDepth 100000
theorem grM3_ok : RowC grC 79 grM3 := ⟨by kernel_rfl⟩
theorem grM23_ok : RowC grC 79 grM23 := ⟨by kernel_rfl⟩
theorem grM43_ok : RowC grC 79 grM43 := ⟨by kernel_rfl⟩
theorem grM63_ok : RowC grC 79 grM63 := ⟨by kernel_rfl⟩
theorem grM83_ok : RowC grC 79 grM83 := ⟨by kernel_rfl⟩
theorem grM103_ok : RowC grC 79 grM103 := ⟨by kernel_rfl⟩
theorem grM123_ok : RowC grC 79 grM123 := ⟨by kernel_rfl⟩
theorem grM143_ok : RowC grC 79 grM143 := ⟨by kernel_rfl⟩
theorem grM163_ok : RowC grC 79 grM163 := ⟨by kernel_rfl⟩
end Go.Proofs.YtgogidieibkimaaGreatDoor
