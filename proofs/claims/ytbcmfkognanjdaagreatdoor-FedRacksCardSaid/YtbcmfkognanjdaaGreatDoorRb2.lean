/- FedRacks: steps as rows, part 2. No conditions. -/
import Derived.Test.YtbcmfkognanjdaaGreatDoorRo
namespace Go.Proofs.YtbcmfkognanjdaaGreatDoor
open Go Go.W Go.Proofs
set_option maxRecDepth 100000
theorem frM1_ok : RowC frC 27 frM1 := ⟨by kernel_rfl⟩
theorem frM7_ok : RowC frC 27 frM7 := ⟨by kernel_rfl⟩
theorem frM13_ok : RowC frC 27 frM13 := ⟨by kernel_rfl⟩
theorem frM19_ok : RowC frC 27 frM19 := ⟨by kernel_rfl⟩
theorem frM25_ok : RowC frC 27 frM25 := ⟨by kernel_rfl⟩
theorem frM31_ok : RowC frC 27 frM31 := ⟨by kernel_rfl⟩
theorem frM37_ok : RowC frC 27 frM37 := ⟨by kernel_rfl⟩
theorem frM43_ok : RowC frC 27 frM43 := ⟨by kernel_rfl⟩
theorem frM49_ok : RowC frC 27 frM49 := ⟨by kernel_rfl⟩
theorem frM55_ok : RowC frC 27 frM55 := ⟨by kernel_rfl⟩
theorem frM61_ok : RowC frC 27 frM61 := ⟨by kernel_rfl⟩
theorem frM67_ok : RowC frC 27 frM67 := ⟨by kernel_rfl⟩
end Go.Proofs.YtbcmfkognanjdaaGreatDoor
