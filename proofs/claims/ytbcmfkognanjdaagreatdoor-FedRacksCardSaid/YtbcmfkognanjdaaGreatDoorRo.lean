/- FedRacks: attempts on a node, as a table. No conditions. -/
import Derived.Test.YtbcmfkognanjdaaGreatDoorRa1
namespace Go.Proofs.YtbcmfkognanjdaaGreatDoor
open Go Go.W Go.Proofs
set_option maxRecDepth 100000
def frOne : List (Memo reg0.T) := [frA0, frA1, frA2, frA3]
theorem frOne_ok : RowsC C0 173 frOne := ⟨frA0_ok, frA1_ok, frA2_ok, frA3_ok, trivial⟩
noncomputable def frC : Con reg0.T := conAdd C0 173 (uMemoC C0 173 frOne)
theorem frC_ok : ConOk Tryz.prog frC := conAdd_ok C0_ok (aMemoC C0_ok (by kernel_rfl) frOne_ok rfl)
end Go.Proofs.YtbcmfkognanjdaaGreatDoor
