/- FedRefuses: attempts on a node, as a table. No conditions. -/
import Derived.Test.YtbcmfkognanjdaaGreatDoorUa1
namespace Go.Proofs.YtbcmfkognanjdaaGreatDoor
open Go Go.W Go.Proofs
set_option maxRecDepth 100000
def fuOne : List (Memo reg0.T) := [fuA0, fuA1, fuA2, fuA3]
theorem fuOne_ok : RowsC C0 173 fuOne := ⟨fuA0_ok, fuA1_ok, fuA2_ok, fuA3_ok, trivial⟩
noncomputable def fuC : Con reg0.T := conAdd C0 173 (uMemoC C0 173 fuOne)
theorem fuC_ok : ConOk Tryz.prog fuC := conAdd_ok C0_ok (aMemoC C0_ok (by kernel_rfl) fuOne_ok rfl)
end Go.Proofs.YtbcmfkognanjdaaGreatDoor
