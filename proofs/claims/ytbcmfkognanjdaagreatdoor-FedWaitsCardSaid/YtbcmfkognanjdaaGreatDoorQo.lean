/- FedWaits: attempts on a node, as a table. No conditions. -/
import Derived.Test.YtbcmfkognanjdaaGreatDoorQa1
namespace Go.Proofs.YtbcmfkognanjdaaGreatDoor
open Go Go.W Go.Proofs
set_option maxRecDepth 100000
def fqOne : List (Memo reg0.T) := [fqA0, fqA1]
theorem fqOne_ok : RowsC C0 173 fqOne := ⟨fqA0_ok, fqA1_ok, trivial⟩
noncomputable def fqC : Con reg0.T := conAdd C0 173 (uMemoC C0 173 fqOne)
theorem fqC_ok : ConOk Tryz.prog fqC := conAdd_ok C0_ok (aMemoC C0_ok (by kernel_rfl) fqOne_ok rfl)
end Go.Proofs.YtbcmfkognanjdaaGreatDoor
