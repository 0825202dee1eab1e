/- ManagerNode: attempts on a node, as a table. No conditions. -/
import Derived.Test.YtmnkbfflpgmkmaaGreatDoorNa1
namespace Go.Proofs.YtmnkbfflpgmkmaaGreatDoor
open Go Go.W Go.Proofs
set_option maxRecDepth 100000
def nnOne : List (Memo reg0.T) := [nnA0, nnA1, nnA2, nnA3, nnA4, nnA5, nnA6, nnA7]
theorem nnOne_ok : RowsC C0 162 nnOne := ⟨nnA0_ok, nnA1_ok, nnA2_ok, nnA3_ok, nnA4_ok, nnA5_ok, nnA6_ok, nnA7_ok, trivial⟩
noncomputable def nnC : Con reg0.T := conAdd C0 162 (uMemoC C0 162 nnOne)
theorem nnC_ok : ConOk Tryz.prog nnC := conAdd_ok C0_ok (aMemoC C0_ok (by kernel_rfl) nnOne_ok rfl)
end Go.Proofs.YtmnkbfflpgmkmaaGreatDoor
