/- FedSubmits: steps as a table. No conditions. -/
import Derived.Test.YtbcmfkognanjdaaGreatDoorSb1
import Derived.Test.YtbcmfkognanjdaaGreatDoorSb2
import Derived.Test.YtbcmfkognanjdaaGreatDoorSb3
import Derived.Test.YtbcmfkognanjdaaGreatDoorSb4
namespace Go.Proofs.YtbcmfkognanjdaaGreatDoor
open Go Go.W Go.Proofs
set_option maxRecDepth 100000
def fsSt : List (Memo reg0.T) := [fsM0, fsM1, fsM2, fsM3, fsM4, fsM5, fsM6, fsM7, fsM8, fsM9, fsM10, fsM11, fsM12, fsM13, fsM14, fsM15, fsM16, fsM17, fsM18]
theorem fsSt_ok : RowsC C0 27 fsSt := ⟨fsM0_ok, fsM1_ok, fsM2_ok, fsM3_ok, fsM4_ok, fsM5_ok, fsM6_ok, fsM7_ok, fsM8_ok, fsM9_ok, fsM10_ok, fsM11_ok, fsM12_ok, fsM13_ok, fsM14_ok, fsM15_ok, fsM16_ok, fsM17_ok, fsM18_ok, trivial⟩
noncomputable def fsD : Con reg0.T := conAdd C0 27 (uMemoC C0 27 fsSt)
theorem fsD_ok : ConOk Tryz.prog fsD := conAdd_ok C0_ok (aMemoC C0_ok (by kernel_rfl) fsSt_ok rfl)
abbrev RowS (m : Memo reg0.T) : Prop := RowQ Tryz.prog fsD 1000 60 10 m
end Go.Proofs.YtbcmfkognanjdaaGreatDoor
