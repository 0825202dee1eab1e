/- ShellGrants: attempts on a node, as a table. No conditions. -/
import Derived.Test.YtgogidieibkimaaGreatDoorHa1
import Derived.Test.YtgogidieibkimaaGreatDoorHa2
import Derived.Test.YtgogidieibkimaaGreatDoorHa3
import Derived.Test.YtgogidieibkimaaGreatDoorHa4
import Derived.Test.YtgogidieibkimaaGreatDoorHa5
import Derived.Test.YtgogidieibkimaaGreatDoorHa6
namespace Go.Proofs.YtgogidieibkimaaGreatDoor
open Go Go.W Go.Proofs
set_option maxRecDepth 100000
def grOne : List (Memo reg0.T) := [grA0, grA1, grA2, grA3, grA4, grA5, grA6, grA7, grA8, grA9, grA10, grA11, grA12, grA13, grA14, grA15, grA16, grA17, grA18, grA19, grA20, grA21, grA22, grA23, grA24, grA25, grA26, grA27, grA28, grA29, grA30, grA31, grA32, grA33, grA34, grA35, grA36, grA37, grA38, grA39, grA40, grA41, grA42, grA43, grA44, grA45, grA46, grA47, grA48, grA49, grA50, grA51, grA52, grA53, grA54, grA55, grA56, grA57, grA58, grA59, grA60, grA61, grA62, grA63, grA64, grA65, grA66, grA67, grA68, grA69, grA70, grA71]
theorem grOne_ok : RowsC C0 295 grOne := ⟨grA0_ok, grA1_ok, grA2_ok, grA3_ok, grA4_ok, grA5_ok, grA6_ok, grA7_ok, grA8_ok, grA9_ok, grA10_ok, grA11_ok, grA12_ok, grA13_ok, grA14_ok, grA15_ok, grA16_ok, grA17_ok, grA18_ok, grA19_ok, grA20_ok, grA21_ok, grA22_ok, grA23_ok, grA24_ok, grA25_ok, grA26_ok, grA27_ok, grA28_ok, grA29_ok, grA30_ok, grA31_ok, grA32_ok, grA33_ok, grA34_ok, grA35_ok, grA36_ok, grA37_ok, grA38_ok, grA39_ok, grA40_ok, grA41_ok, grA42_ok, grA43_ok, grA44_ok, grA45_ok, grA46_ok, grA47_ok, grA48_ok, grA49_ok, grA50_ok, grA51_ok, grA52_ok, grA53_ok, grA54_ok, grA55_ok, grA56_ok, grA57_ok, grA58_ok, grA59_ok, grA60_ok, grA61_ok, grA62_ok, grA63_ok, grA64_ok, grA65_ok, grA66_ok, grA67_ok, grA68_ok, grA69_ok, grA70_ok, grA71_ok, trivial⟩
noncomputable def grC : Con reg0.T := conAdd C0 295 (uMemoC C0 295 grOne)
theorem grC_ok : ConOk Tryz.prog grC := conAdd_ok C0_ok (aMemoC C0_ok (by kernel_rfl) grOne_ok rfl)
end Go.Proofs.YtgogidieibkimaaGreatDoor
