/- ManagerMaster: attempts on a node, as a table. No conditions. -/
import Derived.Test.YtmnkbfflpgmkmaaGreatDoorPa1
import Derived.Test.YtmnkbfflpgmkmaaGreatDoorPa2
import Derived.Test.YtmnkbfflpgmkmaaGreatDoorPa3
import Derived.Test.YtmnkbfflpgmkmaaGreatDoorPa4
import Derived.Test.YtmnkbfflpgmkmaaGreatDoorPa5
import Derived.Test.YtmnkbfflpgmkmaaGreatDoorPa6
import Derived.Test.YtmnkbfflpgmkmaaGreatDoorPa7
import Derived.Test.YtmnkbfflpgmkmaaGreatDoorPa8
namespace Go.Proofs.YtmnkbfflpgmkmaaGreatDoor
open Go Go.W Go.Proofs
set_option maxRecDepth 100000
def ppOne : List (Memo reg0.T) := [ppA0, ppA1, ppA2, ppA3, ppA4, ppA5, ppA6, ppA7, ppA8, ppA9, ppA10, ppA11, ppA12, ppA13, ppA14, ppA15, ppA16, ppA17, ppA18, ppA19, ppA20, ppA21, ppA22, ppA23, ppA24, ppA25, ppA26, ppA27, ppA28, ppA29, ppA30, ppA31, ppA32, ppA33, ppA34, ppA35, ppA36, ppA37, ppA38, ppA39, ppA40, ppA41, ppA42, ppA43, ppA44, ppA45, ppA46, ppA47, ppA48, ppA49, ppA50, ppA51, ppA52, ppA53, ppA54, ppA55, ppA56, ppA57, ppA58, ppA59, ppA60, ppA61, ppA62, ppA63, ppA64, ppA65, ppA66, ppA67, ppA68, ppA69, ppA70, ppA71, ppA72, ppA73, ppA74, ppA75, ppA76, ppA77, ppA78, ppA79, ppA80, ppA81, ppA82, ppA83, ppA84, ppA85, ppA86, ppA87, ppA88, ppA89, ppA90, ppA91, ppA92, ppA93, ppA94]
theorem ppOne_ok : RowsC C0 162 ppOne := ⟨ppA0_ok, ppA1_ok, ppA2_ok, ppA3_ok, ppA4_ok, ppA5_ok, ppA6_ok, ppA7_ok, ppA8_ok, ppA9_ok, ppA10_ok, ppA11_ok, ppA12_ok, ppA13_ok, ppA14_ok, ppA15_ok, ppA16_ok, ppA17_ok, ppA18_ok, ppA19_ok, ppA20_ok, ppA21_ok, ppA22_ok, ppA23_ok, ppA24_ok, ppA25_ok, ppA26_ok, ppA27_ok, ppA28_ok, ppA29_ok, ppA30_ok, ppA31_ok, ppA32_ok, ppA33_ok, ppA34_ok, ppA35_ok, ppA36_ok, ppA37_ok, ppA38_ok, ppA39_ok, ppA40_ok, ppA41_ok, ppA42_ok, ppA43_ok, ppA44_ok, ppA45_ok, ppA46_ok, ppA47_ok, ppA48_ok, ppA49_ok, ppA50_ok, ppA51_ok, ppA52_ok, ppA53_ok, ppA54_ok, ppA55_ok, ppA56_ok, ppA57_ok, ppA58_ok, ppA59_ok, ppA60_ok, ppA61_ok, ppA62_ok, ppA63_ok, ppA64_ok, ppA65_ok, ppA66_ok, ppA67_ok, ppA68_ok, ppA69_ok, ppA70_ok, ppA71_ok, ppA72_ok, ppA73_ok, ppA74_ok, ppA75_ok, ppA76_ok, ppA77_ok, ppA78_ok, ppA79_ok, ppA80_ok, ppA81_ok, ppA82_ok, ppA83_ok, ppA84_ok, ppA85_ok, ppA86_ok, ppA87_ok, ppA88_ok, ppA89_ok, ppA90_ok, ppA91_ok, ppA92_ok, ppA93_ok, ppA94_ok, trivial⟩
noncomputable def ppC : Con reg0.T := conAdd C0 162 (uMemoC C0 162 ppOne)
theorem ppC_ok : ConOk Tryz.prog ppC := conAdd_ok C0_ok (aMemoC C0_ok (by kernel_rfl) ppOne_ok rfl)
end Go.Proofs.YtmnkbfflpgmkmaaGreatDoor
