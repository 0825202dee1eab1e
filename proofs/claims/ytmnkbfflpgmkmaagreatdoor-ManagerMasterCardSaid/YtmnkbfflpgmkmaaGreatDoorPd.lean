/- ManagerMaster: its function answers yes. No conditions. -/
import Derived.Test.YtmnkbfflpgmkmaaGreatDoorPd1
import Derived.Test.YtmnkbfflpgmkmaaGreatDoorPd2
import Derived.Test.YtmnkbfflpgmkmaaGreatDoorPd3
import Derived.Test.YtmnkbfflpgmkmaaGreatDoorPd4
import Derived.Test.YtmnkbfflpgmkmaaGreatDoorPd5
import Derived.Test.YtmnkbfflpgmkmaaGreatDoorPd6
import Derived.Test.YtmnkbfflpgmkmaaGreatDoorPd7
import Derived.Test.YtmnkbfflpgmkmaaGreatDoorPd8
namespace Go.Proofs.YtmnkbfflpgmkmaaGreatDoor
open Go Go.W Go.Proofs
theorem pp_yes (a b : Int) : ∃ T, ∃ _ : TabsOk Tryz.prog T, ∃ v u, ppYesF T v u a b := by
  have h1 := wi_of a (n := 20) (by omega) (by omega)
  have h2 := wi_of b (n := 4) (by omega) (by omega)
  have c1 : wi a 20 = 0 ∨ wi a 20 = 1 ∨ wi a 20 = 2 ∨ wi a 20 = 3 ∨ wi a 20 = 4 ∨ wi a 20 = 5 ∨ wi a 20 = 6 ∨ wi a 20 = 7 ∨ wi a 20 = 8 ∨ wi a 20 = 9 ∨ wi a 20 = 10 ∨ wi a 20 = 11 ∨ wi a 20 = 12 ∨ wi a 20 = 13 ∨ wi a 20 = 14 ∨ wi a 20 = 15 ∨ wi a 20 = 16 ∨ wi a 20 = 17 ∨ wi a 20 = 18 ∨ wi a 20 = 19 := by omega
  have c2 : wi b 4 = 0 ∨ wi b 4 = 1 ∨ wi b 4 = 2 ∨ wi b 4 = 3 := by omega
  rcases c1 with c1 | c1 | c1 | c1 | c1 | c1 | c1 | c1 | c1 | c1 | c1 | c1 | c1 | c1 | c1 | c1 | c1 | c1 | c1 | c1 <;> rcases c2 with c2 | c2 | c2 | c2
  · exact ⟨_, ppT0_0_ok, _, _, ppy0_0 c1 c2⟩
  · exact ⟨_, ppT0_1_ok, _, _, ppy0_1 c1 c2⟩
  · exact ⟨_, ppT0_2_ok, _, _, ppy0_2 c1 c2⟩
  · exact ⟨_, ppT0_3_ok, _, _, ppy0_3 c1 c2⟩
  · exact ⟨_, ppT1_0_ok, _, _, ppy1_0 c1 c2⟩
  · exact ⟨_, ppT1_1_ok, _, _, ppy1_1 c1 c2⟩
  · exact ⟨_, ppT1_2_ok, _, _, ppy1_2 c1 c2⟩
  · exact ⟨_, ppT1_3_ok, _, _, ppy1_3 c1 c2⟩
  · exact ⟨_, ppT2_0_ok, _, _, ppy2_0 c1 c2⟩
  · exact ⟨_, ppT2_1_ok, _, _, ppy2_1 c1 c2⟩
  · exact ⟨_, ppT2_2_ok, _, _, ppy2_2 c1 c2⟩
  · exact ⟨_, ppT2_3_ok, _, _, ppy2_3 c1 c2⟩
  · exact ⟨_, ppT3_0_ok, _, _, ppy3_0 c1 c2⟩
  · exact ⟨_, ppT3_1_ok, _, _, ppy3_1 c1 c2⟩
  · exact ⟨_, ppT3_2_ok, _, _, ppy3_2 c1 c2⟩
  · exact ⟨_, ppT3_3_ok, _, _, ppy3_3 c1 c2⟩
  · exact ⟨_, ppT4_0_ok, _, _, ppy4_0 c1 c2⟩
  · exact ⟨_, ppT4_1_ok, _, _, ppy4_1 c1 c2⟩
  · exact ⟨_, ppT4_2_ok, _, _, ppy4_2 c1 c2⟩
  · exact ⟨_, ppT4_3_ok, _, _, ppy4_3 c1 c2⟩
  · exact ⟨_, ppT5_0_ok, _, _, ppy5_0 c1 c2⟩
  · exact ⟨_, ppT5_1_ok, _, _, ppy5_1 c1 c2⟩
  · exact ⟨_, ppT5_2_ok, _, _, ppy5_2 c1 c2⟩
  · exact ⟨_, ppT5_3_ok, _, _, ppy5_3 c1 c2⟩
  · exact ⟨_, ppT6_0_ok, _, _, ppy6_0 c1 c2⟩
  · exact ⟨_, ppT6_1_ok, _, _, ppy6_1 c1 c2⟩
  · exact ⟨_, ppT6_2_ok, _, _, ppy6_2 c1 c2⟩
  · exact ⟨_, ppT6_3_ok, _, _, ppy6_3 c1 c2⟩
  · exact ⟨_, ppT7_0_ok, _, _, ppy7_0 c1 c2⟩
  · exact ⟨_, ppT7_1_ok, _, _, ppy7_1 c1 c2⟩
  · exact ⟨_, ppT7_2_ok, _, _, ppy7_2 c1 c2⟩
  · exact ⟨_, ppT7_3_ok, _, _, ppy7_3 c1 c2⟩
  · exact ⟨_, ppT8_0_ok, _, _, ppy8_0 c1 c2⟩
  · exact ⟨_, ppT8_1_ok, _, _, ppy8_1 c1 c2⟩
  · exact ⟨_, ppT8_2_ok, _, _, ppy8_2 c1 c2⟩
  · exact ⟨_, ppT8_3_ok, _, _, ppy8_3 c1 c2⟩
  · exact ⟨_, ppT9_0_ok, _, _, ppy9_0 c1 c2⟩
  · exact ⟨_, ppT9_1_ok, _, _, ppy9_1 c1 c2⟩
  · exact ⟨_, ppT9_2_ok, _, _, ppy9_2 c1 c2⟩
  · exact ⟨_, ppT9_3_ok, _, _, ppy9_3 c1 c2⟩
  · exact ⟨_, ppT10_0_ok, _, _, ppy10_0 c1 c2⟩
  · exact ⟨_, ppT10_1_ok, _, _, ppy10_1 c1 c2⟩
  · exact ⟨_, ppT10_2_ok, _, _, ppy10_2 c1 c2⟩
  · exact ⟨_, ppT10_3_ok, _, _, ppy10_3 c1 c2⟩
  · exact ⟨_, ppT11_0_ok, _, _, ppy11_0 c1 c2⟩
  · exact ⟨_, ppT11_1_ok, _, _, ppy11_1 c1 c2⟩
  · exact ⟨_, ppT11_2_ok, _, _, ppy11_2 c1 c2⟩
  · exact ⟨_, ppT11_3_ok, _, _, ppy11_3 c1 c2⟩
  · exact ⟨_, ppT12_0_ok, _, _, ppy12_0 c1 c2⟩
  · exact ⟨_, ppT12_1_ok, _, _, ppy12_1 c1 c2⟩
  · exact ⟨_, ppT12_2_ok, _, _, ppy12_2 c1 c2⟩
  · exact ⟨_, ppT12_3_ok, _, _, ppy12_3 c1 c2⟩
  · exact ⟨_, ppT13_0_ok, _, _, ppy13_0 c1 c2⟩
  · exact ⟨_, ppT13_1_ok, _, _, ppy13_1 c1 c2⟩
  · exact ⟨_, ppT13_2_ok, _, _, ppy13_2 c1 c2⟩
  · exact ⟨_, ppT13_3_ok, _, _, ppy13_3 c1 c2⟩
  · exact ⟨_, ppT14_0_ok, _, _, ppy14_0 c1 c2⟩
  · exact ⟨_, ppT14_1_ok, _, _, ppy14_1 c1 c2⟩
  · exact ⟨_, ppT14_2_ok, _, _, ppy14_2 c1 c2⟩
  · exact ⟨_, ppT14_3_ok, _, _, ppy14_3 c1 c2⟩
  · exact ⟨_, ppT15_0_ok, _, _, ppy15_0 c1 c2⟩
  · exact ⟨_, ppT15_1_ok, _, _, ppy15_1 c1 c2⟩
  · exact ⟨_, ppT15_2_ok, _, _, ppy15_2 c1 c2⟩
  · exact ⟨_, ppT15_3_ok, _, _, ppy15_3 c1 c2⟩
  · exact ⟨_, ppT16_0_ok, _, _, ppy16_0 c1 c2⟩
  · exact ⟨_, ppT16_1_ok, _, _, ppy16_1 c1 c2⟩
  · exact ⟨_, ppT16_2_ok, _, _, ppy16_2 c1 c2⟩
  · exact ⟨_, ppT16_3_ok, _, _, ppy16_3 c1 c2⟩
  · exact ⟨_, ppT17_0_ok, _, _, ppy17_0 c1 c2⟩
  · exact ⟨_, ppT17_1_ok, _, _, ppy17_1 c1 c2⟩
  · exact ⟨_, ppT17_2_ok, _, _, ppy17_2 c1 c2⟩
  · exact ⟨_, ppT17_3_ok, _, _, ppy17_3 c1 c2⟩
  · exact ⟨_, ppT18_0_ok, _, _, ppy18_0 c1 c2⟩
  · exact ⟨_, ppT18_1_ok, _, _, ppy18_1 c1 c2⟩
  · exact ⟨_, ppT18_2_ok, _, _, ppy18_2 c1 c2⟩
  · exact ⟨_, ppT18_3_ok, _, _, ppy18_3 c1 c2⟩
  · exact ⟨_, ppT19_0_ok, _, _, ppy19_0 c1 c2⟩
  · exact ⟨_, ppT19_1_ok, _, _, ppy19_1 c1 c2⟩
  · exact ⟨_, ppT19_2_ok, _, _, ppy19_2 c1 c2⟩
  · exact ⟨_, ppT19_3_ok, _, _, ppy19_3 c1 c2⟩
end Go.Proofs.YtmnkbfflpgmkmaaGreatDoor
