/- ManagerNode: its function answers yes. No conditions. -/
import Derived.Test.YtmnkbfflpgmkmaaGreatDoorNd1
import Derived.Test.YtmnkbfflpgmkmaaGreatDoorNd2
import Derived.Test.YtmnkbfflpgmkmaaGreatDoorNd3
import Derived.Test.YtmnkbfflpgmkmaaGreatDoorNd4
namespace Go.Proofs.YtmnkbfflpgmkmaaGreatDoor
open Go Go.W Go.Proofs
theorem nn_yes (a b : Int) : ∃ T, ∃ _ : TabsOk Tryz.prog T, ∃ v u, nnYesF T v u a b := by
  have h1 := wi_of a (n := 3) (by omega) (by omega)
  have h2 := wi_of b (n := 14) (by omega) (by omega)
  have c1 : wi a 3 = 0 ∨ wi a 3 = 1 ∨ wi a 3 = 2 := by omega
  have c2 : wi b 14 = 0 ∨ wi b 14 = 1 ∨ wi b 14 = 2 ∨ wi b 14 = 3 ∨ wi b 14 = 4 ∨ wi b 14 = 5 ∨ wi b 14 = 6 ∨ wi b 14 = 7 ∨ wi b 14 = 8 ∨ wi b 14 = 9 ∨ wi b 14 = 10 ∨ wi b 14 = 11 ∨ wi b 14 = 12 ∨ wi b 14 = 13 := by omega
  rcases c1 with c1 | c1 | c1 <;> rcases c2 with c2 | c2 | c2 | c2 | c2 | c2 | c2 | c2 | c2 | c2 | c2 | c2 | c2 | c2
  · exact ⟨_, nnT0_0_ok, _, _, nny0_0 c1 c2⟩
  · exact ⟨_, nnT0_1_ok, _, _, nny0_1 c1 c2⟩
  · exact ⟨_, nnT0_2_ok, _, _, nny0_2 c1 c2⟩
  · exact ⟨_, nnT0_3_ok, _, _, nny0_3 c1 c2⟩
  · exact ⟨_, nnT0_4_ok, _, _, nny0_4 c1 c2⟩
  · exact ⟨_, nnT0_5_ok, _, _, nny0_5 c1 c2⟩
  · exact ⟨_, nnT0_6_ok, _, _, nny0_6 c1 c2⟩
  · exact ⟨_, nnT0_7_ok, _, _, nny0_7 c1 c2⟩
  · exact ⟨_, nnT0_8_ok, _, _, nny0_8 c1 c2⟩
  · exact ⟨_, nnT0_9_ok, _, _, nny0_9 c1 c2⟩
  · exact ⟨_, nnT0_10_ok, _, _, nny0_10 c1 c2⟩
  · exact ⟨_, nnT0_11_ok, _, _, nny0_11 c1 c2⟩
  · exact ⟨_, nnT0_12_ok, _, _, nny0_12 c1 c2⟩
  · exact ⟨_, nnT0_13_ok, _, _, nny0_13 c1 c2⟩
  · exact ⟨_, nnT1_0_ok, _, _, nny1_0 c1 c2⟩
  · exact ⟨_, nnT1_1_ok, _, _, nny1_1 c1 c2⟩
  · exact ⟨_, nnT1_2_ok, _, _, nny1_2 c1 c2⟩
  · exact ⟨_, nnT1_3_ok, _, _, nny1_3 c1 c2⟩
  · exact ⟨_, nnT1_4_ok, _, _, nny1_4 c1 c2⟩
  · exact ⟨_, nnT1_5_ok, _, _, nny1_5 c1 c2⟩
  · exact ⟨_, nnT1_6_ok, _, _, nny1_6 c1 c2⟩
  · exact ⟨_, nnT1_7_ok, _, _, nny1_7 c1 c2⟩
  · exact ⟨_, nnT1_8_ok, _, _, nny1_8 c1 c2⟩
  · exact ⟨_, nnT1_9_ok, _, _, nny1_9 c1 c2⟩
  · exact ⟨_, nnT1_10_ok, _, _, nny1_10 c1 c2⟩
  · exact ⟨_, nnT1_11_ok, _, _, nny1_11 c1 c2⟩
  · exact ⟨_, nnT1_12_ok, _, _, nny1_12 c1 c2⟩
  · exact ⟨_, nnT1_13_ok, _, _, nny1_13 c1 c2⟩
  · exact ⟨_, nnT2_0_ok, _, _, nny2_0 c1 c2⟩
  · exact ⟨_, nnT2_1_ok, _, _, nny2_1 c1 c2⟩
  · exact ⟨_, nnT2_2_ok, _, _, nny2_2 c1 c2⟩
  · exact ⟨_, nnT2_3_ok, _, _, nny2_3 c1 c2⟩
  · exact ⟨_, nnT2_4_ok, _, _, nny2_4 c1 c2⟩
  · exact ⟨_, nnT2_5_ok, _, _, nny2_5 c1 c2⟩
  · exact ⟨_, nnT2_6_ok, _, _, nny2_6 c1 c2⟩
  · exact ⟨_, nnT2_7_ok, _, _, nny2_7 c1 c2⟩
  · exact ⟨_, nnT2_8_ok, _, _, nny2_8 c1 c2⟩
  · exact ⟨_, nnT2_9_ok, _, _, nny2_9 c1 c2⟩
  · exact ⟨_, nnT2_10_ok, _, _, nny2_10 c1 c2⟩
  · exact ⟨_, nnT2_11_ok, _, _, nny2_11 c1 c2⟩
  · exact ⟨_, nnT2_12_ok, _, _, nny2_12 c1 c2⟩
  · exact ⟨_, nnT2_13_ok, _, _, nny2_13 c1 c2⟩
end Go.Proofs.YtmnkbfflpgmkmaaGreatDoor
