/- FedRacks: its function answers yes. No conditions. -/
import Derived.Test.YtbcmfkognanjdaaGreatDoorRd1
import Derived.Test.YtbcmfkognanjdaaGreatDoorRd2
import Derived.Test.YtbcmfkognanjdaaGreatDoorRd3
import Derived.Test.YtbcmfkognanjdaaGreatDoorRd4
namespace Go.Proofs.YtbcmfkognanjdaaGreatDoor
open Go Go.W Go.Proofs
set_option maxRecDepth 100000
theorem fr_yes (a b : Int) : ∃ l, frYesF l (vi a) (vi b) := by
  have h1 := wi_of a (n := 20) (by omega) (by omega)
  have h2 := wi_of b (n := 4) (by omega) (by omega)
  have c1 : wi a 20 = 0 ∨ wi a 20 = 1 ∨ wi a 20 = 2 ∨ wi a 20 = 3 ∨ wi a 20 = 4 ∨ wi a 20 = 5 ∨ wi a 20 = 6 ∨ wi a 20 = 7 ∨ wi a 20 = 8 ∨ wi a 20 = 9 ∨ wi a 20 = 10 ∨ wi a 20 = 11 ∨ wi a 20 = 12 ∨ wi a 20 = 13 ∨ wi a 20 = 14 ∨ wi a 20 = 15 ∨ wi a 20 = 16 ∨ wi a 20 = 17 ∨ wi a 20 = 18 ∨ wi a 20 = 19 := by omega
  have c2 : wi b 4 = 0 ∨ wi b 4 = 1 ∨ wi b 4 = 2 ∨ wi b 4 = 3 := by omega
  rcases c1 with c1 | c1 | c1 | c1 | c1 | c1 | c1 | c1 | c1 | c1 | c1 | c1 | c1 | c1 | c1 | c1 | c1 | c1 | c1 | c1 <;> rcases c2 with c2 | c2 | c2 | c2
  · exact ⟨_, fry0_0 c1 c2⟩
  · exact ⟨_, fry0_1 c1 c2⟩
  · exact ⟨_, fry0_2 c1 c2⟩
  · exact ⟨_, fry0_3 c1 c2⟩
  · exact ⟨_, fry1_0 c1 c2⟩
  · exact ⟨_, fry1_1 c1 c2⟩
  · exact ⟨_, fry1_2 c1 c2⟩
  · exact ⟨_, fry1_3 c1 c2⟩
  · exact ⟨_, fry2_0 c1 c2⟩
  · exact ⟨_, fry2_1 c1 c2⟩
  · exact ⟨_, fry2_2 c1 c2⟩
  · exact ⟨_, fry2_3 c1 c2⟩
  · exact ⟨_, fry3_0 c1 c2⟩
  · exact ⟨_, fry3_1 c1 c2⟩
  · exact ⟨_, fry3_2 c1 c2⟩
  · exact ⟨_, fry3_3 c1 c2⟩
  · exact ⟨_, fry4_0 c1 c2⟩
  · exact ⟨_, fry4_1 c1 c2⟩
  · exact ⟨_, fry4_2 c1 c2⟩
  · exact ⟨_, fry4_3 c1 c2⟩
  · exact ⟨_, fry5_0 c1 c2⟩
  · exact ⟨_, fry5_1 c1 c2⟩
  · exact ⟨_, fry5_2 c1 c2⟩
  · exact ⟨_, fry5_3 c1 c2⟩
  · exact ⟨_, fry6_0 c1 c2⟩
  · exact ⟨_, fry6_1 c1 c2⟩
  · exact ⟨_, fry6_2 c1 c2⟩
  · exact ⟨_, fry6_3 c1 c2⟩
  · exact ⟨_, fry7_0 c1 c2⟩
  · exact ⟨_, fry7_1 c1 c2⟩
  · exact ⟨_, fry7_2 c1 c2⟩
  · exact ⟨_, fry7_3 c1 c2⟩
  · exact ⟨_, fry8_0 c1 c2⟩
  · exact ⟨_, fry8_1 c1 c2⟩
  · exact ⟨_, fry8_2 c1 c2⟩
  · exact ⟨_, fry8_3 c1 c2⟩
  · exact ⟨_, fry9_0 c1 c2⟩
  · exact ⟨_, fry9_1 c1 c2⟩
  · exact ⟨_, fry9_2 c1 c2⟩
  · exact ⟨_, fry9_3 c1 c2⟩
  · exact ⟨_, fry10_0 c1 c2⟩
  · exact ⟨_, fry10_1 c1 c2⟩
  · exact ⟨_, fry10_2 c1 c2⟩
  · exact ⟨_, fry10_3 c1 c2⟩
  · exact ⟨_, fry11_0 c1 c2⟩
  · exact ⟨_, fry11_1 c1 c2⟩
  · exact ⟨_, fry11_2 c1 c2⟩
  · exact ⟨_, fry11_3 c1 c2⟩
  · exact ⟨_, fry12_0 c1 c2⟩
  · exact ⟨_, fry12_1 c1 c2⟩
  · exact ⟨_, fry12_2 c1 c2⟩
  · exact ⟨_, fry12_3 c1 c2⟩
  · exact ⟨_, fry13_0 c1 c2⟩
  · exact ⟨_, fry13_1 c1 c2⟩
  · exact ⟨_, fry13_2 c1 c2⟩
  · exact ⟨_, fry13_3 c1 c2⟩
  · exact ⟨_, fry14_0 c1 c2⟩
  · exact ⟨_, fry14_1 c1 c2⟩
  · exact ⟨_, fry14_2 c1 c2⟩
  · exact ⟨_, fry14_3 c1 c2⟩
  · exact ⟨_, fry15_0 c1 c2⟩
  · exact ⟨_, fry15_1 c1 c2⟩
  · exact ⟨_, fry15_2 c1 c2⟩
  · exact ⟨_, fry15_3 c1 c2⟩
  · exact ⟨_, fry16_0 c1 c2⟩
  · exact ⟨_, fry16_1 c1 c2⟩
  · exact ⟨_, fry16_2 c1 c2⟩
  · exact ⟨_, fry16_3 c1 c2⟩
  · exact ⟨_, fry17_0 c1 c2⟩
  · exact ⟨_, fry17_1 c1 c2⟩
  · exact ⟨_, fry17_2 c1 c2⟩
  · exact ⟨_, fry17_3 c1 c2⟩
  · exact ⟨_, fry18_0 c1 c2⟩
  · exact ⟨_, fry18_1 c1 c2⟩
  · exact ⟨_, fry18_2 c1 c2⟩
  · exact ⟨_, fry18_3 c1 c2⟩
  · exact ⟨_, fry19_0 c1 c2⟩
  · exact ⟨_, fry19_1 c1 c2⟩
  · exact ⟨_, fry19_2 c1 c2⟩
  · exact ⟨_, fry19_3 c1 c2⟩
end Go.Proofs.YtbcmfkognanjdaaGreatDoor
