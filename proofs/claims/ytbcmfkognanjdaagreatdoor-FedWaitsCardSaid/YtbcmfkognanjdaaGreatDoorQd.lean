/- FedWaits: its function answers yes. No conditions. -/
import Derived.Test.YtbcmfkognanjdaaGreatDoorQd1
import Derived.Test.YtbcmfkognanjdaaGreatDoorQd2
namespace Go.Proofs.YtbcmfkognanjdaaGreatDoor
open Go Go.W Go.Proofs
set_option maxRecDepth 100000
theorem fq_yes (a b : Int) : ∃ l, fqYesF l (vi a) (vi b) := by
  have h1 := wi_of a (n := 20) (by omega) (by omega)
  have h2 := wi_of b (n := 2) (by omega) (by omega)
  have c1 : wi a 20 = 0 ∨ wi a 20 = 1 ∨ wi a 20 = 2 ∨ wi a 20 = 3 ∨ wi a 20 = 4 ∨ wi a 20 = 5 ∨ wi a 20 = 6 ∨ wi a 20 = 7 ∨ wi a 20 = 8 ∨ wi a 20 = 9 ∨ wi a 20 = 10 ∨ wi a 20 = 11 ∨ wi a 20 = 12 ∨ wi a 20 = 13 ∨ wi a 20 = 14 ∨ wi a 20 = 15 ∨ wi a 20 = 16 ∨ wi a 20 = 17 ∨ wi a 20 = 18 ∨ wi a 20 = 19 := by omega
  have c2 : wi b 2 = 0 ∨ wi b 2 = 1 := by omega
  rcases c1 with c1 | c1 | c1 | c1 | c1 | c1 | c1 | c1 | c1 | c1 | c1 | c1 | c1 | c1 | c1 | c1 | c1 | c1 | c1 | c1 <;> rcases c2 with c2 | c2
  · exact ⟨_, fqy0_0 c1 c2⟩
  · exact ⟨_, fqy0_1 c1 c2⟩
  · exact ⟨_, fqy1_0 c1 c2⟩
  · exact ⟨_, fqy1_1 c1 c2⟩
  · exact ⟨_, fqy2_0 c1 c2⟩
  · exact ⟨_, fqy2_1 c1 c2⟩
  · exact ⟨_, fqy3_0 c1 c2⟩
  · exact ⟨_, fqy3_1 c1 c2⟩
  · exact ⟨_, fqy4_0 c1 c2⟩
  · exact ⟨_, fqy4_1 c1 c2⟩
  · exact ⟨_, fqy5_0 c1 c2⟩
  · exact ⟨_, fqy5_1 c1 c2⟩
  · exact ⟨_, fqy6_0 c1 c2⟩
  · exact ⟨_, fqy6_1 c1 c2⟩
  · exact ⟨_, fqy7_0 c1 c2⟩
  · exact ⟨_, fqy7_1 c1 c2⟩
  · exact ⟨_, fqy8_0 c1 c2⟩
  · exact ⟨_, fqy8_1 c1 c2⟩
  · exact ⟨_, fqy9_0 c1 c2⟩
  · exact ⟨_, fqy9_1 c1 c2⟩
  · exact ⟨_, fqy10_0 c1 c2⟩
  · exact ⟨_, fqy10_1 c1 c2⟩
  · exact ⟨_, fqy11_0 c1 c2⟩
  · exact ⟨_, fqy11_1 c1 c2⟩
  · exact ⟨_, fqy12_0 c1 c2⟩
  · exact ⟨_, fqy12_1 c1 c2⟩
  · exact ⟨_, fqy13_0 c1 c2⟩
  · exact ⟨_, fqy13_1 c1 c2⟩
  · exact ⟨_, fqy14_0 c1 c2⟩
  · exact ⟨_, fqy14_1 c1 c2⟩
  · exact ⟨_, fqy15_0 c1 c2⟩
  · exact ⟨_, fqy15_1 c1 c2⟩
  · exact ⟨_, fqy16_0 c1 c2⟩
  · exact ⟨_, fqy16_1 c1 c2⟩
  · exact ⟨_, fqy17_0 c1 c2⟩
  · exact ⟨_, fqy17_1 c1 c2⟩
  · exact ⟨_, fqy18_0 c1 c2⟩
  · exact ⟨_, fqy18_1 c1 c2⟩
  · exact ⟨_, fqy19_0 c1 c2⟩
  · exact ⟨_, fqy19_1 c1 c2⟩
end Go.Proofs.YtbcmfkognanjdaaGreatDoor
