/- ManagerBeats: its function answers yes. No conditions. -/
import Derived.Test.YtmnkbfflpgmkmaaGreatDoorMd1
import Derived.Test.YtmnkbfflpgmkmaaGreatDoorMd2
import Derived.Test.YtmnkbfflpgmkmaaGreatDoorMd3
import Derived.Test.YtmnkbfflpgmkmaaGreatDoorMd4
namespace Go.Proofs.YtmnkbfflpgmkmaaGreatDoor
open Go Go.W Go.Proofs
theorem beats_yes (n beat which : Int) : ∃ T, ∃ _ : TabsOk Tryz.prog T, ∃ v u, YesBF T v u n beat which := by
  have h1 := wi_of n (n := 10) (by omega) (by omega)
  have h2 := wi_of which (n := 2) (by omega) (by omega)
  have c1 : wi n 10 = 0 ∨ wi n 10 = 1 ∨ wi n 10 = 2 ∨ wi n 10 = 3 ∨ wi n 10 = 4 ∨ wi n 10 = 5 ∨ wi n 10 = 6 ∨ wi n 10 = 7 ∨ wi n 10 = 8 ∨ wi n 10 = 9 := by omega
  have c2 : wi which 2 = 0 ∨ wi which 2 = 1 := by omega
  rcases c1 with c1 | c1 | c1 | c1 | c1 | c1 | c1 | c1 | c1 | c1 <;> rcases c2 with c2 | c2
  · exact ⟨_, tB0_0_ok, _, _, yB0_0 c1 c2⟩
  · exact ⟨_, tB0_1_ok, _, _, yB0_1 c1 c2⟩
  · exact ⟨_, tB1_0_ok, _, _, yB1_0 c1 c2⟩
  · exact ⟨_, tB1_1_ok, _, _, yB1_1 c1 c2⟩
  · exact ⟨_, tB2_0_ok, _, _, yB2_0 c1 c2⟩
  · exact ⟨_, tB2_1_ok, _, _, yB2_1 c1 c2⟩
  · exact ⟨_, tB3_0_ok, _, _, yB3_0 c1 c2⟩
  · exact ⟨_, tB3_1_ok, _, _, yB3_1 c1 c2⟩
  · exact ⟨_, tB4_0_ok, _, _, yB4_0 c1 c2⟩
  · exact ⟨_, tB4_1_ok, _, _, yB4_1 c1 c2⟩
  · exact ⟨_, tB5_0_ok, _, _, yB5_0 c1 c2⟩
  · exact ⟨_, tB5_1_ok, _, _, yB5_1 c1 c2⟩
  · exact ⟨_, tB6_0_ok, _, _, yB6_0 c1 c2⟩
  · exact ⟨_, tB6_1_ok, _, _, yB6_1 c1 c2⟩
  · exact ⟨_, tB7_0_ok, _, _, yB7_0 c1 c2⟩
  · exact ⟨_, tB7_1_ok, _, _, yB7_1 c1 c2⟩
  · exact ⟨_, tB8_0_ok, _, _, yB8_0 c1 c2⟩
  · exact ⟨_, tB8_1_ok, _, _, yB8_1 c1 c2⟩
  · exact ⟨_, tB9_0_ok, _, _, yB9_0 c1 c2⟩
  · exact ⟨_, tB9_1_ok, _, _, yB9_1 c1 c2⟩
end Go.Proofs.YtmnkbfflpgmkmaaGreatDoor
