/- ShellGrants: its function answers yes. No conditions. -/
import Derived.Test.YtgogidieibkimaaGreatDoorHc
import Derived.Test.YtgogidieibkimaaGreatDoorHd2
import Derived.Test.YtgogidieibkimaaGreatDoorHd3
import Derived.Test.YtgogidieibkimaaGreatDoorHd4
import Derived.Test.YtgogidieibkimaaGreatDoorHd5
import Derived.Test.YtgogidieibkimaaGreatDoorHd6
import Derived.Test.YtgogidieibkimaaGreatDoorHd7
import Derived.Test.YtgogidieibkimaaGreatDoorHd8
namespace Go.Proofs.YtgogidieibkimaaGreatDoor
open Go Go.W Go.Proofs
set_option maxRecDepth 100000
theorem grv0_0 (a b : Int) : grYes [(4, 0), (8, 0)] (vi a) (vi b) = grVc 4 0 a (grVc 8 0 b (true = true)) := by kernel_rfl
theorem gry0_0 {a b : Int} (h1 : wi a 4 = 0) (h2 : wi b 8 = 0) : grYesF [(4, 0), (8, 0)] (vi a) (vi b) := grYesF.of (grv0_0 a b) (grVc_ok (by omega) h1 (grVc_ok (by omega) h2 rfl))
theorem grv1_0 (a b : Int) : grYes [(4, 1), (8, 0)] (vi a) (vi b) = grVc 4 1 a (grVc 8 0 b (true = true)) := by kernel_rfl
theorem gry1_0 {a b : Int} (h1 : wi a 4 = 1) (h2 : wi b 8 = 0) : grYesF [(4, 1), (8, 0)] (vi a) (vi b) := grYesF.of (grv1_0 a b) (grVc_ok (by omega) h1 (grVc_ok (by omega) h2 rfl))
theorem grv2_0 (a b : Int) : grYes [(4, 2), (8, 0)] (vi a) (vi b) = grVc 4 2 a (grVc 8 0 b (true = true)) := by kernel_rfl
theorem gry2_0 {a b : Int} (h1 : wi a 4 = 2) (h2 : wi b 8 = 0) : grYesF [(4, 2), (8, 0)] (vi a) (vi b) := grYesF.of (grv2_0 a b) (grVc_ok (by omega) h1 (grVc_ok (by omega) h2 rfl))
theorem grv3_0 (a b : Int) : grYes [(4, 3), (8, 0)] (vi a) (vi b) = grVc 4 3 a (grVc 8 0 b (true = true)) := by kernel_rfl
theorem gry3_0 {a b : Int} (h1 : wi a 4 = 3) (h2 : wi b 8 = 0) : grYesF [(4, 3), (8, 0)] (vi a) (vi b) := grYesF.of (grv3_0 a b) (grVc_ok (by omega) h1 (grVc_ok (by omega) h2 rfl))
theorem gr_yes (a b : Int) : ∃ l, grYesF l (vi a) (vi b) := by
  have h1 := wi_of a (n := 4) (by omega) (by omega)
  have h2 := wi_of b (n := 8) (by omega) (by omega)
  have c1 : wi a 4 = 0 ∨ wi a 4 = 1 ∨ wi a 4 = 2 ∨ wi a 4 = 3 := by omega
  have c2 : wi b 8 = 0 ∨ wi b 8 = 1 ∨ wi b 8 = 2 ∨ wi b 8 = 3 ∨ wi b 8 = 4 ∨ wi b 8 = 5 ∨ wi b 8 = 6 ∨ wi b 8 = 7 := by omega
  rcases c1 with c1 | c1 | c1 | c1 <;> rcases c2 with c2 | c2 | c2 | c2 | c2 | c2 | c2 | c2
  · exact ⟨_, gry0_0 c1 c2⟩
  · exact ⟨_, gry0_1 c1 c2⟩
  · exact ⟨_, gry0_2 c1 c2⟩
  · exact ⟨_, gry0_3 c1 c2⟩
  · exact ⟨_, gry0_4 c1 c2⟩
  · exact ⟨_, gry0_5 c1 c2⟩
  · exact ⟨_, gry0_6 c1 c2⟩
  · exact ⟨_, gry0_7 c1 c2⟩
  · exact ⟨_, gry1_0 c1 c2⟩
  · exact ⟨_, gry1_1 c1 c2⟩
  · exact ⟨_, gry1_2 c1 c2⟩
  · exact ⟨_, gry1_3 c1 c2⟩
  · exact ⟨_, gry1_4 c1 c2⟩
  · exact ⟨_, gry1_5 c1 c2⟩
  · exact ⟨_, gry1_6 c1 c2⟩
  · exact ⟨_, gry1_7 c1 c2⟩
  · exact ⟨_, gry2_0 c1 c2⟩
  · exact ⟨_, gry2_1 c1 c2⟩
  · exact ⟨_, gry2_2 c1 c2⟩
  · exact ⟨_, gry2_3 c1 c2⟩
  · exact ⟨_, gry2_4 c1 c2⟩
  · exact ⟨_, gry2_5 c1 c2⟩
  · exact ⟨_, gry2_6 c1 c2⟩
  · exact ⟨_, gry2_7 c1 c2⟩
  · exact ⟨_, gry3_0 c1 c2⟩
  · exact ⟨_, gry3_1 c1 c2⟩
  · exact ⟨_, gry3_2 c1 c2⟩
  · exact ⟨_, gry3_3 c1 c2⟩
  · exact ⟨_, gry3_4 c1 c2⟩
  · exact ⟨_, gry3_5 c1 c2⟩
  · exact ⟨_, gry3_6 c1 c2⟩
  · exact ⟨_, gry3_7 c1 c2⟩
end Go.Proofs.YtgogidieibkimaaGreatDoor
