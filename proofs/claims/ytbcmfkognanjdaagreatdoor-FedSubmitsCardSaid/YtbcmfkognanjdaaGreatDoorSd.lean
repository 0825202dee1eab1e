/- FedSubmits: its function answers yes. No conditions. -/
import Derived.Test.YtbcmfkognanjdaaGreatDoorSd1
import Derived.Test.YtbcmfkognanjdaaGreatDoorSd2
import Derived.Test.YtbcmfkognanjdaaGreatDoorSd3
import Derived.Test.YtbcmfkognanjdaaGreatDoorSd4
import Derived.Test.YtbcmfkognanjdaaGreatDoorSd5
import Derived.Test.YtbcmfkognanjdaaGreatDoorSd6
import Derived.Test.YtbcmfkognanjdaaGreatDoorSd7
import Derived.Test.YtbcmfkognanjdaaGreatDoorSd8
namespace Go.Proofs.YtbcmfkognanjdaaGreatDoor
open Go Go.W Go.Proofs
set_option maxRecDepth 100000
theorem fs_yes (a : Int) (b : Bool) : ∃ l, fsYesF l (vi a) (.d (.bool b)) := by
  have h1 := wi_of a (n := 20) (by omega) (by omega)
  have c1 : wi a 20 = 0 ∨ wi a 20 = 1 ∨ wi a 20 = 2 ∨ wi a 20 = 3 ∨ wi a 20 = 4 ∨ wi a 20 = 5 ∨ wi a 20 = 6 ∨ wi a 20 = 7 ∨ wi a 20 = 8 ∨ wi a 20 = 9 ∨ wi a 20 = 10 ∨ wi a 20 = 11 ∨ wi a 20 = 12 ∨ wi a 20 = 13 ∨ wi a 20 = 14 ∨ wi a 20 = 15 ∨ wi a 20 = 16 ∨ wi a 20 = 17 ∨ wi a 20 = 18 ∨ wi a 20 = 19 := by omega
  cases b with
  | true =>
    rcases c1 with c1 | c1 | c1 | c1 | c1 | c1 | c1 | c1 | c1 | c1 | c1 | c1 | c1 | c1 | c1 | c1 | c1 | c1 | c1 | c1
    · exact ⟨_, fsy0_true c1⟩
    · exact ⟨_, fsy1_true c1⟩
    · exact ⟨_, fsy2_true c1⟩
    · exact ⟨_, fsy3_true c1⟩
    · exact ⟨_, fsy4_true c1⟩
    · exact ⟨_, fsy5_true c1⟩
    · exact ⟨_, fsy6_true c1⟩
    · exact ⟨_, fsy7_true c1⟩
    · exact ⟨_, fsy8_true c1⟩
    · exact ⟨_, fsy9_true c1⟩
    · exact ⟨_, fsy10_true c1⟩
    · exact ⟨_, fsy11_true c1⟩
    · exact ⟨_, fsy12_true c1⟩
    · exact ⟨_, fsy13_true c1⟩
    · exact ⟨_, fsy14_true c1⟩
    · exact ⟨_, fsy15_true c1⟩
    · exact ⟨_, fsy16_true c1⟩
    · exact ⟨_, fsy17_true c1⟩
    · exact ⟨_, fsy18_true c1⟩
    · exact ⟨_, fsy19_true c1⟩
  | false =>
    rcases c1 with c1 | c1 | c1 | c1 | c1 | c1 | c1 | c1 | c1 | c1 | c1 | c1 | c1 | c1 | c1 | c1 | c1 | c1 | c1 | c1
    · exact ⟨_, fsy0_false c1⟩
    · exact ⟨_, fsy1_false c1⟩
    · exact ⟨_, fsy2_false c1⟩
    · exact ⟨_, fsy3_false c1⟩
    · exact ⟨_, fsy4_false c1⟩
    · exact ⟨_, fsy5_false c1⟩
    · exact ⟨_, fsy6_false c1⟩
    · exact ⟨_, fsy7_false c1⟩
    · exact ⟨_, fsy8_false c1⟩
    · exact ⟨_, fsy9_false c1⟩
    · exact ⟨_, fsy10_false c1⟩
    · exact ⟨_, fsy11_false c1⟩
    · exact ⟨_, fsy12_false c1⟩
    · exact ⟨_, fsy13_false c1⟩
    · exact ⟨_, fsy14_false c1⟩
    · exact ⟨_, fsy15_false c1⟩
    · exact ⟨_, fsy16_false c1⟩
    · exact ⟨_, fsy17_false c1⟩
    · exact ⟨_, fsy18_false c1⟩
    · exact ⟨_, fsy19_false c1⟩
end Go.Proofs.YtbcmfkognanjdaaGreatDoor
