/- FedSubmits: classes, part 2: what is left to be shown. No conditions. -/
import Derived.Test.YtbcmfkognanjdaaGreatDoorSc
namespace Go.Proofs.YtbcmfkognanjdaaGreatDoor
open Go Go.W Go.Proofs
set_option maxRecDepth 100000
theorem fsv18_false (a : Int) : fsYes [(20, 18)] (vi a) (.d (.bool false)) = fsVc 20 18 a (true = true) := by kernel_rfl
theorem fsy18_false {a : Int} (h1 : wi a 20 = 18) : fsYesF [(20, 18)] (vi a) (.d (.bool false)) := fsYesF.of (fsv18_false a) (fsVc_ok (by omega) h1 rfl)
theorem fsv14_true (a : Int) : fsYes [(20, 14)] (vi a) (.d (.bool true)) = fsVc 20 14 a (true = true) := by kernel_rfl
theorem fsy14_true {a : Int} (h1 : wi a 20 = 14) : fsYesF [(20, 14)] (vi a) (.d (.bool true)) := fsYesF.of (fsv14_true a) (fsVc_ok (by omega) h1 rfl)
theorem fsv7_false (a : Int) : fsYes [(20, 7)] (vi a) (.d (.bool false)) = fsVc 20 7 a (true = true) := by kernel_rfl
theorem fsy7_false {a : Int} (h1 : wi a 20 = 7) : fsYesF [(20, 7)] (vi a) (.d (.bool false)) := fsYesF.of (fsv7_false a) (fsVc_ok (by omega) h1 rfl)
theorem fsv5_true (a : Int) : fsYes [(20, 5)] (vi a) (.d (.bool true)) = fsVc 20 5 a (true = true) := by kernel_rfl
theorem fsy5_true {a : Int} (h1 : wi a 20 = 5) : fsYesF [(20, 5)] (vi a) (.d (.bool true)) := fsYesF.of (fsv5_true a) (fsVc_ok (by omega) h1 rfl)
theorem fsv0_false (a : Int) : fsYes [(20, 0)] (vi a) (.d (.bool false)) = fsVc 20 0 a (true = true) := by kernel_rfl
theorem fsy0_false {a : Int} (h1 : wi a 20 = 0) : fsYesF [(20, 0)] (vi a) (.d (.bool false)) := fsYesF.of (fsv0_false a) (fsVc_ok (by omega) h1 rfl)
end Go.Proofs.YtbcmfkognanjdaaGreatDoor
