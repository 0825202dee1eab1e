/- FedSubmits: classes, part 6: what is left to be shown. No conditions. -/
import Derived.Test.YtbcmfkognanjdaaGreatDoorSc
namespace Go.Proofs.YtbcmfkognanjdaaGreatDoor
open Go Go.W Go.Proofs
set_option maxRecDepth 100000
theorem fsv19_true (a : Int) : fsYes [(20, 19)] (vi a) (.d (.bool true)) = fsVc 20 19 a (true = true) := by kernel_rfl
theorem fsy19_true {a : Int} (h1 : wi a 20 = 19) : fsYesF [(20, 19)] (vi a) (.d (.bool true)) := fsYesF.of (fsv19_true a) (fsVc_ok (by omega) h1 rfl)
theorem fsv12_false (a : Int) : fsYes [(20, 12)] (vi a) (.d (.bool false)) = fsVc 20 12 a (true = true) := by kernel_rfl
theorem fsy12_false {a : Int} (h1 : wi a 20 = 12) : fsYesF [(20, 12)] (vi a) (.d (.bool false)) := fsYesF.of (fsv12_false a) (fsVc_ok (by omega) h1 rfl)
theorem fsv13_true (a : Int) : fsYes [(20, 13)] (vi a) (.d (.bool true)) = fsVc 20 13 a (true = true) := by kernel_rfl
theorem fsy13_true {a : Int} (h1 : wi a 20 = 13) : fsYesF [(20, 13)] (vi a) (.d (.bool true)) := fsYesF.of (fsv13_true a) (fsVc_ok (by omega) h1 rfl)
theorem fsv7_true (a : Int) : fsYes [(20, 7)] (vi a) (.d (.bool true)) = fsVc 20 7 a (true = true) := by kernel_rfl
theorem fsy7_true {a : Int} (h1 : wi a 20 = 7) : fsYesF [(20, 7)] (vi a) (.d (.bool true)) := fsYesF.of (fsv7_true a) (fsVc_ok (by omega) h1 rfl)
theorem fsv4_true (a : Int) : fsYes [(20, 4)] (vi a) (.d (.bool true)) = fsVc 20 4 a (true = true) := by kernel_rfl
theorem fsy4_true {a : Int} (h1 : wi a 20 = 4) : fsYesF [(20, 4)] (vi a) (.d (.bool true)) := fsYesF.of (fsv4_true a) (fsVc_ok (by omega) h1 rfl)
end Go.Proofs.YtbcmfkognanjdaaGreatDoor
