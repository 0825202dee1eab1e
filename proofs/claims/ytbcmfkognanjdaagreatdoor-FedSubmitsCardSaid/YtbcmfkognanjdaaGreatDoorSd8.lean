/- FedSubmits: classes, part 8: what is left to be shown. No conditions. -/
import Derived.Test.YtbcmfkognanjdaaGreatDoorSc
namespace Go.Proofs.YtbcmfkognanjdaaGreatDoor
open Go Go.W Go.Proofs
set_option maxRecDepth 100000
theorem fsv18_true (a : Int) : fsYes [(20, 18)] (vi a) (.d (.bool true)) = fsVc 20 18 a (true = true) := by kernel_rfl
theorem fsy18_true {a : Int} (h1 : wi a 20 = 18) : fsYesF [(20, 18)] (vi a) (.d (.bool true)) := fsYesF.of (fsv18_true a) (fsVc_ok (by omega) h1 rfl)
theorem fsv13_false (a : Int) : fsYes [(20, 13)] (vi a) (.d (.bool false)) = fsVc 20 13 a (true = true) := by kernel_rfl
theorem fsy13_false {a : Int} (h1 : wi a 20 = 13) : fsYesF [(20, 13)] (vi a) (.d (.bool false)) := fsYesF.of (fsv13_false a) (fsVc_ok (by omega) h1 rfl)
theorem fsv9_false (a : Int) : fsYes [(20, 9)] (vi a) (.d (.bool false)) = fsVc 20 9 a (true = true) := by kernel_rfl
theorem fsy9_false {a : Int} (h1 : wi a 20 = 9) : fsYesF [(20, 9)] (vi a) (.d (.bool false)) := fsYesF.of (fsv9_false a) (fsVc_ok (by omega) h1 rfl)
theorem fsv9_true (a : Int) : fsYes [(20, 9)] (vi a) (.d (.bool true)) = fsVc 20 9 a (true = true) := by kernel_rfl
theorem fsy9_true {a : Int} (h1 : wi a 20 = 9) : fsYesF [(20, 9)] (vi a) (.d (.bool true)) := fsYesF.of (fsv9_true a) (fsVc_ok (by omega) h1 rfl)
theorem fsv1_false (a : Int) : fsYes [(20, 1)] (vi a) (.d (.bool false)) = fsVc 20 1 a (true = true) := by kernel_rfl
theorem fsy1_false {a : Int} (h1 : wi a 20 = 1) : fsYesF [(20, 1)] (vi a) (.d (.bool false)) := fsYesF.of (fsv1_false a) (fsVc_ok (by omega) h1 rfl)
end Go.Proofs.YtbcmfkognanjdaaGreatDoor
