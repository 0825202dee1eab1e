/- FedSubmits: classes, part 7: what is left to be shown. No conditions. -/
import Derived.Test.YtbcmfkognanjdaaGreatDoorSc
namespace Go.Proofs.YtbcmfkognanjdaaGreatDoor
open Go Go.W Go.Proofs
set_option maxRecDepth 100000
theorem fsv14_false (a : Int) : fsYes [(20, 14)] (vi a) (.d (.bool false)) = fsVc 20 14 a (true = true) := by kernel_rfl
theorem fsy14_false {a : Int} (h1 : wi a 20 = 14) : fsYesF [(20, 14)] (vi a) (.d (.bool false)) := fsYesF.of (fsv14_false a) (fsVc_ok (by omega) h1 rfl)
theorem fsv17_true (a : Int) : fsYes [(20, 17)] (vi a) (.d (.bool true)) = fsVc 20 17 a (true = true) := by kernel_rfl
theorem fsy17_true {a : Int} (h1 : wi a 20 = 17) : fsYesF [(20, 17)] (vi a) (.d (.bool true)) := fsYesF.of (fsv17_true a) (fsVc_ok (by omega) h1 rfl)
theorem fsv12_true (a : Int) : fsYes [(20, 12)] (vi a) (.d (.bool true)) = fsVc 20 12 a (true = true) := by kernel_rfl
theorem fsy12_true {a : Int} (h1 : wi a 20 = 12) : fsYesF [(20, 12)] (vi a) (.d (.bool true)) := fsYesF.of (fsv12_true a) (fsVc_ok (by omega) h1 rfl)
theorem fsv8_true (a : Int) : fsYes [(20, 8)] (vi a) (.d (.bool true)) = fsVc 20 8 a (true = true) := by kernel_rfl
theorem fsy8_true {a : Int} (h1 : wi a 20 = 8) : fsYesF [(20, 8)] (vi a) (.d (.bool true)) := fsYesF.of (fsv8_true a) (fsVc_ok (by omega) h1 rfl)
theorem fsv2_true (a : Int) : fsYes [(20, 2)] (vi a) (.d (.bool true)) = fsVc 20 2 a (true = true) := by kernel_rfl
theorem fsy2_true {a : Int} (h1 : wi a 20 = 2) : fsYesF [(20, 2)] (vi a) (.d (.bool true)) := fsYesF.of (fsv2_true a) (fsVc_ok (by omega) h1 rfl)
end Go.Proofs.YtbcmfkognanjdaaGreatDoor
