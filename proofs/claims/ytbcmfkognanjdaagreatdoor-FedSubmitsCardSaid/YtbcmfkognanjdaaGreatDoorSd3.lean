/- FedSubmits: classes, part 3: what is left to be shown. No conditions. -/
import Derived.Test.YtbcmfkognanjdaaGreatDoorSc
namespace Go.Proofs.YtbcmfkognanjdaaGreatDoor
open Go Go.W Go.Proofs
set_option maxRecDepth 100000
theorem fsv17_false (a : Int) : fsYes [(20, 17)] (vi a) (.d (.bool false)) = fsVc 20 17 a (true = true) := by kernel_rfl
theorem fsy17_false {a : Int} (h1 : wi a 20 = 17) : fsYesF [(20, 17)] (vi a) (.d (.bool false)) := fsYesF.of (fsv17_false a) (fsVc_ok (by omega) h1 rfl)
theorem fsv11_false (a : Int) : fsYes [(20, 11)] (vi a) (.d (.bool false)) = fsVc 20 11 a (true = true) := by kernel_rfl
theorem fsy11_false {a : Int} (h1 : wi a 20 = 11) : fsYesF [(20, 11)] (vi a) (.d (.bool false)) := fsYesF.of (fsv11_false a) (fsVc_ok (by omega) h1 rfl)
theorem fsv10_true (a : Int) : fsYes [(20, 10)] (vi a) (.d (.bool true)) = fsVc 20 10 a (true = true) := by kernel_rfl
theorem fsy10_true {a : Int} (h1 : wi a 20 = 10) : fsYesF [(20, 10)] (vi a) (.d (.bool true)) := fsYesF.of (fsv10_true a) (fsVc_ok (by omega) h1 rfl)
theorem fsv4_false (a : Int) : fsYes [(20, 4)] (vi a) (.d (.bool false)) = fsVc 20 4 a (true = true) := by kernel_rfl
theorem fsy4_false {a : Int} (h1 : wi a 20 = 4) : fsYesF [(20, 4)] (vi a) (.d (.bool false)) := fsYesF.of (fsv4_false a) (fsVc_ok (by omega) h1 rfl)
theorem fsv1_true (a : Int) : fsYes [(20, 1)] (vi a) (.d (.bool true)) = fsVc 20 1 a (true = true) := by kernel_rfl
theorem fsy1_true {a : Int} (h1 : wi a 20 = 1) : fsYesF [(20, 1)] (vi a) (.d (.bool true)) := fsYesF.of (fsv1_true a) (fsVc_ok (by omega) h1 rfl)
end Go.Proofs.YtbcmfkognanjdaaGreatDoor
