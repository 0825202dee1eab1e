/- FedSubmits: classes, part 5: what is left to be shown. No conditions. -/
import Derived.Test.YtbcmfkognanjdaaGreatDoorSc
namespace Go.Proofs.YtbcmfkognanjdaaGreatDoor
open Go Go.W Go.Proofs
set_option maxRecDepth 100000
theorem fsv15_false (a : Int) : fsYes [(20, 15)] (vi a) (.d (.bool false)) = fsVc 20 15 a (true = true) := by kernel_rfl
theorem fsy15_false {a : Int} (h1 : wi a 20 = 15) : fsYesF [(20, 15)] (vi a) (.d (.bool false)) := fsYesF.of (fsv15_false a) (fsVc_ok (by omega) h1 rfl)
theorem fsv16_true (a : Int) : fsYes [(20, 16)] (vi a) (.d (.bool true)) = fsVc 20 16 a (true = true) := by kernel_rfl
theorem fsy16_true {a : Int} (h1 : wi a 20 = 16) : fsYesF [(20, 16)] (vi a) (.d (.bool true)) := fsYesF.of (fsv16_true a) (fsVc_ok (by omega) h1 rfl)
theorem fsv11_true (a : Int) : fsYes [(20, 11)] (vi a) (.d (.bool true)) = fsVc 20 11 a (true = true) := by kernel_rfl
theorem fsy11_true {a : Int} (h1 : wi a 20 = 11) : fsYesF [(20, 11)] (vi a) (.d (.bool true)) := fsYesF.of (fsv11_true a) (fsVc_ok (by omega) h1 rfl)
theorem fsv6_false (a : Int) : fsYes [(20, 6)] (vi a) (.d (.bool false)) = fsVc 20 6 a (true = true) := by kernel_rfl
theorem fsy6_false {a : Int} (h1 : wi a 20 = 6) : fsYesF [(20, 6)] (vi a) (.d (.bool false)) := fsYesF.of (fsv6_false a) (fsVc_ok (by omega) h1 rfl)
theorem fsv2_false (a : Int) : fsYes [(20, 2)] (vi a) (.d (.bool false)) = fsVc 20 2 a (true = true) := by kernel_rfl
theorem fsy2_false {a : Int} (h1 : wi a 20 = 2) : fsYesF [(20, 2)] (vi a) (.d (.bool false)) := fsYesF.of (fsv2_false a) (fsVc_ok (by omega) h1 rfl)
end Go.Proofs.YtbcmfkognanjdaaGreatDoor
