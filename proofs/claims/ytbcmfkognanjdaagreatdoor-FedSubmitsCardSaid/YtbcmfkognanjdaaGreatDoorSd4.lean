/- FedSubmits: classes, part 4: what is left to be shown. No conditions. -/
import Derived.Test.YtbcmfkognanjdaaGreatDoorSc
namespace Go.Proofs.YtbcmfkognanjdaaGreatDoor
open Go Go.W Go.Proofs
set_option maxRecDepth 100000
theorem fsv16_false (a : Int) : fsYes [(20, 16)] (vi a) (.d (.bool false)) = fsVc 20 16 a (true = true) := by kernel_rfl
theorem fsy16_false {a : Int} (h1 : wi a 20 = 16) : fsYesF [(20, 16)] (vi a) (.d (.bool false)) := fsYesF.of (fsv16_false a) (fsVc_ok (by omega) h1 rfl)
theorem fsv15_true (a : Int) : fsYes [(20, 15)] (vi a) (.d (.bool true)) = fsVc 20 15 a (true = true) := by kernel_rfl
theorem fsy15_true {a : Int} (h1 : wi a 20 = 15) : fsYesF [(20, 15)] (vi a) (.d (.bool true)) := fsYesF.of (fsv15_true a) (fsVc_ok (by omega) h1 rfl)
theorem fsv8_false (a : Int) : fsYes [(20, 8)] (vi a) (.d (.bool false)) = fsVc 20 8 a (true = true) := by kernel_rfl
theorem fsy8_false {a : Int} (h1 : wi a 20 = 8) : fsYesF [(20, 8)] (vi a) (.d (.bool false)) := fsYesF.of (fsv8_false a) (fsVc_ok (by omega) h1 rfl)
theorem fsv6_true (a : Int) : fsYes [(20, 6)] (vi a) (.d (.bool true)) = fsVc 20 6 a (true = true) := by kernel_rfl
theorem fsy6_true {a : Int} (h1 : wi a 20 = 6) : fsYesF [(20, 6)] (vi a) (.d (.bool true)) := fsYesF.of (fsv6_true a) (fsVc_ok (by omega) h1 rfl)
theorem fsv3_true (a : Int) : fsYes [(20, 3)] (vi a) (.d (.bool true)) = fsVc 20 3 a (true = true) := by kernel_rfl
theorem fsy3_true {a : Int} (h1 : wi a 20 = 3) : fsYesF [(20, 3)] (vi a) (.d (.bool true)) := fsYesF.of (fsv3_true a) (fsVc_ok (by omega) h1 rfl)
theorem fsv0_true (a : Int) : fsYes [(20, 0)] (vi a) (.d (.bool true)) = fsVc 20 0 a (true = true) := by kernel_rfl
theorem fsy0_true {a : Int} (h1 : wi a 20 = 0) : fsYesF [(20, 0)] (vi a) (.d (.bool true)) := fsYesF.of (fsv0_true a) (fsVc_ok (by omega) h1 rfl)
end Go.Proofs.YtbcmfkognanjdaaGreatDoor
