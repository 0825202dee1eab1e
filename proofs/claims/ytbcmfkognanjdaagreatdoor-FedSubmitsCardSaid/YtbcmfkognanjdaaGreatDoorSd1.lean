/- FedSubmits: classes, part 1: what is left to be shown. No conditions. -/
import Derived.Test.YtbcmfkognanjdaaGreatDoorSc
namespace Go.Proofs.YtbcmfkognanjdaaGreatDoor
open Go Go.W Go.Proofs
set_option maxRecDepth 100000
theorem fsv19_false (a : Int) : fsYes [(20, 19)] (vi a) (.d (.bool false)) = fsVc 20 19 a (true = true) := by kernel_rfl
theorem fsy19_false {a : Int} (h1 : wi a 20 = 19) : fsYesF [(20, 19)] (vi a) (.d (.bool false)) := fsYesF.of (fsv19_false a) (fsVc_ok (by omega) h1 rfl)
theorem fsv10_false (a : Int) : fsYes [(20, 10)] (vi a) (.d (.bool false)) = fsVc 20 10 a (true = true) := by kernel_rfl
theorem fsy10_false {a : Int} (h1 : wi a 20 = 10) : fsYesF [(20, 10)] (vi a) (.d (.bool false)) := fsYesF.of (fsv10_false a) (fsVc_ok (by omega) h1 rfl)
theorem fsv5_false (a : Int) : fsYes [(20, 5)] (vi a) (.d (.bool false)) = fsVc 20 5 a (true = true) := by kernel_rfl
theorem fsy5_false {a : Int} (h1 : wi a 20 = 5) : fsYesF [(20, 5)] (vi a) (.d (.bool false)) := fsYesF.of (fsv5_false a) (fsVc_ok (by omega) h1 rfl)
theorem fsv3_false (a : Int) : fsYes [(20, 3)] (vi a) (.d (.bool false)) = fsVc 20 3 a (true = true) := by kernel_rfl
theorem fsy3_false {a : Int} (h1 : wi a 20 = 3) : fsYesF [(20, 3)] (vi a) (.d (.bool false)) := fsYesF.of (fsv3_false a) (fsVc_ok (by omega) h1 rfl)
end Go.Proofs.YtbcmfkognanjdaaGreatDoor
