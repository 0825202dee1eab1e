/- ShellGrants: classes, part 6: what is left to be shown. No conditions. -/
import Derived.Test.YtgogidieibkimaaGreatDoorHc
namespace Go.Proofs.YtgogidieibkimaaGreatDoor
open Go Go.W Go.Proofs
set_option maxRecDepth 100000
theorem grv0_5 (a b : Int) : grYes [(4, 0), (8, 5)] (vi a) (vi b) = grVc 4 0 a (grVc 8 5 b (true = true)) := by kernel_rfl
theorem gry0_5 {a b : Int} (h1 : wi a 4 = 0) (h2 : wi b 8 = 5) : grYesF [(4, 0), (8, 5)] (vi a) (vi b) := grYesF.of (grv0_5 a b) (grVc_ok (by omega) h1 (grVc_ok (by omega) h2 rfl))
theorem grv1_5 (a b : Int) : grYes [(4, 1), (8, 5)] (vi a) (vi b) = grVc 4 1 a (grVc 8 5 b (true = true)) := by kernel_rfl
theorem gry1_5 {a b : Int} (h1 : wi a 4 = 1) (h2 : wi b 8 = 5) : grYesF [(4, 1), (8, 5)] (vi a) (vi b) := grYesF.of (grv1_5 a b) (grVc_ok (by omega) h1 (grVc_ok (by omega) h2 rfl))
theorem grv2_5 (a b : Int) : grYes [(4, 2), (8, 5)] (vi a) (vi b) = grVc 4 2 a (grVc 8 5 b (true = true)) := by kernel_rfl
theorem gry2_5 {a b : Int} (h1 : wi a 4 = 2) (h2 : wi b 8 = 5) : grYesF [(4, 2), (8, 5)] (vi a) (vi b) := grYesF.of (grv2_5 a b) (grVc_ok (by omega) h1 (grVc_ok (by omega) h2 rfl))
theorem grv3_5 (a b : Int) : grYes [(4, 3), (8, 5)] (vi a) (vi b) = grVc 4 3 a (grVc 8 5 b (true = true)) := by kernel_rfl
theorem gry3_5 {a b : Int} (h1 : wi a 4 = 3) (h2 : wi b 8 = 5) : grYesF [(4, 3), (8, 5)] (vi a) (vi b) := grYesF.of (grv3_5 a b) (grVc_ok (by omega) h1 (grVc_ok (by omega) h2 rfl))
end Go.Proofs.YtgogidieibkimaaGreatDoor
