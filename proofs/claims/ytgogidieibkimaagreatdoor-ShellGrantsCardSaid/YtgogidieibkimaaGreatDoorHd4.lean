/- ShellGrants: classes, part 4: what is left to be shown. No conditions. -/
import Derived.Test.YtgogidieibkimaaGreatDoorHc
namespace Go.Proofs.YtgogidieibkimaaGreatDoor
open Go Go.W Go.Proofs
set_option maxRecDepth 100000
theorem grv0_3 (a b : Int) : grYes [(4, 0), (8, 3)] (vi a) (vi b) = grVc 4 0 a (grVc 8 3 b (true = true)) := by kernel_rfl
theorem gry0_3 {a b : Int} (h1 : wi a 4 = 0) (h2 : wi b 8 = 3) : grYesF [(4, 0), (8, 3)] (vi a) (vi b) := grYesF.of (grv0_3 a b) (grVc_ok (by omega) h1 (grVc_ok (by omega) h2 rfl))
theorem grv1_3 (a b : Int) : grYes [(4, 1), (8, 3)] (vi a) (vi b) = grVc 4 1 a (grVc 8 3 b (true = true)) := by kernel_rfl
theorem gry1_3 {a b : Int} (h1 : wi a 4 = 1) (h2 : wi b 8 = 3) : grYesF [(4, 1), (8, 3)] (vi a) (vi b) := grYesF.of (grv1_3 a b) (grVc_ok (by omega) h1 (grVc_ok (by omega) h2 rfl))
theorem grv2_3 (a b : Int) : grYes [(4, 2), (8, 3)] (vi a) (vi b) = grVc 4 2 a (grVc 8 3 b (true = true)) := by kernel_rfl
theorem gry2_3 {a b : Int} (h1 : wi a 4 = 2) (h2 : wi b 8 = 3) : grYesF [(4, 2), (8, 3)] (vi a) (vi b) := grYesF.of (grv2_3 a b) (grVc_ok (by omega) h1 (grVc_ok (by omega) h2 rfl))
theorem grv3_3 (a b : Int) : grYes [(4, 3), (8, 3)] (vi a) (vi b) = grVc 4 3 a (grVc 8 3 b (true = true)) := by kernel_rfl
theorem gry3_3 {a b : Int} (h1 : wi a 4 = 3) (h2 : wi b 8 = 3) : grYesF [(4, 3), (8, 3)] (vi a) (vi b) := grYesF.of (grv3_3 a b) (grVc_ok (by omega) h1 (grVc_ok (by omega) h2 rfl))
end Go.Proofs.YtgogidieibkimaaGreatDoor
