/- FedWaits: classes, part 1: what is left to be shown. No conditions. -/
import Derived.Test.YtbcmfkognanjdaaGreatDoorQc
namespace Go.Proofs.YtbcmfkognanjdaaGreatDoor
open Go Go.W Go.Proofs
set_option maxRecDepth 100000
theorem fqv0_0 (a b : Int) : fqYes [(20, 0), (2, 0)] (vi a) (vi b) = fqVc 20 0 a (fqVc 2 0 b (true = true)) := by kernel_rfl
theorem fqy0_0 {a b : Int} (h1 : wi a 20 = 0) (h2 : wi b 2 = 0) : fqYesF [(20, 0), (2, 0)] (vi a) (vi b) := fqYesF.mk (Eq.mpr (fqv0_0 a b) (fqVc_ok (by omega) h1 (fqVc_ok (by omega) h2 rfl)))
theorem fqv1_0 (a b : Int) : fqYes [(20, 1), (2, 0)] (vi a) (vi b) = fqVc 20 1 a (fqVc 2 0 b (true = true)) := by kernel_rfl
theorem fqy1_0 {a b : Int} (h1 : wi a 20 = 1) (h2 : wi b 2 = 0) : fqYesF [(20, 1), (2, 0)] (vi a) (vi b) := fqYesF.mk (Eq.mpr (fqv1_0 a b) (fqVc_ok (by omega) h1 (fqVc_ok (by omega) h2 rfl)))
theorem fqv2_0 (a b : Int) : fqYes [(20, 2), (2, 0)] (vi a) (vi b) = fqVc 20 2 a (fqVc 2 0 b (true = true)) := by kernel_rfl
theorem fqy2_0 {a b : Int} (h1 : wi a 20 = 2) (h2 : wi b 2 = 0) : fqYesF [(20, 2), (2, 0)] (vi a) (vi b) := fqYesF.mk (Eq.mpr (fqv2_0 a b) (fqVc_ok (by omega) h1 (fqVc_ok (by omega) h2 rfl)))
theorem fqv3_0 (a b : Int) : fqYes [(20, 3), (2, 0)] (vi a) (vi b) = fqVc 20 3 a (fqVc 2 0 b (true = true)) := by kernel_rfl
theorem fqy3_0 {a b : Int} (h1 : wi a 20 = 3) (h2 : wi b 2 = 0) : fqYesF [(20, 3), (2, 0)] (vi a) (vi b) := fqYesF.mk (Eq.mpr (fqv3_0 a b) (fqVc_ok (by omega) h1 (fqVc_ok (by omega) h2 rfl)))
theorem fqv4_0 (a b : Int) : fqYes [(20, 4), (2, 0)] (vi a) (vi b) = fqVc 20 4 a (fqVc 2 0 b (true = true)) := by kernel_rfl
theorem fqy4_0 {a b : Int} (h1 : wi a 20 = 4) (h2 : wi b 2 = 0) : fqYesF [(20, 4), (2, 0)] (vi a) (vi b) := fqYesF.mk (Eq.mpr (fqv4_0 a b) (fqVc_ok (by omega) h1 (fqVc_ok (by omega) h2 rfl)))
theorem fqv5_0 (a b : Int) : fqYes [(20, 5), (2, 0)] (vi a) (vi b) = fqVc 20 5 a (fqVc 2 0 b (true = true)) := by kernel_rfl
theorem fqy5_0 {a b : Int} (h1 : wi a 20 = 5) (h2 : wi b 2 = 0) : fqYesF [(20, 5), (2, 0)] (vi a) (vi b) := fqYesF.mk (Eq.mpr (fqv5_0 a b) (fqVc_ok (by omega) h1 (fqVc_ok (by omega) h2 rfl)))
theorem fqv6_0 (a b : Int) : fqYes [(20, 6), (2, 0)] (vi a) (vi b) = fqVc 20 6 a (fqVc 2 0 b (true = true)) := by kernel_rfl
theorem fqy6_0 {a b : Int} (h1 : wi a 20 = 6) (h2 : wi b 2 = 0) : fqYesF [(20, 6), (2, 0)] (vi a) (vi b) := fqYesF.mk (Eq.mpr (fqv6_0 a b) (fqVc_ok (by omega) h1 (fqVc_ok (by omega) h2 rfl)))
theorem fqv7_0 (a b : Int) : fqYes [(20, 7), (2, 0)] (vi a) (vi b) = fqVc 20 7 a (fqVc 2 0 b (true = true)) := by kernel_rfl
theorem fqy7_0 {a b : Int} (h1 : wi a 20 = 7) (h2 : wi b 2 = 0) : fqYesF [(20, 7), (2, 0)] (vi a) (vi b) := fqYesF.mk (Eq.mpr (fqv7_0 a b) (fqVc_ok (by omega) h1 (fqVc_ok (by omega) h2 rfl)))
theorem fqv8_0 (a b : Int) : fqYes [(20, 8), (2, 0)] (vi a) (vi b) = fqVc 20 8 a (fqVc 2 0 b (true = true)) := by kernel_rfl
theorem fqy8_0 {a b : Int} (h1 : wi a 20 = 8) (h2 : wi b 2 = 0) : fqYesF [(20, 8), (2, 0)] (vi a) (vi b) := fqYesF.mk (Eq.mpr (fqv8_0 a b) (fqVc_ok (by omega) h1 (fqVc_ok (by omega) h2 rfl)))
theorem fqv9_0 (a b : Int) : fqYes [(20, 9), (2, 0)] (vi a) (vi b) = fqVc 20 9 a (fqVc 2 0 b (true = true)) := by kernel_rfl
theorem fqy9_0 {a b : Int} (h1 : wi a 20 = 9) (h2 : wi b 2 = 0) : fqYesF [(20, 9), (2, 0)] (vi a) (vi b) := fqYesF.mk (Eq.mpr (fqv9_0 a b) (fqVc_ok (by omega) h1 (fqVc_ok (by omega) h2 rfl)))
theorem fqv10_0 (a b : Int) : fqYes [(20, 10), (2, 0)] (vi a) (vi b) = fqVc 20 10 a (fqVc 2 0 b (true = true)) := by kernel_rfl
theorem fqy10_0 {a b : Int} (h1 : wi a 20 = 10) (h2 : wi b 2 = 0) : fqYesF [(20, 10), (2, 0)] (vi a) (vi b) := fqYesF.mk (Eq.mpr (fqv10_0 a b) (fqVc_ok (by omega) h1 (fqVc_ok (by omega) h2 rfl)))
theorem fqv11_0 (a b : Int) : fqYes [(20, 11), (2, 0)] (vi a) (vi b) = fqVc 20 11 a (fqVc 2 0 b (true = true)) := by kernel_rfl
theorem fqy11_0 {a b : Int} (h1 : wi a 20 = 11) (h2 : wi b 2 = 0) : fqYesF [(20, 11), (2, 0)] (vi a) (vi b) := fqYesF.mk (Eq.mpr (fqv11_0 a b) (fqVc_ok (by omega) h1 (fqVc_ok (by omega) h2 rfl)))
theorem fqv12_0 (a b : Int) : fqYes [(20, 12), (2, 0)] (vi a) (vi b) = fqVc 20 12 a (fqVc 2 0 b (true = true)) := by kernel_rfl
theorem fqy12_0 {a b : Int} (h1 : wi a 20 = 12) (h2 : wi b 2 = 0) : fqYesF [(20, 12), (2, 0)] (vi a) (vi b) := fqYesF.mk (Eq.mpr (fqv12_0 a b) (fqVc_ok (by omega) h1 (fqVc_ok (by omega) h2 rfl)))
theorem fqv13_0 (a b : Int) : fqYes [(20, 13), (2, 0)] (vi a) (vi b) = fqVc 20 13 a (fqVc 2 0 b (true = true)) := by kernel_rfl
theorem fqy13_0 {a b : Int} (h1 : wi a 20 = 13) (h2 : wi b 2 = 0) : fqYesF [(20, 13), (2, 0)] (vi a) (vi b) := fqYesF.mk (Eq.mpr (fqv13_0 a b) (fqVc_ok (by omega) h1 (fqVc_ok (by omega) h2 rfl)))
theorem fqv14_0 (a b : Int) : fqYes [(20, 14), (2, 0)] (vi a) (vi b) = fqVc 20 14 a (fqVc 2 0 b (true = true)) := by kernel_rfl
theorem fqy14_0 {a b : Int} (h1 : wi a 20 = 14) (h2 : wi b 2 = 0) : fqYesF [(20, 14), (2, 0)] (vi a) (vi b) := fqYesF.mk (Eq.mpr (fqv14_0 a b) (fqVc_ok (by omega) h1 (fqVc_ok (by omega) h2 rfl)))
theorem fqv15_0 (a b : Int) : fqYes [(20, 15), (2, 0)] (vi a) (vi b) = fqVc 20 15 a (fqVc 2 0 b (true = true)) := by kernel_rfl
theorem fqy15_0 {a b : Int} (h1 : wi a 20 = 15) (h2 : wi b 2 = 0) : fqYesF [(20, 15), (2, 0)] (vi a) (vi b) := fqYesF.mk (Eq.mpr (fqv15_0 a b) (fqVc_ok (by omega) h1 (fqVc_ok (by omega) h2 rfl)))
theorem fqv16_0 (a b : Int) : fqYes [(20, 16), (2, 0)] (vi a) (vi b) = fqVc 20 16 a (fqVc 2 0 b (true = true)) := by kernel_rfl
theorem fqy16_0 {a b : Int} (h1 : wi a 20 = 16) (h2 : wi b 2 = 0) : fqYesF [(20, 16), (2, 0)] (vi a) (vi b) := fqYesF.mk (Eq.mpr (fqv16_0 a b) (fqVc_ok (by omega) h1 (fqVc_ok (by omega) h2 rfl)))
theorem fqv17_0 (a b : Int) : fqYes [(20, 17), (2, 0)] (vi a) (vi b) = fqVc 20 17 a (fqVc 2 0 b (true = true)) := by kernel_rfl
theorem fqy17_0 {a b : Int} (h1 : wi a 20 = 17) (h2 : wi b 2 = 0) : fqYesF [(20, 17), (2, 0)] (vi a) (vi b) := fqYesF.mk (Eq.mpr (fqv17_0 a b) (fqVc_ok (by omega) h1 (fqVc_ok (by omega) h2 rfl)))
theorem fqv18_0 (a b : Int) : fqYes [(20, 18), (2, 0)] (vi a) (vi b) = fqVc 20 18 a (fqVc 2 0 b (true = true)) := by kernel_rfl
theorem fqy18_0 {a b : Int} (h1 : wi a 20 = 18) (h2 : wi b 2 = 0) : fqYesF [(20, 18), (2, 0)] (vi a) (vi b) := fqYesF.mk (Eq.mpr (fqv18_0 a b) (fqVc_ok (by omega) h1 (fqVc_ok (by omega) h2 rfl)))
theorem fqv19_0 (a b : Int) : fqYes [(20, 19), (2, 0)] (vi a) (vi b) = fqVc 20 19 a (fqVc 2 0 b (true = true)) := by kernel_rfl
theorem fqy19_0 {a b : Int} (h1 : wi a 20 = 19) (h2 : wi b 2 = 0) : fqYesF [(20, 19), (2, 0)] (vi a) (vi b) := fqYesF.mk (Eq.mpr (fqv19_0 a b) (fqVc_ok (by omega) h1 (fqVc_ok (by omega) h2 rfl)))
end Go.Proofs.YtbcmfkognanjdaaGreatDoor
