/- FedRacks: classes, part 4: what is left to be shown. No conditions. -/
import Derived.Test.YtbcmfkognanjdaaGreatDoorRc
namespace Go.Proofs.YtbcmfkognanjdaaGreatDoor
open Go Go.W Go.Proofs
set_option maxRecDepth 100000
theorem frv0_3 (a b : Int) : frYes [(20, 0), (4, 3)] (vi a) (vi b) = frVc 20 0 a (frVc 4 3 b (true = true)) := by kernel_rfl
theorem fry0_3 {a b : Int} (h1 : wi a 20 = 0) (h2 : wi b 4 = 3) : frYesF [(20, 0), (4, 3)] (vi a) (vi b) := frYesF.of (frv0_3 a b) (frVc_ok (by omega) h1 (frVc_ok (by omega) h2 rfl))
theorem frv1_3 (a b : Int) : frYes [(20, 1), (4, 3)] (vi a) (vi b) = frVc 20 1 a (frVc 4 3 b (true = true)) := by kernel_rfl
theorem fry1_3 {a b : Int} (h1 : wi a 20 = 1) (h2 : wi b 4 = 3) : frYesF [(20, 1), (4, 3)] (vi a) (vi b) := frYesF.of (frv1_3 a b) (frVc_ok (by omega) h1 (frVc_ok (by omega) h2 rfl))
theorem frv2_3 (a b : Int) : frYes [(20, 2), (4, 3)] (vi a) (vi b) = frVc 20 2 a (frVc 4 3 b (true = true)) := by kernel_rfl
theorem fry2_3 {a b : Int} (h1 : wi a 20 = 2) (h2 : wi b 4 = 3) : frYesF [(20, 2), (4, 3)] (vi a) (vi b) := frYesF.of (frv2_3 a b) (frVc_ok (by omega) h1 (frVc_ok (by omega) h2 rfl))
theorem frv3_3 (a b : Int) : frYes [(20, 3), (4, 3)] (vi a) (vi b) = frVc 20 3 a (frVc 4 3 b (true = true)) := by kernel_rfl
theorem fry3_3 {a b : Int} (h1 : wi a 20 = 3) (h2 : wi b 4 = 3) : frYesF [(20, 3), (4, 3)] (vi a) (vi b) := frYesF.of (frv3_3 a b) (frVc_ok (by omega) h1 (frVc_ok (by omega) h2 rfl))
theorem frv4_3 (a b : Int) : frYes [(20, 4), (4, 3)] (vi a) (vi b) = frVc 20 4 a (frVc 4 3 b (true = true)) := by kernel_rfl
theorem fry4_3 {a b : Int} (h1 : wi a 20 = 4) (h2 : wi b 4 = 3) : frYesF [(20, 4), (4, 3)] (vi a) (vi b) := frYesF.of (frv4_3 a b) (frVc_ok (by omega) h1 (frVc_ok (by omega) h2 rfl))
theorem frv5_3 (a b : Int) : frYes [(20, 5), (4, 3)] (vi a) (vi b) = frVc 20 5 a (frVc 4 3 b (true = true)) := by kernel_rfl
theorem fry5_3 {a b : Int} (h1 : wi a 20 = 5) (h2 : wi b 4 = 3) : frYesF [(20, 5), (4, 3)] (vi a) (vi b) := frYesF.of (frv5_3 a b) (frVc_ok (by omega) h1 (frVc_ok (by omega) h2 rfl))
theorem frv6_3 (a b : Int) : frYes [(20, 6), (4, 3)] (vi a) (vi b) = frVc 20 6 a (frVc 4 3 b (true = true)) := by kernel_rfl
theorem fry6_3 {a b : Int} (h1 : wi a 20 = 6) (h2 : wi b 4 = 3) : frYesF [(20, 6), (4, 3)] (vi a) (vi b) := frYesF.of (frv6_3 a b) (frVc_ok (by omega) h1 (frVc_ok (by omega) h2 rfl))
theorem frv7_3 (a b : Int) : frYes [(20, 7), (4, 3)] (vi a) (vi b) = frVc 20 7 a (frVc 4 3 b (true = true)) := by kernel_rfl
theorem fry7_3 {a b : Int} (h1 : wi a 20 = 7) (h2 : wi b 4 = 3) : frYesF [(20, 7), (4, 3)] (vi a) (vi b) := frYesF.of (frv7_3 a b) (frVc_ok (by omega) h1 (frVc_ok (by omega) h2 rfl))
theorem frv8_3 (a b : Int) : frYes [(20, 8), (4, 3)] (vi a) (vi b) = frVc 20 8 a (frVc 4 3 b (true = true)) := by kernel_rfl
theorem fry8_3 {a b : Int} (h1 : wi a 20 = 8) (h2 : wi b 4 = 3) : frYesF [(20, 8), (4, 3)] (vi a) (vi b) := frYesF.of (frv8_3 a b) (frVc_ok (by omega) h1 (frVc_ok (by omega) h2 rfl))
theorem frv9_3 (a b : Int) : frYes [(20, 9), (4, 3)] (vi a) (vi b) = frVc 20 9 a (frVc 4 3 b (true = true)) := by kernel_rfl
theorem fry9_3 {a b : Int} (h1 : wi a 20 = 9) (h2 : wi b 4 = 3) : frYesF [(20, 9), (4, 3)] (vi a) (vi b) := frYesF.of (frv9_3 a b) (frVc_ok (by omega) h1 (frVc_ok (by omega) h2 rfl))
theorem frv10_3 (a b : Int) : frYes [(20, 10), (4, 3)] (vi a) (vi b) = frVc 20 10 a (frVc 4 3 b (true = true)) := by kernel_rfl
theorem fry10_3 {a b : Int} (h1 : wi a 20 = 10) (h2 : wi b 4 = 3) : frYesF [(20, 10), (4, 3)] (vi a) (vi b) := frYesF.of (frv10_3 a b) (frVc_ok (by omega) h1 (frVc_ok (by omega) h2 rfl))
theorem frv11_3 (a b : Int) : frYes [(20, 11), (4, 3)] (vi a) (vi b) = frVc 20 11 a (frVc 4 3 b (true = true)) := by kernel_rfl
theorem fry11_3 {a b : Int} (h1 : wi a 20 = 11) (h2 : wi b 4 = 3) : frYesF [(20, 11), (4, 3)] (vi a) (vi b) := frYesF.of (frv11_3 a b) (frVc_ok (by omega) h1 (frVc_ok (by omega) h2 rfl))
theorem frv12_3 (a b : Int) : frYes [(20, 12), (4, 3)] (vi a) (vi b) = frVc 20 12 a (frVc 4 3 b (true = true)) := by kernel_rfl
theorem fry12_3 {a b : Int} (h1 : wi a 20 = 12) (h2 : wi b 4 = 3) : frYesF [(20, 12), (4, 3)] (vi a) (vi b) := frYesF.of (frv12_3 a b) (frVc_ok (by omega) h1 (frVc_ok (by omega) h2 rfl))
theorem frv13_3 (a b : Int) : frYes [(20, 13), (4, 3)] (vi a) (vi b) = frVc 20 13 a (frVc 4 3 b (true = true)) := by kernel_rfl
theorem fry13_3 {a b : Int} (h1 : wi a 20 = 13) (h2 : wi b 4 = 3) : frYesF [(20, 13), (4, 3)] (vi a) (vi b) := frYesF.of (frv13_3 a b) (frVc_ok (by omega) h1 (frVc_ok (by omega) h2 rfl))
theorem frv14_3 (a b : Int) : frYes [(20, 14), (4, 3)] (vi a) (vi b) = frVc 20 14 a (frVc 4 3 b (true = true)) := by kernel_rfl
theorem fry14_3 {a b : Int} (h1 : wi a 20 = 14) (h2 : wi b 4 = 3) : frYesF [(20, 14), (4, 3)] (vi a) (vi b) := frYesF.of (frv14_3 a b) (frVc_ok (by omega) h1 (frVc_ok (by omega) h2 rfl))
theorem frv15_3 (a b : Int) : frYes [(20, 15), (4, 3)] (vi a) (vi b) = frVc 20 15 a (frVc 4 3 b (true = true)) := by kernel_rfl
theorem fry15_3 {a b : Int} (h1 : wi a 20 = 15) (h2 : wi b 4 = 3) : frYesF [(20, 15), (4, 3)] (vi a) (vi b) := frYesF.of (frv15_3 a b) (frVc_ok (by omega) h1 (frVc_ok (by omega) h2 rfl))
theorem frv16_3 (a b : Int) : frYes [(20, 16), (4, 3)] (vi a) (vi b) = frVc 20 16 a (frVc 4 3 b (true = true)) := by kernel_rfl
theorem fry16_3 {a b : Int} (h1 : wi a 20 = 16) (h2 : wi b 4 = 3) : frYesF [(20, 16), (4, 3)] (vi a) (vi b) := frYesF.of (frv16_3 a b) (frVc_ok (by omega) h1 (frVc_ok (by omega) h2 rfl))
theorem frv17_3 (a b : Int) : frYes [(20, 17), (4, 3)] (vi a) (vi b) = frVc 20 17 a (frVc 4 3 b (true = true)) := by kernel_rfl
theorem fry17_3 {a b : Int} (h1 : wi a 20 = 17) (h2 : wi b 4 = 3) : frYesF [(20, 17), (4, 3)] (vi a) (vi b) := frYesF.of (frv17_3 a b) (frVc_ok (by omega) h1 (frVc_ok (by omega) h2 rfl))
theorem frv18_3 (a b : Int) : frYes [(20, 18), (4, 3)] (vi a) (vi b) = frVc 20 18 a (frVc 4 3 b (true = true)) := by kernel_rfl
theorem fry18_3 {a b : Int} (h1 : wi a 20 = 18) (h2 : wi b 4 = 3) : frYesF [(20, 18), (4, 3)] (vi a) (vi b) := frYesF.of (frv18_3 a b) (frVc_ok (by omega) h1 (frVc_ok (by omega) h2 rfl))
theorem frv19_3 (a b : Int) : frYes [(20, 19), (4, 3)] (vi a) (vi b) = frVc 20 19 a (frVc 4 3 b (true = true)) := by kernel_rfl
theorem fry19_3 {a b : Int} (h1 : wi a 20 = 19) (h2 : wi b 4 = 3) : frYesF [(20, 19), (4, 3)] (vi a) (vi b) := frYesF.of (frv19_3 a b) (frVc_ok (by omega) h1 (frVc_ok (by omega) h2 rfl))
end Go.Proofs.YtbcmfkognanjdaaGreatDoor
