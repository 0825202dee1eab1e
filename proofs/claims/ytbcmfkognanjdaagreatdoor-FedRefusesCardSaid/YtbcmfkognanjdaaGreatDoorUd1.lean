/- FedRefuses: classes, part 1: what is left to be shown. No conditions. -/
import Derived.Test.YtbcmfkognanjdaaGreatDoorUc
namespace Go.Proofs.YtbcmfkognanjdaaGreatDoor
open Go Go.W Go.Proofs
set_option maxRecDepth 100000
theorem fuv0_0 (a b : Int) : fuYes [(9, 0)] (vi a) (vi b) = fuVc 9 0 a (true = true) := by kernel_rfl
theorem fuy0_0 {a b : Int} (h1 : wi a 9 = 0) : fuYesF [(9, 0)] (vi a) (vi b) := fuYesF.of (fuv0_0 a b) (fuVc_ok (by omega) h1 rfl)
theorem fuv1_2 (a b : Int) : fuYes [(9, 1), (100, 2)] (vi a) (vi b) = fuVc 9 1 a (fuVc 100 2 b (true = true)) := by kernel_rfl
theorem fuy1_2 {a b : Int} (h1 : wi a 9 = 1) (h2 : wi b 100 = 2) : fuYesF [(9, 1), (100, 2)] (vi a) (vi b) := fuYesF.of (fuv1_2 a b) (fuVc_ok (by omega) h1 (fuVc_ok (by omega) h2 rfl))
theorem fuv1_8 (a b : Int) : fuYes [(9, 1), (100, 8)] (vi a) (vi b) = fuVc 9 1 a (fuVc 100 8 b (true = true)) := by kernel_rfl
theorem fuy1_8 {a b : Int} (h1 : wi a 9 = 1) (h2 : wi b 100 = 8) : fuYesF [(9, 1), (100, 8)] (vi a) (vi b) := fuYesF.of (fuv1_8 a b) (fuVc_ok (by omega) h1 (fuVc_ok (by omega) h2 rfl))
theorem fuv1_14 (a b : Int) : fuYes [(9, 1), (100, 14)] (vi a) (vi b) = fuVc 9 1 a (fuVc 100 14 b (true = true)) := by kernel_rfl
theorem fuy1_14 {a b : Int} (h1 : wi a 9 = 1) (h2 : wi b 100 = 14) : fuYesF [(9, 1), (100, 14)] (vi a) (vi b) := fuYesF.of (fuv1_14 a b) (fuVc_ok (by omega) h1 (fuVc_ok (by omega) h2 rfl))
theorem fuv1_20 (a b : Int) : fuYes [(9, 1), (100, 20)] (vi a) (vi b) = fuVc 9 1 a (fuVc 100 20 b (true = true)) := by kernel_rfl
theorem fuy1_20 {a b : Int} (h1 : wi a 9 = 1) (h2 : wi b 100 = 20) : fuYesF [(9, 1), (100, 20)] (vi a) (vi b) := fuYesF.of (fuv1_20 a b) (fuVc_ok (by omega) h1 (fuVc_ok (by omega) h2 rfl))
theorem fuv1_26 (a b : Int) : fuYes [(9, 1), (100, 26)] (vi a) (vi b) = fuVc 9 1 a (fuVc 100 26 b (true = true)) := by kernel_rfl
theorem fuy1_26 {a b : Int} (h1 : wi a 9 = 1) (h2 : wi b 100 = 26) : fuYesF [(9, 1), (100, 26)] (vi a) (vi b) := fuYesF.of (fuv1_26 a b) (fuVc_ok (by omega) h1 (fuVc_ok (by omega) h2 rfl))
theorem fuv1_32 (a b : Int) : fuYes [(9, 1), (100, 32)] (vi a) (vi b) = fuVc 9 1 a (fuVc 100 32 b (true = true)) := by kernel_rfl
theorem fuy1_32 {a b : Int} (h1 : wi a 9 = 1) (h2 : wi b 100 = 32) : fuYesF [(9, 1), (100, 32)] (vi a) (vi b) := fuYesF.of (fuv1_32 a b) (fuVc_ok (by omega) h1 (fuVc_ok (by omega) h2 rfl))
theorem fuv1_38 (a b : Int) : fuYes [(9, 1), (100, 38)] (vi a) (vi b) = fuVc 9 1 a (fuVc 100 38 b (true = true)) := by kernel_rfl
theorem fuy1_38 {a b : Int} (h1 : wi a 9 = 1) (h2 : wi b 100 = 38) : fuYesF [(9, 1), (100, 38)] (vi a) (vi b) := fuYesF.of (fuv1_38 a b) (fuVc_ok (by omega) h1 (fuVc_ok (by omega) h2 rfl))
theorem fuv1_44 (a b : Int) : fuYes [(9, 1), (100, 44)] (vi a) (vi b) = fuVc 9 1 a (fuVc 100 44 b (true = true)) := by kernel_rfl
theorem fuy1_44 {a b : Int} (h1 : wi a 9 = 1) (h2 : wi b 100 = 44) : fuYesF [(9, 1), (100, 44)] (vi a) (vi b) := fuYesF.of (fuv1_44 a b) (fuVc_ok (by omega) h1 (fuVc_ok (by omega) h2 rfl))
theorem fuv1_50 (a b : Int) : fuYes [(9, 1), (100, 50)] (vi a) (vi b) = fuVc 9 1 a (fuVc 100 50 b (true = true)) := by kernel_rfl
theorem fuy1_50 {a b : Int} (h1 : wi a 9 = 1) (h2 : wi b 100 = 50) : fuYesF [(9, 1), (100, 50)] (vi a) (vi b) := fuYesF.of (fuv1_50 a b) (fuVc_ok (by omega) h1 (fuVc_ok (by omega) h2 rfl))
theorem fuv1_56 (a b : Int) : fuYes [(9, 1), (100, 56)] (vi a) (vi b) = fuVc 9 1 a (fuVc 100 56 b (true = true)) := by kernel_rfl
theorem fuy1_56 {a b : Int} (h1 : wi a 9 = 1) (h2 : wi b 100 = 56) : fuYesF [(9, 1), (100, 56)] (vi a) (vi b) := fuYesF.of (fuv1_56 a b) (fuVc_ok (by omega) h1 (fuVc_ok (by omega) h2 rfl))
theorem fuv1_62 (a b : Int) : fuYes [(9, 1), (100, 62)] (vi a) (vi b) = fuVc 9 1 a (fuVc 100 62 b (true = true)) := by kernel_rfl
theorem fuy1_62 {a b : Int} (h1 : wi a 9 = 1) (h2 : wi b 100 = 62) : fuYesF [(9, 1), (100, 62)] (vi a) (vi b) := fuYesF.of (fuv1_62 a b) (fuVc_ok (by omega) h1 (fuVc_ok (by omega) h2 rfl))
theorem fuv1_68 (a b : Int) : fuYes [(9, 1), (100, 68)] (vi a) (vi b) = fuVc 9 1 a (fuVc 100 68 b (true = true)) := by kernel_rfl
theorem fuy1_68 {a b : Int} (h1 : wi a 9 = 1) (h2 : wi b 100 = 68) : fuYesF [(9, 1), (100, 68)] (vi a) (vi b) := fuYesF.of (fuv1_68 a b) (fuVc_ok (by omega) h1 (fuVc_ok (by omega) h2 rfl))
theorem fuv1_74 (a b : Int) : fuYes [(9, 1), (100, 74)] (vi a) (vi b) = fuVc 9 1 a (fuVc 100 74 b (true = true)) := by kernel_rfl
theorem fuy1_74 {a b : Int} (h1 : wi a 9 = 1) (h2 : wi b 100 = 74) : fuYesF [(9, 1), (100, 74)] (vi a) (vi b) := fuYesF.of (fuv1_74 a b) (fuVc_ok (by omega) h1 (fuVc_ok (by omega) h2 rfl))
theorem fuv1_80 (a b : Int) : fuYes [(9, 1), (100, 80)] (vi a) (vi b) = fuVc 9 1 a (fuVc 100 80 b (true = true)) := by kernel_rfl
theorem fuy1_80 {a b : Int} (h1 : wi a 9 = 1) (h2 : wi b 100 = 80) : fuYesF [(9, 1), (100, 80)] (vi a) (vi b) := fuYesF.of (fuv1_80 a b) (fuVc_ok (by omega) h1 (fuVc_ok (by omega) h2 rfl))
theorem fuv1_86 (a b : Int) : fuYes [(9, 1), (100, 86)] (vi a) (vi b) = fuVc 9 1 a (fuVc 100 86 b (true = true)) := by kernel_rfl
theorem fuy1_86 {a b : Int} (h1 : wi a 9 = 1) (h2 : wi b 100 = 86) : fuYesF [(9, 1), (100, 86)] (vi a) (vi b) := fuYesF.of (fuv1_86 a b) (fuVc_ok (by omega) h1 (fuVc_ok (by omega) h2 rfl))
theorem fuv1_92 (a b : Int) : fuYes [(9, 1), (100, 92)] (vi a) (vi b) = fuVc 9 1 a (fuVc 100 92 b (true = true)) := by kernel_rfl
theorem fuy1_92 {a b : Int} (h1 : wi a 9 = 1) (h2 : wi b 100 = 92) : fuYesF [(9, 1), (100, 92)] (vi a) (vi b) := fuYesF.of (fuv1_92 a b) (fuVc_ok (by omega) h1 (fuVc_ok (by omega) h2 rfl))
theorem fuv1_98 (a b : Int) : fuYes [(9, 1), (100, 98)] (vi a) (vi b) = fuVc 9 1 a (fuVc 100 98 b (true = true)) := by kernel_rfl
theorem fuy1_98 {a b : Int} (h1 : wi a 9 = 1) (h2 : wi b 100 = 98) : fuYesF [(9, 1), (100, 98)] (vi a) (vi b) := fuYesF.of (fuv1_98 a b) (fuVc_ok (by omega) h1 (fuVc_ok (by omega) h2 rfl))
theorem fuv2_4 (a b : Int) : fuYes [(9, 2), (100, 4)] (vi a) (vi b) = fuVc 9 2 a (fuVc 100 4 b (true = true)) := by kernel_rfl
theorem fuy2_4 {a b : Int} (h1 : wi a 9 = 2) (h2 : wi b 100 = 4) : fuYesF [(9, 2), (100, 4)] (vi a) (vi b) := fuYesF.of (fuv2_4 a b) (fuVc_ok (by omega) h1 (fuVc_ok (by omega) h2 rfl))
theorem fuv2_10 (a b : Int) : fuYes [(9, 2), (100, 10)] (vi a) (vi b) = fuVc 9 2 a (fuVc 100 10 b (true = true)) := by kernel_rfl
theorem fuy2_10 {a b : Int} (h1 : wi a 9 = 2) (h2 : wi b 100 = 10) : fuYesF [(9, 2), (100, 10)] (vi a) (vi b) := fuYesF.of (fuv2_10 a b) (fuVc_ok (by omega) h1 (fuVc_ok (by omega) h2 rfl))
theorem fuv2_16 (a b : Int) : fuYes [(9, 2), (100, 16)] (vi a) (vi b) = fuVc 9 2 a (fuVc 100 16 b (true = true)) := by kernel_rfl
theorem fuy2_16 {a b : Int} (h1 : wi a 9 = 2) (h2 : wi b 100 = 16) : fuYesF [(9, 2), (100, 16)] (vi a) (vi b) := fuYesF.of (fuv2_16 a b) (fuVc_ok (by omega) h1 (fuVc_ok (by omega) h2 rfl))
theorem fuv2_22 (a b : Int) : fuYes [(9, 2), (100, 22)] (vi a) (vi b) = fuVc 9 2 a (fuVc 100 22 b (true = true)) := by kernel_rfl
theorem fuy2_22 {a b : Int} (h1 : wi a 9 = 2) (h2 : wi b 100 = 22) : fuYesF [(9, 2), (100, 22)] (vi a) (vi b) := fuYesF.of (fuv2_22 a b) (fuVc_ok (by omega) h1 (fuVc_ok (by omega) h2 rfl))
theorem fuv2_28 (a b : Int) : fuYes [(9, 2), (100, 28)] (vi a) (vi b) = fuVc 9 2 a (fuVc 100 28 b (true = true)) := by kernel_rfl
theorem fuy2_28 {a b : Int} (h1 : wi a 9 = 2) (h2 : wi b 100 = 28) : fuYesF [(9, 2), (100, 28)] (vi a) (vi b) := fuYesF.of (fuv2_28 a b) (fuVc_ok (by omega) h1 (fuVc_ok (by omega) h2 rfl))
theorem fuv2_34 (a b : Int) : fuYes [(9, 2), (100, 34)] (vi a) (vi b) = fuVc 9 2 a (fuVc 100 34 b (true = true)) := by kernel_rfl
theorem fuy2_34 {a b : Int} (h1 : wi a 9 = 2) (h2 : wi b 100 = 34) : fuYesF [(9, 2), (100, 34)] (vi a) (vi b) := fuYesF.of (fuv2_34 a b) (fuVc_ok (by omega) h1 (fuVc_ok (by omega) h2 rfl))
theorem fuv2_40 (a b : Int) : fuYes [(9, 2), (100, 40)] (vi a) (vi b) = fuVc 9 2 a (fuVc 100 40 b (true = true)) := by kernel_rfl
theorem fuy2_40 {a b : Int} (h1 : wi a 9 = 2) (h2 : wi b 100 = 40) : fuYesF [(9, 2), (100, 40)] (vi a) (vi b) := fuYesF.of (fuv2_40 a b) (fuVc_ok (by omega) h1 (fuVc_ok (by omega) h2 rfl))
theorem fuv2_46 (a b : Int) : fuYes [(9, 2), (100, 46)] (vi a) (vi b) = fuVc 9 2 a (fuVc 100 46 b (true = true)) := by kernel_rfl
theorem fuy2_46 {a b : Int} (h1 : wi a 9 = 2) (h2 : wi b 100 = 46) : fuYesF [(9, 2), (100, 46)] (vi a) (vi b) := fuYesF.of (fuv2_46 a b) (fuVc_ok (by omega) h1 (fuVc_ok (by omega) h2 rfl))
theorem fuv2_52 (a b : Int) : fuYes [(9, 2), (100, 52)] (vi a) (vi b) = fuVc 9 2 a (fuVc 100 52 b (true = true)) := by kernel_rfl
theorem fuy2_52 {a b : Int} (h1 : wi a 9 = 2) (h2 : wi b 100 = 52) : fuYesF [(9, 2), (100, 52)] (vi a) (vi b) := fuYesF.of (fuv2_52 a b) (fuVc_ok (by omega) h1 (fuVc_ok (by omega) h2 rfl))
theorem fuv2_58 (a b : Int) : fuYes [(9, 2), (100, 58)] (vi a) (vi b) = fuVc 9 2 a (fuVc 100 58 b (true = true)) := by kernel_rfl
theorem fuy2_58 {a b : Int} (h1 : wi a 9 = 2) (h2 : wi b 100 = 58) : fuYesF [(9, 2), (100, 58)] (vi a) (vi b) := fuYesF.of (fuv2_58 a b) (fuVc_ok (by omega) h1 (fuVc_ok (by omega) h2 rfl))
theorem fuv2_64 (a b : Int) : fuYes [(9, 2), (100, 64)] (vi a) (vi b) = fuVc 9 2 a (fuVc 100 64 b (true = true)) := by kernel_rfl
theorem fuy2_64 {a b : Int} (h1 : wi a 9 = 2) (h2 : wi b 100 = 64) : fuYesF [(9, 2), (100, 64)] (vi a) (vi b) := fuYesF.of (fuv2_64 a b) (fuVc_ok (by omega) h1 (fuVc_ok (by omega) h2 rfl))
theorem fuv2_70 (a b : Int) : fuYes [(9, 2), (100, 70)] (vi a) (vi b) = fuVc 9 2 a (fuVc 100 70 b (true = true)) := by kernel_rfl
theorem fuy2_70 {a b : Int} (h1 : wi a 9 = 2) (h2 : wi b 100 = 70) : fuYesF [(9, 2), (100, 70)] (vi a) (vi b) := fuYesF.of (fuv2_70 a b) (fuVc_ok (by omega) h1 (fuVc_ok (by omega) h2 rfl))
theorem fuv2_76 (a b : Int) : fuYes [(9, 2), (100, 76)] (vi a) (vi b) = fuVc 9 2 a (fuVc 100 76 b (true = true)) := by kernel_rfl
theorem fuy2_76 {a b : Int} (h1 : wi a 9 = 2) (h2 : wi b 100 = 76) : fuYesF [(9, 2), (100, 76)] (vi a) (vi b) := fuYesF.of (fuv2_76 a b) (fuVc_ok (by omega) h1 (fuVc_ok (by omega) h2 rfl))
theorem fuv2_82 (a b : Int) : fuYes [(9, 2), (100, 82)] (vi a) (vi b) = fuVc 9 2 a (fuVc 100 82 b (true = true)) := by kernel_rfl
theorem fuy2_82 {a b : Int} (h1 : wi a 9 = 2) (h2 : wi b 100 = 82) : fuYesF [(9, 2), (100, 82)] (vi a) (vi b) := fuYesF.of (fuv2_82 a b) (fuVc_ok (by omega) h1 (fuVc_ok (by omega) h2 rfl))
theorem fuv2_88 (a b : Int) : fuYes [(9, 2), (100, 88)] (vi a) (vi b) = fuVc 9 2 a (fuVc 100 88 b (true = true)) := by kernel_rfl
theorem fuy2_88 {a b : Int} (h1 : wi a 9 = 2) (h2 : wi b 100 = 88) : fuYesF [(9, 2), (100, 88)] (vi a) (vi b) := fuYesF.of (fuv2_88 a b) (fuVc_ok (by omega) h1 (fuVc_ok (by omega) h2 rfl))
theorem fuv2_94 (a b : Int) : fuYes [(9, 2), (100, 94)] (vi a) (vi b) = fuVc 9 2 a (fuVc 100 94 b (true = true)) := by kernel_rfl
theorem fuy2_94 {a b : Int} (h1 : wi a 9 = 2) (h2 : wi b 100 = 94) : fuYesF [(9, 2), (100, 94)] (vi a) (vi b) := fuYesF.of (fuv2_94 a b) (fuVc_ok (by omega) h1 (fuVc_ok (by omega) h2 rfl))
theorem fuv6_0 (a b : Int) : fuYes [(9, 6), (5, 0)] (vi a) (vi b) = fuVc 9 6 a (fuVc 5 0 b (true = true)) := by kernel_rfl
theorem fuy6_0 {a b : Int} (h1 : wi a 9 = 6) (h2 : wi b 5 = 0) : fuYesF [(9, 6), (5, 0)] (vi a) (vi b) := fuYesF.of (fuv6_0 a b) (fuVc_ok (by omega) h1 (fuVc_ok (by omega) h2 rfl))
theorem fuv7_1 (a b : Int) : fuYes [(9, 7), (3, 1)] (vi a) (vi b) = fuVc 9 7 a (fuVc 3 1 b (true = true)) := by kernel_rfl
theorem fuy7_1 {a b : Int} (h1 : wi a 9 = 7) (h2 : wi b 3 = 1) : fuYesF [(9, 7), (3, 1)] (vi a) (vi b) := fuYesF.of (fuv7_1 a b) (fuVc_ok (by omega) h1 (fuVc_ok (by omega) h2 rfl))
end Go.Proofs.YtbcmfkognanjdaaGreatDoor
