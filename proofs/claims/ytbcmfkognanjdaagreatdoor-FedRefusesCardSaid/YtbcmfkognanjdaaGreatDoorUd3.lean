/- FedRefuses: classes, part 3: what is left to be shown. No conditions. -/
import Derived.Test.YtbcmfkognanjdaaGreatDoorUc
namespace Go.Proofs.YtbcmfkognanjdaaGreatDoor
open Go Go.W Go.Proofs
set_option maxRecDepth 100000
theorem fuv4_0 (a b : Int) : fuYes [(9, 4)] (vi a) (vi b) = fuVc 9 4 a (true = true) := by kernel_rfl
theorem fuy4_0 {a b : Int} (h1 : wi a 9 = 4) : fuYesF [(9, 4)] (vi a) (vi b) := fuYesF.of (fuv4_0 a b) (fuVc_ok (by omega) h1 rfl)
theorem fuv1_4 (a b : Int) : fuYes [(9, 1), (100, 4)] (vi a) (vi b) = fuVc 9 1 a (fuVc 100 4 b (true = true)) := by kernel_rfl
theorem fuy1_4 {a b : Int} (h1 : wi a 9 = 1) (h2 : wi b 100 = 4) : fuYesF [(9, 1), (100, 4)] (vi a) (vi b) := fuYesF.of (fuv1_4 a b) (fuVc_ok (by omega) h1 (fuVc_ok (by omega) h2 rfl))
theorem fuv1_10 (a b : Int) : fuYes [(9, 1), (100, 10)] (vi a) (vi b) = fuVc 9 1 a (fuVc 100 10 b (true = true)) := by kernel_rfl
theorem fuy1_10 {a b : Int} (h1 : wi a 9 = 1) (h2 : wi b 100 = 10) : fuYesF [(9, 1), (100, 10)] (vi a) (vi b) := fuYesF.of (fuv1_10 a b) (fuVc_ok (by omega) h1 (fuVc_ok (by omega) h2 rfl))
theorem fuv1_16 (a b : Int) : fuYes [(9, 1), (100, 16)] (vi a) (vi b) = fuVc 9 1 a (fuVc 100 16 b (true = true)) := by kernel_rfl
theorem fuy1_16 {a b : Int} (h1 : wi a 9 = 1) (h2 : wi b 100 = 16) : fuYesF [(9, 1), (100, 16)] (vi a) (vi b) := fuYesF.of (fuv1_16 a b) (fuVc_ok (by omega) h1 (fuVc_ok (by omega) h2 rfl))
theorem fuv1_22 (a b : Int) : fuYes [(9, 1), (100, 22)] (vi a) (vi b) = fuVc 9 1 a (fuVc 100 22 b (true = true)) := by kernel_rfl
theorem fuy1_22 {a b : Int} (h1 : wi a 9 = 1) (h2 : wi b 100 = 22) : fuYesF [(9, 1), (100, 22)] (vi a) (vi b) := fuYesF.of (fuv1_22 a b) (fuVc_ok (by omega) h1 (fuVc_ok (by omega) h2 rfl))
theorem fuv1_28 (a b : Int) : fuYes [(9, 1), (100, 28)] (vi a) (vi b) = fuVc 9 1 a (fuVc 100 28 b (true = true)) := by kernel_rfl
theorem fuy1_28 {a b : Int} (h1 : wi a 9 = 1) (h2 : wi b 100 = 28) : fuYesF [(9, 1), (100, 28)] (vi a) (vi b) := fuYesF.of (fuv1_28 a b) (fuVc_ok (by omega) h1 (fuVc_ok (by omega) h2 rfl))
theorem fuv1_34 (a b : Int) : fuYes [(9, 1), (100, 34)] (vi a) (vi b) = fuVc 9 1 a (fuVc 100 34 b (true = true)) := by kernel_rfl
theorem fuy1_34 {a b : Int} (h1 : wi a 9 = 1) (h2 : wi b 100 = 34) : fuYesF [(9, 1), (100, 34)] (vi a) (vi b) := fuYesF.of (fuv1_34 a b) (fuVc_ok (by omega) h1 (fuVc_ok (by omega) h2 rfl))
theorem fuv1_40 (a b : Int) : fuYes [(9, 1), (100, 40)] (vi a) (vi b) = fuVc 9 1 a (fuVc 100 40 b (true = true)) := by kernel_rfl
theorem fuy1_40 {a b : Int} (h1 : wi a 9 = 1) (h2 : wi b 100 = 40) : fuYesF [(9, 1), (100, 40)] (vi a) (vi b) := fuYesF.of (fuv1_40 a b) (fuVc_ok (by omega) h1 (fuVc_ok (by omega) h2 rfl))
theorem fuv1_46 (a b : Int) : fuYes [(9, 1), (100, 46)] (vi a) (vi b) = fuVc 9 1 a (fuVc 100 46 b (true = true)) := by kernel_rfl
theorem fuy1_46 {a b : Int} (h1 : wi a 9 = 1) (h2 : wi b 100 = 46) : fuYesF [(9, 1), (100, 46)] (vi a) (vi b) := fuYesF.of (fuv1_46 a b) (fuVc_ok (by omega) h1 (fuVc_ok (by omega) h2 rfl))
theorem fuv1_52 (a b : Int) : fuYes [(9, 1), (100, 52)] (vi a) (vi b) = fuVc 9 1 a (fuVc 100 52 b (true = true)) := by kernel_rfl
theorem fuy1_52 {a b : Int} (h1 : wi a 9 = 1) (h2 : wi b 100 = 52) : fuYesF [(9, 1), (100, 52)] (vi a) (vi b) := fuYesF.of (fuv1_52 a b) (fuVc_ok (by omega) h1 (fuVc_ok (by omega) h2 rfl))
theorem fuv1_58 (a b : Int) : fuYes [(9, 1), (100, 58)] (vi a) (vi b) = fuVc 9 1 a (fuVc 100 58 b (true = true)) := by kernel_rfl
theorem fuy1_58 {a b : Int} (h1 : wi a 9 = 1) (h2 : wi b 100 = 58) : fuYesF [(9, 1), (100, 58)] (vi a) (vi b) := fuYesF.of (fuv1_58 a b) (fuVc_ok (by omega) h1 (fuVc_ok (by omega) h2 rfl))
theorem fuv1_64 (a b : Int) : fuYes [(9, 1), (100, 64)] (vi a) (vi b) = fuVc 9 1 a (fuVc 100 64 b (true = true)) := by kernel_rfl
theorem fuy1_64 {a b : Int} (h1 : wi a 9 = 1) (h2 : wi b 100 = 64) : fuYesF [(9, 1), (100, 64)] (vi a) (vi b) := fuYesF.of (fuv1_64 a b) (fuVc_ok (by omega) h1 (fuVc_ok (by omega) h2 rfl))
theorem fuv1_70 (a b : Int) : fuYes [(9, 1), (100, 70)] (vi a) (vi b) = fuVc 9 1 a (fuVc 100 70 b (true = true)) := by kernel_rfl
theorem fuy1_70 {a b : Int} (h1 : wi a 9 = 1) (h2 : wi b 100 = 70) : fuYesF [(9, 1), (100, 70)] (vi a) (vi b) := fuYesF.of (fuv1_70 a b) (fuVc_ok (by omega) h1 (fuVc_ok (by omega) h2 rfl))
theorem fuv1_76 (a b : Int) : fuYes [(9, 1), (100, 76)] (vi a) (vi b) = fuVc 9 1 a (fuVc 100 76 b (true = true)) := by kernel_rfl
theorem fuy1_76 {a b : Int} (h1 : wi a 9 = 1) (h2 : wi b 100 = 76) : fuYesF [(9, 1), (100, 76)] (vi a) (vi b) := fuYesF.of (fuv1_76 a b) (fuVc_ok (by omega) h1 (fuVc_ok (by omega) h2 rfl))
theorem fuv1_82 (a b : Int) : fuYes [(9, 1), (100, 82)] (vi a) (vi b) = fuVc 9 1 a (fuVc 100 82 b (true = true)) := by kernel_rfl
theorem fuy1_82 {a b : Int} (h1 : wi a 9 = 1) (h2 : wi b 100 = 82) : fuYesF [(9, 1), (100, 82)] (vi a) (vi b) := fuYesF.of (fuv1_82 a b) (fuVc_ok (by omega) h1 (fuVc_ok (by omega) h2 rfl))
theorem fuv1_88 (a b : Int) : fuYes [(9, 1), (100, 88)] (vi a) (vi b) = fuVc 9 1 a (fuVc 100 88 b (true = true)) := by kernel_rfl
theorem fuy1_88 {a b : Int} (h1 : wi a 9 = 1) (h2 : wi b 100 = 88) : fuYesF [(9, 1), (100, 88)] (vi a) (vi b) := fuYesF.of (fuv1_88 a b) (fuVc_ok (by omega) h1 (fuVc_ok (by omega) h2 rfl))
theorem fuv1_94 (a b : Int) : fuYes [(9, 1), (100, 94)] (vi a) (vi b) = fuVc 9 1 a (fuVc 100 94 b (true = true)) := by kernel_rfl
theorem fuy1_94 {a b : Int} (h1 : wi a 9 = 1) (h2 : wi b 100 = 94) : fuYesF [(9, 1), (100, 94)] (vi a) (vi b) := fuYesF.of (fuv1_94 a b) (fuVc_ok (by omega) h1 (fuVc_ok (by omega) h2 rfl))
theorem fuv2_0 (a b : Int) : fuYes [(9, 2), (100, 0)] (vi a) (vi b) = fuVc 9 2 a (fuVc 100 0 b (true = true)) := by kernel_rfl
theorem fuy2_0 {a b : Int} (h1 : wi a 9 = 2) (h2 : wi b 100 = 0) : fuYesF [(9, 2), (100, 0)] (vi a) (vi b) := fuYesF.of (fuv2_0 a b) (fuVc_ok (by omega) h1 (fuVc_ok (by omega) h2 rfl))
theorem fuv2_6 (a b : Int) : fuYes [(9, 2), (100, 6)] (vi a) (vi b) = fuVc 9 2 a (fuVc 100 6 b (true = true)) := by kernel_rfl
theorem fuy2_6 {a b : Int} (h1 : wi a 9 = 2) (h2 : wi b 100 = 6) : fuYesF [(9, 2), (100, 6)] (vi a) (vi b) := fuYesF.of (fuv2_6 a b) (fuVc_ok (by omega) h1 (fuVc_ok (by omega) h2 rfl))
theorem fuv2_12 (a b : Int) : fuYes [(9, 2), (100, 12)] (vi a) (vi b) = fuVc 9 2 a (fuVc 100 12 b (true = true)) := by kernel_rfl
theorem fuy2_12 {a b : Int} (h1 : wi a 9 = 2) (h2 : wi b 100 = 12) : fuYesF [(9, 2), (100, 12)] (vi a) (vi b) := fuYesF.of (fuv2_12 a b) (fuVc_ok (by omega) h1 (fuVc_ok (by omega) h2 rfl))
theorem fuv2_18 (a b : Int) : fuYes [(9, 2), (100, 18)] (vi a) (vi b) = fuVc 9 2 a (fuVc 100 18 b (true = true)) := by kernel_rfl
theorem fuy2_18 {a b : Int} (h1 : wi a 9 = 2) (h2 : wi b 100 = 18) : fuYesF [(9, 2), (100, 18)] (vi a) (vi b) := fuYesF.of (fuv2_18 a b) (fuVc_ok (by omega) h1 (fuVc_ok (by omega) h2 rfl))
theorem fuv2_24 (a b : Int) : fuYes [(9, 2), (100, 24)] (vi a) (vi b) = fuVc 9 2 a (fuVc 100 24 b (true = true)) := by kernel_rfl
theorem fuy2_24 {a b : Int} (h1 : wi a 9 = 2) (h2 : wi b 100 = 24) : fuYesF [(9, 2), (100, 24)] (vi a) (vi b) := fuYesF.of (fuv2_24 a b) (fuVc_ok (by omega) h1 (fuVc_ok (by omega) h2 rfl))
theorem fuv2_30 (a b : Int) : fuYes [(9, 2), (100, 30)] (vi a) (vi b) = fuVc 9 2 a (fuVc 100 30 b (true = true)) := by kernel_rfl
theorem fuy2_30 {a b : Int} (h1 : wi a 9 = 2) (h2 : wi b 100 = 30) : fuYesF [(9, 2), (100, 30)] (vi a) (vi b) := fuYesF.of (fuv2_30 a b) (fuVc_ok (by omega) h1 (fuVc_ok (by omega) h2 rfl))
theorem fuv2_36 (a b : Int) : fuYes [(9, 2), (100, 36)] (vi a) (vi b) = fuVc 9 2 a (fuVc 100 36 b (true = true)) := by kernel_rfl
theorem fuy2_36 {a b : Int} (h1 : wi a 9 = 2) (h2 : wi b 100 = 36) : fuYesF [(9, 2), (100, 36)] (vi a) (vi b) := fuYesF.of (fuv2_36 a b) (fuVc_ok (by omega) h1 (fuVc_ok (by omega) h2 rfl))
theorem fuv2_42 (a b : Int) : fuYes [(9, 2), (100, 42)] (vi a) (vi b) = fuVc 9 2 a (fuVc 100 42 b (true = true)) := by kernel_rfl
theorem fuy2_42 {a b : Int} (h1 : wi a 9 = 2) (h2 : wi b 100 = 42) : fuYesF [(9, 2), (100, 42)] (vi a) (vi b) := fuYesF.of (fuv2_42 a b) (fuVc_ok (by omega) h1 (fuVc_ok (by omega) h2 rfl))
theorem fuv2_48 (a b : Int) : fuYes [(9, 2), (100, 48)] (vi a) (vi b) = fuVc 9 2 a (fuVc 100 48 b (true = true)) := by kernel_rfl
theorem fuy2_48 {a b : Int} (h1 : wi a 9 = 2) (h2 : wi b 100 = 48) : fuYesF [(9, 2), (100, 48)] (vi a) (vi b) := fuYesF.of (fuv2_48 a b) (fuVc_ok (by omega) h1 (fuVc_ok (by omega) h2 rfl))
theorem fuv2_54 (a b : Int) : fuYes [(9, 2), (100, 54)] (vi a) (vi b) = fuVc 9 2 a (fuVc 100 54 b (true = true)) := by kernel_rfl
theorem fuy2_54 {a b : Int} (h1 : wi a 9 = 2) (h2 : wi b 100 = 54) : fuYesF [(9, 2), (100, 54)] (vi a) (vi b) := fuYesF.of (fuv2_54 a b) (fuVc_ok (by omega) h1 (fuVc_ok (by omega) h2 rfl))
theorem fuv2_60 (a b : Int) : fuYes [(9, 2), (100, 60)] (vi a) (vi b) = fuVc 9 2 a (fuVc 100 60 b (true = true)) := by kernel_rfl
theorem fuy2_60 {a b : Int} (h1 : wi a 9 = 2) (h2 : wi b 100 = 60) : fuYesF [(9, 2), (100, 60)] (vi a) (vi b) := fuYesF.of (fuv2_60 a b) (fuVc_ok (by omega) h1 (fuVc_ok (by omega) h2 rfl))
theorem fuv2_66 (a b : Int) : fuYes [(9, 2), (100, 66)] (vi a) (vi b) = fuVc 9 2 a (fuVc 100 66 b (true = true)) := by kernel_rfl
theorem fuy2_66 {a b : Int} (h1 : wi a 9 = 2) (h2 : wi b 100 = 66) : fuYesF [(9, 2), (100, 66)] (vi a) (vi b) := fuYesF.of (fuv2_66 a b) (fuVc_ok (by omega) h1 (fuVc_ok (by omega) h2 rfl))
theorem fuv2_72 (a b : Int) : fuYes [(9, 2), (100, 72)] (vi a) (vi b) = fuVc 9 2 a (fuVc 100 72 b (true = true)) := by kernel_rfl
theorem fuy2_72 {a b : Int} (h1 : wi a 9 = 2) (h2 : wi b 100 = 72) : fuYesF [(9, 2), (100, 72)] (vi a) (vi b) := fuYesF.of (fuv2_72 a b) (fuVc_ok (by omega) h1 (fuVc_ok (by omega) h2 rfl))
theorem fuv2_78 (a b : Int) : fuYes [(9, 2), (100, 78)] (vi a) (vi b) = fuVc 9 2 a (fuVc 100 78 b (true = true)) := by kernel_rfl
theorem fuy2_78 {a b : Int} (h1 : wi a 9 = 2) (h2 : wi b 100 = 78) : fuYesF [(9, 2), (100, 78)] (vi a) (vi b) := fuYesF.of (fuv2_78 a b) (fuVc_ok (by omega) h1 (fuVc_ok (by omega) h2 rfl))
theorem fuv2_84 (a b : Int) : fuYes [(9, 2), (100, 84)] (vi a) (vi b) = fuVc 9 2 a (fuVc 100 84 b (true = true)) := by kernel_rfl
theorem fuy2_84 {a b : Int} (h1 : wi a 9 = 2) (h2 : wi b 100 = 84) : fuYesF [(9, 2), (100, 84)] (vi a) (vi b) := fuYesF.of (fuv2_84 a b) (fuVc_ok (by omega) h1 (fuVc_ok (by omega) h2 rfl))
theorem fuv2_90 (a b : Int) : fuYes [(9, 2), (100, 90)] (vi a) (vi b) = fuVc 9 2 a (fuVc 100 90 b (true = true)) := by kernel_rfl
theorem fuy2_90 {a b : Int} (h1 : wi a 9 = 2) (h2 : wi b 100 = 90) : fuYesF [(9, 2), (100, 90)] (vi a) (vi b) := fuYesF.of (fuv2_90 a b) (fuVc_ok (by omega) h1 (fuVc_ok (by omega) h2 rfl))
theorem fuv2_96 (a b : Int) : fuYes [(9, 2), (100, 96)] (vi a) (vi b) = fuVc 9 2 a (fuVc 100 96 b (true = true)) := by kernel_rfl
theorem fuy2_96 {a b : Int} (h1 : wi a 9 = 2) (h2 : wi b 100 = 96) : fuYesF [(9, 2), (100, 96)] (vi a) (vi b) := fuYesF.of (fuv2_96 a b) (fuVc_ok (by omega) h1 (fuVc_ok (by omega) h2 rfl))
theorem fuv6_2 (a b : Int) : fuYes [(9, 6), (5, 2)] (vi a) (vi b) = fuVc 9 6 a (fuVc 5 2 b (true = true)) := by kernel_rfl
theorem fuy6_2 {a b : Int} (h1 : wi a 9 = 6) (h2 : wi b 5 = 2) : fuYesF [(9, 6), (5, 2)] (vi a) (vi b) := fuYesF.of (fuv6_2 a b) (fuVc_ok (by omega) h1 (fuVc_ok (by omega) h2 rfl))
theorem fuv8_0 (a b : Int) : fuYes [(9, 8), (3, 0)] (vi a) (vi b) = fuVc 9 8 a (fuVc 3 0 b (true = true)) := by kernel_rfl
theorem fuy8_0 {a b : Int} (h1 : wi a 9 = 8) (h2 : wi b 3 = 0) : fuYesF [(9, 8), (3, 0)] (vi a) (vi b) := fuYesF.of (fuv8_0 a b) (fuVc_ok (by omega) h1 (fuVc_ok (by omega) h2 rfl))
end Go.Proofs.YtbcmfkognanjdaaGreatDoor
