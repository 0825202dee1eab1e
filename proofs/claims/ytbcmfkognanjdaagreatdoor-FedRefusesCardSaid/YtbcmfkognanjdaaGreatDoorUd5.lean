/- FedRefuses: classes, part 5: what is left to be shown. No conditions. -/
import Derived.Test.YtbcmfkognanjdaaGreatDoorUc
namespace Go.Proofs.YtbcmfkognanjdaaGreatDoor
open Go Go.W Go.Proofs
set_option maxRecDepth 100000
theorem fuv1_0 (a b : Int) : fuYes [(9, 1), (100, 0)] (vi a) (vi b) = fuVc 9 1 a (fuVc 100 0 b (true = true)) := by kernel_rfl
theorem fuy1_0 {a b : Int} (h1 : wi a 9 = 1) (h2 : wi b 100 = 0) : fuYesF [(9, 1), (100, 0)] (vi a) (vi b) := fuYesF.of (fuv1_0 a b) (fuVc_ok (by omega) h1 (fuVc_ok (by omega) h2 rfl))
theorem fuv1_6 (a b : Int) : fuYes [(9, 1), (100, 6)] (vi a) (vi b) = fuVc 9 1 a (fuVc 100 6 b (true = true)) := by kernel_rfl
theorem fuy1_6 {a b : Int} (h1 : wi a 9 = 1) (h2 : wi b 100 = 6) : fuYesF [(9, 1), (100, 6)] (vi a) (vi b) := fuYesF.of (fuv1_6 a b) (fuVc_ok (by omega) h1 (fuVc_ok (by omega) h2 rfl))
theorem fuv1_12 (a b : Int) : fuYes [(9, 1), (100, 12)] (vi a) (vi b) = fuVc 9 1 a (fuVc 100 12 b (true = true)) := by kernel_rfl
theorem fuy1_12 {a b : Int} (h1 : wi a 9 = 1) (h2 : wi b 100 = 12) : fuYesF [(9, 1), (100, 12)] (vi a) (vi b) := fuYesF.of (fuv1_12 a b) (fuVc_ok (by omega) h1 (fuVc_ok (by omega) h2 rfl))
theorem fuv1_18 (a b : Int) : fuYes [(9, 1), (100, 18)] (vi a) (vi b) = fuVc 9 1 a (fuVc 100 18 b (true = true)) := by kernel_rfl
theorem fuy1_18 {a b : Int} (h1 : wi a 9 = 1) (h2 : wi b 100 = 18) : fuYesF [(9, 1), (100, 18)] (vi a) (vi b) := fuYesF.of (fuv1_18 a b) (fuVc_ok (by omega) h1 (fuVc_ok (by omega) h2 rfl))
theorem fuv1_24 (a b : Int) : fuYes [(9, 1), (100, 24)] (vi a) (vi b) = fuVc 9 1 a (fuVc 100 24 b (true = true)) := by kernel_rfl
theorem fuy1_24 {a b : Int} (h1 : wi a 9 = 1) (h2 : wi b 100 = 24) : fuYesF [(9, 1), (100, 24)] (vi a) (vi b) := fuYesF.of (fuv1_24 a b) (fuVc_ok (by omega) h1 (fuVc_ok (by omega) h2 rfl))
theorem fuv1_30 (a b : Int) : fuYes [(9, 1), (100, 30)] (vi a) (vi b) = fuVc 9 1 a (fuVc 100 30 b (true = true)) := by kernel_rfl
theorem fuy1_30 {a b : Int} (h1 : wi a 9 = 1) (h2 : wi b 100 = 30) : fuYesF [(9, 1), (100, 30)] (vi a) (vi b) := fuYesF.of (fuv1_30 a b) (fuVc_ok (by omega) h1 (fuVc_ok (by omega) h2 rfl))
theorem fuv1_36 (a b : Int) : fuYes [(9, 1), (100, 36)] (vi a) (vi b) = fuVc 9 1 a (fuVc 100 36 b (true = true)) := by kernel_rfl
theorem fuy1_36 {a b : Int} (h1 : wi a 9 = 1) (h2 : wi b 100 = 36) : fuYesF [(9, 1), (100, 36)] (vi a) (vi b) := fuYesF.of (fuv1_36 a b) (fuVc_ok (by omega) h1 (fuVc_ok (by omega) h2 rfl))
theorem fuv1_42 (a b : Int) : fuYes [(9, 1), (100, 42)] (vi a) (vi b) = fuVc 9 1 a (fuVc 100 42 b (true = true)) := by kernel_rfl
theorem fuy1_42 {a b : Int} (h1 : wi a 9 = 1) (h2 : wi b 100 = 42) : fuYesF [(9, 1), (100, 42)] (vi a) (vi b) := fuYesF.of (fuv1_42 a b) (fuVc_ok (by omega) h1 (fuVc_ok (by omega) h2 rfl))
theorem fuv1_48 (a b : Int) : fuYes [(9, 1), (100, 48)] (vi a) (vi b) = fuVc 9 1 a (fuVc 100 48 b (true = true)) := by kernel_rfl
theorem fuy1_48 {a b : Int} (h1 : wi a 9 = 1) (h2 : wi b 100 = 48) : fuYesF [(9, 1), (100, 48)] (vi a) (vi b) := fuYesF.of (fuv1_48 a b) (fuVc_ok (by omega) h1 (fuVc_ok (by omega) h2 rfl))
theorem fuv1_54 (a b : Int) : fuYes [(9, 1), (100, 54)] (vi a) (vi b) = fuVc 9 1 a (fuVc 100 54 b (true = true)) := by kernel_rfl
theorem fuy1_54 {a b : Int} (h1 : wi a 9 = 1) (h2 : wi b 100 = 54) : fuYesF [(9, 1), (100, 54)] (vi a) (vi b) := fuYesF.of (fuv1_54 a b) (fuVc_ok (by omega) h1 (fuVc_ok (by omega) h2 rfl))
theorem fuv1_60 (a b : Int) : fuYes [(9, 1), (100, 60)] (vi a) (vi b) = fuVc 9 1 a (fuVc 100 60 b (true = true)) := by kernel_rfl
theorem fuy1_60 {a b : Int} (h1 : wi a 9 = 1) (h2 : wi b 100 = 60) : fuYesF [(9, 1), (100, 60)] (vi a) (vi b) := fuYesF.of (fuv1_60 a b) (fuVc_ok (by omega) h1 (fuVc_ok (by omega) h2 rfl))
theorem fuv1_66 (a b : Int) : fuYes [(9, 1), (100, 66)] (vi a) (vi b) = fuVc 9 1 a (fuVc 100 66 b (true = true)) := by kernel_rfl
theorem fuy1_66 {a b : Int} (h1 : wi a 9 = 1) (h2 : wi b 100 = 66) : fuYesF [(9, 1), (100, 66)] (vi a) (vi b) := fuYesF.of (fuv1_66 a b) (fuVc_ok (by omega) h1 (fuVc_ok (by omega) h2 rfl))
theorem fuv1_72 (a b : Int) : fuYes [(9, 1), (100, 72)] (vi a) (vi b) = fuVc 9 1 a (fuVc 100 72 b (true = true)) := by kernel_rfl
theorem fuy1_72 {a b : Int} (h1 : wi a 9 = 1) (h2 : wi b 100 = 72) : fuYesF [(9, 1), (100, 72)] (vi a) (vi b) := fuYesF.of (fuv1_72 a b) (fuVc_ok (by omega) h1 (fuVc_ok (by omega) h2 rfl))
theorem fuv1_78 (a b : Int) : fuYes [(9, 1), (100, 78)] (vi a) (vi b) = fuVc 9 1 a (fuVc 100 78 b (true = true)) := by kernel_rfl
theorem fuy1_78 {a b : Int} (h1 : wi a 9 = 1) (h2 : wi b 100 = 78) : fuYesF [(9, 1), (100, 78)] (vi a) (vi b) := fuYesF.of (fuv1_78 a b) (fuVc_ok (by omega) h1 (fuVc_ok (by omega) h2 rfl))
theorem fuv1_84 (a b : Int) : fuYes [(9, 1), (100, 84)] (vi a) (vi b) = fuVc 9 1 a (fuVc 100 84 b (true = true)) := by kernel_rfl
theorem fuy1_84 {a b : Int} (h1 : wi a 9 = 1) (h2 : wi b 100 = 84) : fuYesF [(9, 1), (100, 84)] (vi a) (vi b) := fuYesF.of (fuv1_84 a b) (fuVc_ok (by omega) h1 (fuVc_ok (by omega) h2 rfl))
theorem fuv1_90 (a b : Int) : fuYes [(9, 1), (100, 90)] (vi a) (vi b) = fuVc 9 1 a (fuVc 100 90 b (true = true)) := by kernel_rfl
theorem fuy1_90 {a b : Int} (h1 : wi a 9 = 1) (h2 : wi b 100 = 90) : fuYesF [(9, 1), (100, 90)] (vi a) (vi b) := fuYesF.of (fuv1_90 a b) (fuVc_ok (by omega) h1 (fuVc_ok (by omega) h2 rfl))
theorem fuv1_96 (a b : Int) : fuYes [(9, 1), (100, 96)] (vi a) (vi b) = fuVc 9 1 a (fuVc 100 96 b (true = true)) := by kernel_rfl
theorem fuy1_96 {a b : Int} (h1 : wi a 9 = 1) (h2 : wi b 100 = 96) : fuYesF [(9, 1), (100, 96)] (vi a) (vi b) := fuYesF.of (fuv1_96 a b) (fuVc_ok (by omega) h1 (fuVc_ok (by omega) h2 rfl))
theorem fuv2_2 (a b : Int) : fuYes [(9, 2), (100, 2)] (vi a) (vi b) = fuVc 9 2 a (fuVc 100 2 b (true = true)) := by kernel_rfl
theorem fuy2_2 {a b : Int} (h1 : wi a 9 = 2) (h2 : wi b 100 = 2) : fuYesF [(9, 2), (100, 2)] (vi a) (vi b) := fuYesF.of (fuv2_2 a b) (fuVc_ok (by omega) h1 (fuVc_ok (by omega) h2 rfl))
theorem fuv2_8 (a b : Int) : fuYes [(9, 2), (100, 8)] (vi a) (vi b) = fuVc 9 2 a (fuVc 100 8 b (true = true)) := by kernel_rfl
theorem fuy2_8 {a b : Int} (h1 : wi a 9 = 2) (h2 : wi b 100 = 8) : fuYesF [(9, 2), (100, 8)] (vi a) (vi b) := fuYesF.of (fuv2_8 a b) (fuVc_ok (by omega) h1 (fuVc_ok (by omega) h2 rfl))
theorem fuv2_14 (a b : Int) : fuYes [(9, 2), (100, 14)] (vi a) (vi b) = fuVc 9 2 a (fuVc 100 14 b (true = true)) := by kernel_rfl
theorem fuy2_14 {a b : Int} (h1 : wi a 9 = 2) (h2 : wi b 100 = 14) : fuYesF [(9, 2), (100, 14)] (vi a) (vi b) := fuYesF.of (fuv2_14 a b) (fuVc_ok (by omega) h1 (fuVc_ok (by omega) h2 rfl))
theorem fuv2_20 (a b : Int) : fuYes [(9, 2), (100, 20)] (vi a) (vi b) = fuVc 9 2 a (fuVc 100 20 b (true = true)) := by kernel_rfl
theorem fuy2_20 {a b : Int} (h1 : wi a 9 = 2) (h2 : wi b 100 = 20) : fuYesF [(9, 2), (100, 20)] (vi a) (vi b) := fuYesF.of (fuv2_20 a b) (fuVc_ok (by omega) h1 (fuVc_ok (by omega) h2 rfl))
theorem fuv2_26 (a b : Int) : fuYes [(9, 2), (100, 26)] (vi a) (vi b) = fuVc 9 2 a (fuVc 100 26 b (true = true)) := by kernel_rfl
theorem fuy2_26 {a b : Int} (h1 : wi a 9 = 2) (h2 : wi b 100 = 26) : fuYesF [(9, 2), (100, 26)] (vi a) (vi b) := fuYesF.of (fuv2_26 a b) (fuVc_ok (by omega) h1 (fuVc_ok (by omega) h2 rfl))
theorem fuv2_32 (a b : Int) : fuYes [(9, 2), (100, 32)] (vi a) (vi b) = fuVc 9 2 a (fuVc 100 32 b (true = true)) := by kernel_rfl
theorem fuy2_32 {a b : Int} (h1 : wi a 9 = 2) (h2 : wi b 100 = 32) : fuYesF [(9, 2), (100, 32)] (vi a) (vi b) := fuYesF.of (fuv2_32 a b) (fuVc_ok (by omega) h1 (fuVc_ok (by omega) h2 rfl))
theorem fuv2_38 (a b : Int) : fuYes [(9, 2), (100, 38)] (vi a) (vi b) = fuVc 9 2 a (fuVc 100 38 b (true = true)) := by kernel_rfl
theorem fuy2_38 {a b : Int} (h1 : wi a 9 = 2) (h2 : wi b 100 = 38) : fuYesF [(9, 2), (100, 38)] (vi a) (vi b) := fuYesF.of (fuv2_38 a b) (fuVc_ok (by omega) h1 (fuVc_ok (by omega) h2 rfl))
theorem fuv2_44 (a b : Int) : fuYes [(9, 2), (100, 44)] (vi a) (vi b) = fuVc 9 2 a (fuVc 100 44 b (true = true)) := by kernel_rfl
theorem fuy2_44 {a b : Int} (h1 : wi a 9 = 2) (h2 : wi b 100 = 44) : fuYesF [(9, 2), (100, 44)] (vi a) (vi b) := fuYesF.of (fuv2_44 a b) (fuVc_ok (by omega) h1 (fuVc_ok (by omega) h2 rfl))
theorem fuv2_50 (a b : Int) : fuYes [(9, 2), (100, 50)] (vi a) (vi b) = fuVc 9 2 a (fuVc 100 50 b (true = true)) := by kernel_rfl
theorem fuy2_50 {a b : Int} (h1 : wi a 9 = 2) (h2 : wi b 100 = 50) : fuYesF [(9, 2), (100, 50)] (vi a) (vi b) := fuYesF.of (fuv2_50 a b) (fuVc_ok (by omega) h1 (fuVc_ok (by omega) h2 rfl))
theorem fuv2_56 (a b : Int) : fuYes [(9, 2), (100, 56)] (vi a) (vi b) = fuVc 9 2 a (fuVc 100 56 b (true = true)) := by kernel_rfl
theorem fuy2_56 {a b : Int} (h1 : wi a 9 = 2) (h2 : wi b 100 = 56) : fuYesF [(9, 2), (100, 56)] (vi a) (vi b) := fuYesF.of (fuv2_56 a b) (fuVc_ok (by omega) h1 (fuVc_ok (by omega) h2 rfl))
theorem fuv2_62 (a b : Int) : fuYes [(9, 2), (100, 62)] (vi a) (vi b) = fuVc 9 2 a (fuVc 100 62 b (true = true)) := by kernel_rfl
theorem fuy2_62 {a b : Int} (h1 : wi a 9 = 2) (h2 : wi b 100 = 62) : fuYesF [(9, 2), (100, 62)] (vi a) (vi b) := fuYesF.of (fuv2_62 a b) (fuVc_ok (by omega) h1 (fuVc_ok (by omega) h2 rfl))
theorem fuv2_68 (a b : Int) : fuYes [(9, 2), (100, 68)] (vi a) (vi b) = fuVc 9 2 a (fuVc 100 68 b (true = true)) := by kernel_rfl
theorem fuy2_68 {a b : Int} (h1 : wi a 9 = 2) (h2 : wi b 100 = 68) : fuYesF [(9, 2), (100, 68)] (vi a) (vi b) := fuYesF.of (fuv2_68 a b) (fuVc_ok (by omega) h1 (fuVc_ok (by omega) h2 rfl))
theorem fuv2_74 (a b : Int) : fuYes [(9, 2), (100, 74)] (vi a) (vi b) = fuVc 9 2 a (fuVc 100 74 b (true = true)) := by kernel_rfl
theorem fuy2_74 {a b : Int} (h1 : wi a 9 = 2) (h2 : wi b 100 = 74) : fuYesF [(9, 2), (100, 74)] (vi a) (vi b) := fuYesF.of (fuv2_74 a b) (fuVc_ok (by omega) h1 (fuVc_ok (by omega) h2 rfl))
theorem fuv2_80 (a b : Int) : fuYes [(9, 2), (100, 80)] (vi a) (vi b) = fuVc 9 2 a (fuVc 100 80 b (true = true)) := by kernel_rfl
theorem fuy2_80 {a b : Int} (h1 : wi a 9 = 2) (h2 : wi b 100 = 80) : fuYesF [(9, 2), (100, 80)] (vi a) (vi b) := fuYesF.of (fuv2_80 a b) (fuVc_ok (by omega) h1 (fuVc_ok (by omega) h2 rfl))
theorem fuv2_86 (a b : Int) : fuYes [(9, 2), (100, 86)] (vi a) (vi b) = fuVc 9 2 a (fuVc 100 86 b (true = true)) := by kernel_rfl
theorem fuy2_86 {a b : Int} (h1 : wi a 9 = 2) (h2 : wi b 100 = 86) : fuYesF [(9, 2), (100, 86)] (vi a) (vi b) := fuYesF.of (fuv2_86 a b) (fuVc_ok (by omega) h1 (fuVc_ok (by omega) h2 rfl))
theorem fuv2_92 (a b : Int) : fuYes [(9, 2), (100, 92)] (vi a) (vi b) = fuVc 9 2 a (fuVc 100 92 b (true = true)) := by kernel_rfl
theorem fuy2_92 {a b : Int} (h1 : wi a 9 = 2) (h2 : wi b 100 = 92) : fuYesF [(9, 2), (100, 92)] (vi a) (vi b) := fuYesF.of (fuv2_92 a b) (fuVc_ok (by omega) h1 (fuVc_ok (by omega) h2 rfl))
theorem fuv2_98 (a b : Int) : fuYes [(9, 2), (100, 98)] (vi a) (vi b) = fuVc 9 2 a (fuVc 100 98 b (true = true)) := by kernel_rfl
theorem fuy2_98 {a b : Int} (h1 : wi a 9 = 2) (h2 : wi b 100 = 98) : fuYesF [(9, 2), (100, 98)] (vi a) (vi b) := fuYesF.of (fuv2_98 a b) (fuVc_ok (by omega) h1 (fuVc_ok (by omega) h2 rfl))
theorem fuv6_4 (a b : Int) : fuYes [(9, 6), (5, 4)] (vi a) (vi b) = fuVc 9 6 a (fuVc 5 4 b (true = true)) := by kernel_rfl
theorem fuy6_4 {a b : Int} (h1 : wi a 9 = 6) (h2 : wi b 5 = 4) : fuYesF [(9, 6), (5, 4)] (vi a) (vi b) := fuYesF.of (fuv6_4 a b) (fuVc_ok (by omega) h1 (fuVc_ok (by omega) h2 rfl))
theorem fuv8_2 (a b : Int) : fuYes [(9, 8), (3, 2)] (vi a) (vi b) = fuVc 9 8 a (fuVc 3 2 b (true = true)) := by kernel_rfl
theorem fuy8_2 {a b : Int} (h1 : wi a 9 = 8) (h2 : wi b 3 = 2) : fuYesF [(9, 8), (3, 2)] (vi a) (vi b) := fuYesF.of (fuv8_2 a b) (fuVc_ok (by omega) h1 (fuVc_ok (by omega) h2 rfl))
end Go.Proofs.YtbcmfkognanjdaaGreatDoor
