/- FedRefuses: classes, part 6: what is left to be shown. No conditions. -/
import Derived.Test.YtbcmfkognanjdaaGreatDoorUc
namespace Go.Proofs.YtbcmfkognanjdaaGreatDoor
open Go Go.W Go.Proofs
set_option maxRecDepth 100000
theorem fuv1_1 (a b : Int) : fuYes [(9, 1), (100, 1)] (vi a) (vi b) = fuVc 9 1 a (fuVc 100 1 b (true = true)) := by kernel_rfl
theorem fuy1_1 {a b : Int} (h1 : wi a 9 = 1) (h2 : wi b 100 = 1) : fuYesF [(9, 1), (100, 1)] (vi a) (vi b) := fuYesF.of (fuv1_1 a b) (fuVc_ok (by omega) h1 (fuVc_ok (by omega) h2 rfl))
theorem fuv1_7 (a b : Int) : fuYes [(9, 1), (100, 7)] (vi a) (vi b) = fuVc 9 1 a (fuVc 100 7 b (true = true)) := by kernel_rfl
theorem fuy1_7 {a b : Int} (h1 : wi a 9 = 1) (h2 : wi b 100 = 7) : fuYesF [(9, 1), (100, 7)] (vi a) (vi b) := fuYesF.of (fuv1_7 a b) (fuVc_ok (by omega) h1 (fuVc_ok (by omega) h2 rfl))
theorem fuv1_13 (a b : Int) : fuYes [(9, 1), (100, 13)] (vi a) (vi b) = fuVc 9 1 a (fuVc 100 13 b (true = true)) := by kernel_rfl
theorem fuy1_13 {a b : Int} (h1 : wi a 9 = 1) (h2 : wi b 100 = 13) : fuYesF [(9, 1), (100, 13)] (vi a) (vi b) := fuYesF.of (fuv1_13 a b) (fuVc_ok (by omega) h1 (fuVc_ok (by omega) h2 rfl))
theorem fuv1_19 (a b : Int) : fuYes [(9, 1), (100, 19)] (vi a) (vi b) = fuVc 9 1 a (fuVc 100 19 b (true = true)) := by kernel_rfl
theorem fuy1_19 {a b : Int} (h1 : wi a 9 = 1) (h2 : wi b 100 = 19) : fuYesF [(9, 1), (100, 19)] (vi a) (vi b) := fuYesF.of (fuv1_19 a b) (fuVc_ok (by omega) h1 (fuVc_ok (by omega) h2 rfl))
theorem fuv1_25 (a b : Int) : fuYes [(9, 1), (100, 25)] (vi a) (vi b) = fuVc 9 1 a (fuVc 100 25 b (true = true)) := by kernel_rfl
theorem fuy1_25 {a b : Int} (h1 : wi a 9 = 1) (h2 : wi b 100 = 25) : fuYesF [(9, 1), (100, 25)] (vi a) (vi b) := fuYesF.of (fuv1_25 a b) (fuVc_ok (by omega) h1 (fuVc_ok (by omega) h2 rfl))
theorem fuv1_31 (a b : Int) : fuYes [(9, 1), (100, 31)] (vi a) (vi b) = fuVc 9 1 a (fuVc 100 31 b (true = true)) := by kernel_rfl
theorem fuy1_31 {a b : Int} (h1 : wi a 9 = 1) (h2 : wi b 100 = 31) : fuYesF [(9, 1), (100, 31)] (vi a) (vi b) := fuYesF.of (fuv1_31 a b) (fuVc_ok (by omega) h1 (fuVc_ok (by omega) h2 rfl))
theorem fuv1_37 (a b : Int) : fuYes [(9, 1), (100, 37)] (vi a) (vi b) = fuVc 9 1 a (fuVc 100 37 b (true = true)) := by kernel_rfl
theorem fuy1_37 {a b : Int} (h1 : wi a 9 = 1) (h2 : wi b 100 = 37) : fuYesF [(9, 1), (100, 37)] (vi a) (vi b) := fuYesF.of (fuv1_37 a b) (fuVc_ok (by omega) h1 (fuVc_ok (by omega) h2 rfl))
theorem fuv1_43 (a b : Int) : fuYes [(9, 1), (100, 43)] (vi a) (vi b) = fuVc 9 1 a (fuVc 100 43 b (true = true)) := by kernel_rfl
theorem fuy1_43 {a b : Int} (h1 : wi a 9 = 1) (h2 : wi b 100 = 43) : fuYesF [(9, 1), (100, 43)] (vi a) (vi b) := fuYesF.of (fuv1_43 a b) (fuVc_ok (by omega) h1 (fuVc_ok (by omega) h2 rfl))
theorem fuv1_49 (a b : Int) : fuYes [(9, 1), (100, 49)] (vi a) (vi b) = fuVc 9 1 a (fuVc 100 49 b (true = true)) := by kernel_rfl
theorem fuy1_49 {a b : Int} (h1 : wi a 9 = 1) (h2 : wi b 100 = 49) : fuYesF [(9, 1), (100, 49)] (vi a) (vi b) := fuYesF.of (fuv1_49 a b) (fuVc_ok (by omega) h1 (fuVc_ok (by omega) h2 rfl))
theorem fuv1_55 (a b : Int) : fuYes [(9, 1), (100, 55)] (vi a) (vi b) = fuVc 9 1 a (fuVc 100 55 b (true = true)) := by kernel_rfl
theorem fuy1_55 {a b : Int} (h1 : wi a 9 = 1) (h2 : wi b 100 = 55) : fuYesF [(9, 1), (100, 55)] (vi a) (vi b) := fuYesF.of (fuv1_55 a b) (fuVc_ok (by omega) h1 (fuVc_ok (by omega) h2 rfl))
theorem fuv1_61 (a b : Int) : fuYes [(9, 1), (100, 61)] (vi a) (vi b) = fuVc 9 1 a (fuVc 100 61 b (true = true)) := by kernel_rfl
theorem fuy1_61 {a b : Int} (h1 : wi a 9 = 1) (h2 : wi b 100 = 61) : fuYesF [(9, 1), (100, 61)] (vi a) (vi b) := fuYesF.of (fuv1_61 a b) (fuVc_ok (by omega) h1 (fuVc_ok (by omega) h2 rfl))
theorem fuv1_67 (a b : Int) : fuYes [(9, 1), (100, 67)] (vi a) (vi b) = fuVc 9 1 a (fuVc 100 67 b (true = true)) := by kernel_rfl
theorem fuy1_67 {a b : Int} (h1 : wi a 9 = 1) (h2 : wi b 100 = 67) : fuYesF [(9, 1), (100, 67)] (vi a) (vi b) := fuYesF.of (fuv1_67 a b) (fuVc_ok (by omega) h1 (fuVc_ok (by omega) h2 rfl))
theorem fuv1_73 (a b : Int) : fuYes [(9, 1), (100, 73)] (vi a) (vi b) = fuVc 9 1 a (fuVc 100 73 b (true = true)) := by kernel_rfl
theorem fuy1_73 {a b : Int} (h1 : wi a 9 = 1) (h2 : wi b 100 = 73) : fuYesF [(9, 1), (100, 73)] (vi a) (vi b) := fuYesF.of (fuv1_73 a b) (fuVc_ok (by omega) h1 (fuVc_ok (by omega) h2 rfl))
theorem fuv1_79 (a b : Int) : fuYes [(9, 1), (100, 79)] (vi a) (vi b) = fuVc 9 1 a (fuVc 100 79 b (true = true)) := by kernel_rfl
theorem fuy1_79 {a b : Int} (h1 : wi a 9 = 1) (h2 : wi b 100 = 79) : fuYesF [(9, 1), (100, 79)] (vi a) (vi b) := fuYesF.of (fuv1_79 a b) (fuVc_ok (by omega) h1 (fuVc_ok (by omega) h2 rfl))
theorem fuv1_85 (a b : Int) : fuYes [(9, 1), (100, 85)] (vi a) (vi b) = fuVc 9 1 a (fuVc 100 85 b (true = true)) := by kernel_rfl
theorem fuy1_85 {a b : Int} (h1 : wi a 9 = 1) (h2 : wi b 100 = 85) : fuYesF [(9, 1), (100, 85)] (vi a) (vi b) := fuYesF.of (fuv1_85 a b) (fuVc_ok (by omega) h1 (fuVc_ok (by omega) h2 rfl))
theorem fuv1_91 (a b : Int) : fuYes [(9, 1), (100, 91)] (vi a) (vi b) = fuVc 9 1 a (fuVc 100 91 b (true = true)) := by kernel_rfl
theorem fuy1_91 {a b : Int} (h1 : wi a 9 = 1) (h2 : wi b 100 = 91) : fuYesF [(9, 1), (100, 91)] (vi a) (vi b) := fuYesF.of (fuv1_91 a b) (fuVc_ok (by omega) h1 (fuVc_ok (by omega) h2 rfl))
theorem fuv1_97 (a b : Int) : fuYes [(9, 1), (100, 97)] (vi a) (vi b) = fuVc 9 1 a (fuVc 100 97 b (true = true)) := by kernel_rfl
theorem fuy1_97 {a b : Int} (h1 : wi a 9 = 1) (h2 : wi b 100 = 97) : fuYesF [(9, 1), (100, 97)] (vi a) (vi b) := fuYesF.of (fuv1_97 a b) (fuVc_ok (by omega) h1 (fuVc_ok (by omega) h2 rfl))
theorem fuv2_3 (a b : Int) : fuYes [(9, 2), (100, 3)] (vi a) (vi b) = fuVc 9 2 a (fuVc 100 3 b (true = true)) := by kernel_rfl
theorem fuy2_3 {a b : Int} (h1 : wi a 9 = 2) (h2 : wi b 100 = 3) : fuYesF [(9, 2), (100, 3)] (vi a) (vi b) := fuYesF.of (fuv2_3 a b) (fuVc_ok (by omega) h1 (fuVc_ok (by omega) h2 rfl))
theorem fuv2_9 (a b : Int) : fuYes [(9, 2), (100, 9)] (vi a) (vi b) = fuVc 9 2 a (fuVc 100 9 b (true = true)) := by kernel_rfl
theorem fuy2_9 {a b : Int} (h1 : wi a 9 = 2) (h2 : wi b 100 = 9) : fuYesF [(9, 2), (100, 9)] (vi a) (vi b) := fuYesF.of (fuv2_9 a b) (fuVc_ok (by omega) h1 (fuVc_ok (by omega) h2 rfl))
theorem fuv2_15 (a b : Int) : fuYes [(9, 2), (100, 15)] (vi a) (vi b) = fuVc 9 2 a (fuVc 100 15 b (true = true)) := by kernel_rfl
theorem fuy2_15 {a b : Int} (h1 : wi a 9 = 2) (h2 : wi b 100 = 15) : fuYesF [(9, 2), (100, 15)] (vi a) (vi b) := fuYesF.of (fuv2_15 a b) (fuVc_ok (by omega) h1 (fuVc_ok (by omega) h2 rfl))
theorem fuv2_21 (a b : Int) : fuYes [(9, 2), (100, 21)] (vi a) (vi b) = fuVc 9 2 a (fuVc 100 21 b (true = true)) := by kernel_rfl
theorem fuy2_21 {a b : Int} (h1 : wi a 9 = 2) (h2 : wi b 100 = 21) : fuYesF [(9, 2), (100, 21)] (vi a) (vi b) := fuYesF.of (fuv2_21 a b) (fuVc_ok (by omega) h1 (fuVc_ok (by omega) h2 rfl))
theorem fuv2_27 (a b : Int) : fuYes [(9, 2), (100, 27)] (vi a) (vi b) = fuVc 9 2 a (fuVc 100 27 b (true = true)) := by kernel_rfl
theorem fuy2_27 {a b : Int} (h1 : wi a 9 = 2) (h2 : wi b 100 = 27) : fuYesF [(9, 2), (100, 27)] (vi a) (vi b) := fuYesF.of (fuv2_27 a b) (fuVc_ok (by omega) h1 (fuVc_ok (by omega) h2 rfl))
theorem fuv2_33 (a b : Int) : fuYes [(9, 2), (100, 33)] (vi a) (vi b) = fuVc 9 2 a (fuVc 100 33 b (true = true)) := by kernel_rfl
theorem fuy2_33 {a b : Int} (h1 : wi a 9 = 2) (h2 : wi b 100 = 33) : fuYesF [(9, 2), (100, 33)] (vi a) (vi b) := fuYesF.of (fuv2_33 a b) (fuVc_ok (by omega) h1 (fuVc_ok (by omega) h2 rfl))
theorem fuv2_39 (a b : Int) : fuYes [(9, 2), (100, 39)] (vi a) (vi b) = fuVc 9 2 a (fuVc 100 39 b (true = true)) := by kernel_rfl
theorem fuy2_39 {a b : Int} (h1 : wi a 9 = 2) (h2 : wi b 100 = 39) : fuYesF [(9, 2), (100, 39)] (vi a) (vi b) := fuYesF.of (fuv2_39 a b) (fuVc_ok (by omega) h1 (fuVc_ok (by omega) h2 rfl))
theorem fuv2_45 (a b : Int) : fuYes [(9, 2), (100, 45)] (vi a) (vi b) = fuVc 9 2 a (fuVc 100 45 b (true = true)) := by kernel_rfl
theorem fuy2_45 {a b : Int} (h1 : wi a 9 = 2) (h2 : wi b 100 = 45) : fuYesF [(9, 2), (100, 45)] (vi a) (vi b) := fuYesF.of (fuv2_45 a b) (fuVc_ok (by omega) h1 (fuVc_ok (by omega) h2 rfl))
theorem fuv2_51 (a b : Int) : fuYes [(9, 2), (100, 51)] (vi a) (vi b) = fuVc 9 2 a (fuVc 100 51 b (true = true)) := by kernel_rfl
theorem fuy2_51 {a b : Int} (h1 : wi a 9 = 2) (h2 : wi b 100 = 51) : fuYesF [(9, 2), (100, 51)] (vi a) (vi b) := fuYesF.of (fuv2_51 a b) (fuVc_ok (by omega) h1 (fuVc_ok (by omega) h2 rfl))
theorem fuv2_57 (a b : Int) : fuYes [(9, 2), (100, 57)] (vi a) (vi b) = fuVc 9 2 a (fuVc 100 57 b (true = true)) := by kernel_rfl
theorem fuy2_57 {a b : Int} (h1 : wi a 9 = 2) (h2 : wi b 100 = 57) : fuYesF [(9, 2), (100, 57)] (vi a) (vi b) := fuYesF.of (fuv2_57 a b) (fuVc_ok (by omega) h1 (fuVc_ok (by omega) h2 rfl))
theorem fuv2_63 (a b : Int) : fuYes [(9, 2), (100, 63)] (vi a) (vi b) = fuVc 9 2 a (fuVc 100 63 b (true = true)) := by kernel_rfl
theorem fuy2_63 {a b : Int} (h1 : wi a 9 = 2) (h2 : wi b 100 = 63) : fuYesF [(9, 2), (100, 63)] (vi a) (vi b) := fuYesF.of (fuv2_63 a b) (fuVc_ok (by omega) h1 (fuVc_ok (by omega) h2 rfl))
theorem fuv2_69 (a b : Int) : fuYes [(9, 2), (100, 69)] (vi a) (vi b) = fuVc 9 2 a (fuVc 100 69 b (true = true)) := by kernel_rfl
theorem fuy2_69 {a b : Int} (h1 : wi a 9 = 2) (h2 : wi b 100 = 69) : fuYesF [(9, 2), (100, 69)] (vi a) (vi b) := fuYesF.of (fuv2_69 a b) (fuVc_ok (by omega) h1 (fuVc_ok (by omega) h2 rfl))
theorem fuv2_75 (a b : Int) : fuYes [(9, 2), (100, 75)] (vi a) (vi b) = fuVc 9 2 a (fuVc 100 75 b (true = true)) := by kernel_rfl
theorem fuy2_75 {a b : Int} (h1 : wi a 9 = 2) (h2 : wi b 100 = 75) : fuYesF [(9, 2), (100, 75)] (vi a) (vi b) := fuYesF.of (fuv2_75 a b) (fuVc_ok (by omega) h1 (fuVc_ok (by omega) h2 rfl))
theorem fuv2_81 (a b : Int) : fuYes [(9, 2), (100, 81)] (vi a) (vi b) = fuVc 9 2 a (fuVc 100 81 b (true = true)) := by kernel_rfl
theorem fuy2_81 {a b : Int} (h1 : wi a 9 = 2) (h2 : wi b 100 = 81) : fuYesF [(9, 2), (100, 81)] (vi a) (vi b) := fuYesF.of (fuv2_81 a b) (fuVc_ok (by omega) h1 (fuVc_ok (by omega) h2 rfl))
theorem fuv2_87 (a b : Int) : fuYes [(9, 2), (100, 87)] (vi a) (vi b) = fuVc 9 2 a (fuVc 100 87 b (true = true)) := by kernel_rfl
theorem fuy2_87 {a b : Int} (h1 : wi a 9 = 2) (h2 : wi b 100 = 87) : fuYesF [(9, 2), (100, 87)] (vi a) (vi b) := fuYesF.of (fuv2_87 a b) (fuVc_ok (by omega) h1 (fuVc_ok (by omega) h2 rfl))
theorem fuv2_93 (a b : Int) : fuYes [(9, 2), (100, 93)] (vi a) (vi b) = fuVc 9 2 a (fuVc 100 93 b (true = true)) := by kernel_rfl
theorem fuy2_93 {a b : Int} (h1 : wi a 9 = 2) (h2 : wi b 100 = 93) : fuYesF [(9, 2), (100, 93)] (vi a) (vi b) := fuYesF.of (fuv2_93 a b) (fuVc_ok (by omega) h1 (fuVc_ok (by omega) h2 rfl))
theorem fuv2_99 (a b : Int) : fuYes [(9, 2), (100, 99)] (vi a) (vi b) = fuVc 9 2 a (fuVc 100 99 b (true = true)) := by kernel_rfl
theorem fuy2_99 {a b : Int} (h1 : wi a 9 = 2) (h2 : wi b 100 = 99) : fuYesF [(9, 2), (100, 99)] (vi a) (vi b) := fuYesF.of (fuv2_99 a b) (fuVc_ok (by omega) h1 (fuVc_ok (by omega) h2 rfl))
theorem fuv7_0 (a b : Int) : fuYes [(9, 7), (3, 0)] (vi a) (vi b) = fuVc 9 7 a (fuVc 3 0 b (true = true)) := by kernel_rfl
theorem fuy7_0 {a b : Int} (h1 : wi a 9 = 7) (h2 : wi b 3 = 0) : fuYesF [(9, 7), (3, 0)] (vi a) (vi b) := fuYesF.of (fuv7_0 a b) (fuVc_ok (by omega) h1 (fuVc_ok (by omega) h2 rfl))
end Go.Proofs.YtbcmfkognanjdaaGreatDoor
