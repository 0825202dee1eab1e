/- FedRefuses: classes, part 2: what is left to be shown. No conditions. -/
import Derived.Test.YtbcmfkognanjdaaGreatDoorUc
namespace Go.Proofs.YtbcmfkognanjdaaGreatDoor
open Go Go.W Go.Proofs
set_option maxRecDepth 100000
theorem fuv3_0 (a b : Int) : fuYes [(9, 3)] (vi a) (vi b) = fuVc 9 3 a (true = true) := by kernel_rfl
theorem fuy3_0 {a b : Int} (h1 : wi a 9 = 3) : fuYesF [(9, 3)] (vi a) (vi b) := fuYesF.of (fuv3_0 a b) (fuVc_ok (by omega) h1 rfl)
theorem fuv1_3 (a b : Int) : fuYes [(9, 1), (100, 3)] (vi a) (vi b) = fuVc 9 1 a (fuVc 100 3 b (true = true)) := by kernel_rfl
theorem fuy1_3 {a b : Int} (h1 : wi a 9 = 1) (h2 : wi b 100 = 3) : fuYesF [(9, 1), (100, 3)] (vi a) (vi b) := fuYesF.of (fuv1_3 a b) (fuVc_ok (by omega) h1 (fuVc_ok (by omega) h2 rfl))
theorem fuv1_9 (a b : Int) : fuYes [(9, 1), (100, 9)] (vi a) (vi b) = fuVc 9 1 a (fuVc 100 9 b (true = true)) := by kernel_rfl
theorem fuy1_9 {a b : Int} (h1 : wi a 9 = 1) (h2 : wi b 100 = 9) : fuYesF [(9, 1), (100, 9)] (vi a) (vi b) := fuYesF.of (fuv1_9 a b) (fuVc_ok (by omega) h1 (fuVc_ok (by omega) h2 rfl))
theorem fuv1_15 (a b : Int) : fuYes [(9, 1), (100, 15)] (vi a) (vi b) = fuVc 9 1 a (fuVc 100 15 b (true = true)) := by kernel_rfl
theorem fuy1_15 {a b : Int} (h1 : wi a 9 = 1) (h2 : wi b 100 = 15) : fuYesF [(9, 1), (100, 15)] (vi a) (vi b) := fuYesF.of (fuv1_15 a b) (fuVc_ok (by omega) h1 (fuVc_ok (by omega) h2 rfl))
theorem fuv1_21 (a b : Int) : fuYes [(9, 1), (100, 21)] (vi a) (vi b) = fuVc 9 1 a (fuVc 100 21 b (true = true)) := by kernel_rfl
theorem fuy1_21 {a b : Int} (h1 : wi a 9 = 1) (h2 : wi b 100 = 21) : fuYesF [(9, 1), (100, 21)] (vi a) (vi b) := fuYesF.of (fuv1_21 a b) (fuVc_ok (by omega) h1 (fuVc_ok (by omega) h2 rfl))
theorem fuv1_27 (a b : Int) : fuYes [(9, 1), (100, 27)] (vi a) (vi b) = fuVc 9 1 a (fuVc 100 27 b (true = true)) := by kernel_rfl
theorem fuy1_27 {a b : Int} (h1 : wi a 9 = 1) (h2 : wi b 100 = 27) : fuYesF [(9, 1), (100, 27)] (vi a) (vi b) := fuYesF.of (fuv1_27 a b) (fuVc_ok (by omega) h1 (fuVc_ok (by omega) h2 rfl))
theorem fuv1_33 (a b : Int) : fuYes [(9, 1), (100, 33)] (vi a) (vi b) = fuVc 9 1 a (fuVc 100 33 b (true = true)) := by kernel_rfl
theorem fuy1_33 {a b : Int} (h1 : wi a 9 = 1) (h2 : wi b 100 = 33) : fuYesF [(9, 1), (100, 33)] (vi a) (vi b) := fuYesF.of (fuv1_33 a b) (fuVc_ok (by omega) h1 (fuVc_ok (by omega) h2 rfl))
theorem fuv1_39 (a b : Int) : fuYes [(9, 1), (100, 39)] (vi a) (vi b) = fuVc 9 1 a (fuVc 100 39 b (true = true)) := by kernel_rfl
theorem fuy1_39 {a b : Int} (h1 : wi a 9 = 1) (h2 : wi b 100 = 39) : fuYesF [(9, 1), (100, 39)] (vi a) (vi b) := fuYesF.of (fuv1_39 a b) (fuVc_ok (by omega) h1 (fuVc_ok (by omega) h2 rfl))
theorem fuv1_45 (a b : Int) : fuYes [(9, 1), (100, 45)] (vi a) (vi b) = fuVc 9 1 a (fuVc 100 45 b (true = true)) := by kernel_rfl
theorem fuy1_45 {a b : Int} (h1 : wi a 9 = 1) (h2 : wi b 100 = 45) : fuYesF [(9, 1), (100, 45)] (vi a) (vi b) := fuYesF.of (fuv1_45 a b) (fuVc_ok (by omega) h1 (fuVc_ok (by omega) h2 rfl))
theorem fuv1_51 (a b : Int) : fuYes [(9, 1), (100, 51)] (vi a) (vi b) = fuVc 9 1 a (fuVc 100 51 b (true = true)) := by kernel_rfl
theorem fuy1_51 {a b : Int} (h1 : wi a 9 = 1) (h2 : wi b 100 = 51) : fuYesF [(9, 1), (100, 51)] (vi a) (vi b) := fuYesF.of (fuv1_51 a b) (fuVc_ok (by omega) h1 (fuVc_ok (by omega) h2 rfl))
theorem fuv1_57 (a b : Int) : fuYes [(9, 1), (100, 57)] (vi a) (vi b) = fuVc 9 1 a (fuVc 100 57 b (true = true)) := by kernel_rfl
theorem fuy1_57 {a b : Int} (h1 : wi a 9 = 1) (h2 : wi b 100 = 57) : fuYesF [(9, 1), (100, 57)] (vi a) (vi b) := fuYesF.of (fuv1_57 a b) (fuVc_ok (by omega) h1 (fuVc_ok (by omega) h2 rfl))
theorem fuv1_63 (a b : Int) : fuYes [(9, 1), (100, 63)] (vi a) (vi b) = fuVc 9 1 a (fuVc 100 63 b (true = true)) := by kernel_rfl
theorem fuy1_63 {a b : Int} (h1 : wi a 9 = 1) (h2 : wi b 100 = 63) : fuYesF [(9, 1), (100, 63)] (vi a) (vi b) := fuYesF.of (fuv1_63 a b) (fuVc_ok (by omega) h1 (fuVc_ok (by omega) h2 rfl))
theorem fuv1_69 (a b : Int) : fuYes [(9, 1), (100, 69)] (vi a) (vi b) = fuVc 9 1 a (fuVc 100 69 b (true = true)) := by kernel_rfl
theorem fuy1_69 {a b : Int} (h1 : wi a 9 = 1) (h2 : wi b 100 = 69) : fuYesF [(9, 1), (100, 69)] (vi a) (vi b) := fuYesF.of (fuv1_69 a b) (fuVc_ok (by omega) h1 (fuVc_ok (by omega) h2 rfl))
theorem fuv1_75 (a b : Int) : fuYes [(9, 1), (100, 75)] (vi a) (vi b) = fuVc 9 1 a (fuVc 100 75 b (true = true)) := by kernel_rfl
theorem fuy1_75 {a b : Int} (h1 : wi a 9 = 1) (h2 : wi b 100 = 75) : fuYesF [(9, 1), (100, 75)] (vi a) (vi b) := fuYesF.of (fuv1_75 a b) (fuVc_ok (by omega) h1 (fuVc_ok (by omega) h2 rfl))
theorem fuv1_81 (a b : Int) : fuYes [(9, 1), (100, 81)] (vi a) (vi b) = fuVc 9 1 a (fuVc 100 81 b (true = true)) := by kernel_rfl
theorem fuy1_81 {a b : Int} (h1 : wi a 9 = 1) (h2 : wi b 100 = 81) : fuYesF [(9, 1), (100, 81)] (vi a) (vi b) := fuYesF.of (fuv1_81 a b) (fuVc_ok (by omega) h1 (fuVc_ok (by omega) h2 rfl))
theorem fuv1_87 (a b : Int) : fuYes [(9, 1), (100, 87)] (vi a) (vi b) = fuVc 9 1 a (fuVc 100 87 b (true = true)) := by kernel_rfl
theorem fuy1_87 {a b : Int} (h1 : wi a 9 = 1) (h2 : wi b 100 = 87) : fuYesF [(9, 1), (100, 87)] (vi a) (vi b) := fuYesF.of (fuv1_87 a b) (fuVc_ok (by omega) h1 (fuVc_ok (by omega) h2 rfl))
theorem fuv1_93 (a b : Int) : fuYes [(9, 1), (100, 93)] (vi a) (vi b) = fuVc 9 1 a (fuVc 100 93 b (true = true)) := by kernel_rfl
theorem fuy1_93 {a b : Int} (h1 : wi a 9 = 1) (h2 : wi b 100 = 93) : fuYesF [(9, 1), (100, 93)] (vi a) (vi b) := fuYesF.of (fuv1_93 a b) (fuVc_ok (by omega) h1 (fuVc_ok (by omega) h2 rfl))
theorem fuv1_99 (a b : Int) : fuYes [(9, 1), (100, 99)] (vi a) (vi b) = fuVc 9 1 a (fuVc 100 99 b (true = true)) := by kernel_rfl
theorem fuy1_99 {a b : Int} (h1 : wi a 9 = 1) (h2 : wi b 100 = 99) : fuYesF [(9, 1), (100, 99)] (vi a) (vi b) := fuYesF.of (fuv1_99 a b) (fuVc_ok (by omega) h1 (fuVc_ok (by omega) h2 rfl))
theorem fuv2_5 (a b : Int) : fuYes [(9, 2), (100, 5)] (vi a) (vi b) = fuVc 9 2 a (fuVc 100 5 b (true = true)) := by kernel_rfl
theorem fuy2_5 {a b : Int} (h1 : wi a 9 = 2) (h2 : wi b 100 = 5) : fuYesF [(9, 2), (100, 5)] (vi a) (vi b) := fuYesF.of (fuv2_5 a b) (fuVc_ok (by omega) h1 (fuVc_ok (by omega) h2 rfl))
theorem fuv2_11 (a b : Int) : fuYes [(9, 2), (100, 11)] (vi a) (vi b) = fuVc 9 2 a (fuVc 100 11 b (true = true)) := by kernel_rfl
theorem fuy2_11 {a b : Int} (h1 : wi a 9 = 2) (h2 : wi b 100 = 11) : fuYesF [(9, 2), (100, 11)] (vi a) (vi b) := fuYesF.of (fuv2_11 a b) (fuVc_ok (by omega) h1 (fuVc_ok (by omega) h2 rfl))
theorem fuv2_17 (a b : Int) : fuYes [(9, 2), (100, 17)] (vi a) (vi b) = fuVc 9 2 a (fuVc 100 17 b (true = true)) := by kernel_rfl
theorem fuy2_17 {a b : Int} (h1 : wi a 9 = 2) (h2 : wi b 100 = 17) : fuYesF [(9, 2), (100, 17)] (vi a) (vi b) := fuYesF.of (fuv2_17 a b) (fuVc_ok (by omega) h1 (fuVc_ok (by omega) h2 rfl))
theorem fuv2_23 (a b : Int) : fuYes [(9, 2), (100, 23)] (vi a) (vi b) = fuVc 9 2 a (fuVc 100 23 b (true = true)) := by kernel_rfl
theorem fuy2_23 {a b : Int} (h1 : wi a 9 = 2) (h2 : wi b 100 = 23) : fuYesF [(9, 2), (100, 23)] (vi a) (vi b) := fuYesF.of (fuv2_23 a b) (fuVc_ok (by omega) h1 (fuVc_ok (by omega) h2 rfl))
theorem fuv2_29 (a b : Int) : fuYes [(9, 2), (100, 29)] (vi a) (vi b) = fuVc 9 2 a (fuVc 100 29 b (true = true)) := by kernel_rfl
theorem fuy2_29 {a b : Int} (h1 : wi a 9 = 2) (h2 : wi b 100 = 29) : fuYesF [(9, 2), (100, 29)] (vi a) (vi b) := fuYesF.of (fuv2_29 a b) (fuVc_ok (by omega) h1 (fuVc_ok (by omega) h2 rfl))
theorem fuv2_35 (a b : Int) : fuYes [(9, 2), (100, 35)] (vi a) (vi b) = fuVc 9 2 a (fuVc 100 35 b (true = true)) := by kernel_rfl
theorem fuy2_35 {a b : Int} (h1 : wi a 9 = 2) (h2 : wi b 100 = 35) : fuYesF [(9, 2), (100, 35)] (vi a) (vi b) := fuYesF.of (fuv2_35 a b) (fuVc_ok (by omega) h1 (fuVc_ok (by omega) h2 rfl))
theorem fuv2_41 (a b : Int) : fuYes [(9, 2), (100, 41)] (vi a) (vi b) = fuVc 9 2 a (fuVc 100 41 b (true = true)) := by kernel_rfl
theorem fuy2_41 {a b : Int} (h1 : wi a 9 = 2) (h2 : wi b 100 = 41) : fuYesF [(9, 2), (100, 41)] (vi a) (vi b) := fuYesF.of (fuv2_41 a b) (fuVc_ok (by omega) h1 (fuVc_ok (by omega) h2 rfl))
theorem fuv2_47 (a b : Int) : fuYes [(9, 2), (100, 47)] (vi a) (vi b) = fuVc 9 2 a (fuVc 100 47 b (true = true)) := by kernel_rfl
theorem fuy2_47 {a b : Int} (h1 : wi a 9 = 2) (h2 : wi b 100 = 47) : fuYesF [(9, 2), (100, 47)] (vi a) (vi b) := fuYesF.of (fuv2_47 a b) (fuVc_ok (by omega) h1 (fuVc_ok (by omega) h2 rfl))
theorem fuv2_53 (a b : Int) : fuYes [(9, 2), (100, 53)] (vi a) (vi b) = fuVc 9 2 a (fuVc 100 53 b (true = true)) := by kernel_rfl
theorem fuy2_53 {a b : Int} (h1 : wi a 9 = 2) (h2 : wi b 100 = 53) : fuYesF [(9, 2), (100, 53)] (vi a) (vi b) := fuYesF.of (fuv2_53 a b) (fuVc_ok (by omega) h1 (fuVc_ok (by omega) h2 rfl))
theorem fuv2_59 (a b : Int) : fuYes [(9, 2), (100, 59)] (vi a) (vi b) = fuVc 9 2 a (fuVc 100 59 b (true = true)) := by kernel_rfl
theorem fuy2_59 {a b : Int} (h1 : wi a 9 = 2) (h2 : wi b 100 = 59) : fuYesF [(9, 2), (100, 59)] (vi a) (vi b) := fuYesF.of (fuv2_59 a b) (fuVc_ok (by omega) h1 (fuVc_ok (by omega) h2 rfl))
theorem fuv2_65 (a b : Int) : fuYes [(9, 2), (100, 65)] (vi a) (vi b) = fuVc 9 2 a (fuVc 100 65 b (true = true)) := by kernel_rfl
theorem fuy2_65 {a b : Int} (h1 : wi a 9 = 2) (h2 : wi b 100 = 65) : fuYesF [(9, 2), (100, 65)] (vi a) (vi b) := fuYesF.of (fuv2_65 a b) (fuVc_ok (by omega) h1 (fuVc_ok (by omega) h2 rfl))
theorem fuv2_71 (a b : Int) : fuYes [(9, 2), (100, 71)] (vi a) (vi b) = fuVc 9 2 a (fuVc 100 71 b (true = true)) := by kernel_rfl
theorem fuy2_71 {a b : Int} (h1 : wi a 9 = 2) (h2 : wi b 100 = 71) : fuYesF [(9, 2), (100, 71)] (vi a) (vi b) := fuYesF.of (fuv2_71 a b) (fuVc_ok (by omega) h1 (fuVc_ok (by omega) h2 rfl))
theorem fuv2_77 (a b : Int) : fuYes [(9, 2), (100, 77)] (vi a) (vi b) = fuVc 9 2 a (fuVc 100 77 b (true = true)) := by kernel_rfl
theorem fuy2_77 {a b : Int} (h1 : wi a 9 = 2) (h2 : wi b 100 = 77) : fuYesF [(9, 2), (100, 77)] (vi a) (vi b) := fuYesF.of (fuv2_77 a b) (fuVc_ok (by omega) h1 (fuVc_ok (by omega) h2 rfl))
theorem fuv2_83 (a b : Int) : fuYes [(9, 2), (100, 83)] (vi a) (vi b) = fuVc 9 2 a (fuVc 100 83 b (true = true)) := by kernel_rfl
theorem fuy2_83 {a b : Int} (h1 : wi a 9 = 2) (h2 : wi b 100 = 83) : fuYesF [(9, 2), (100, 83)] (vi a) (vi b) := fuYesF.of (fuv2_83 a b) (fuVc_ok (by omega) h1 (fuVc_ok (by omega) h2 rfl))
theorem fuv2_89 (a b : Int) : fuYes [(9, 2), (100, 89)] (vi a) (vi b) = fuVc 9 2 a (fuVc 100 89 b (true = true)) := by kernel_rfl
theorem fuy2_89 {a b : Int} (h1 : wi a 9 = 2) (h2 : wi b 100 = 89) : fuYesF [(9, 2), (100, 89)] (vi a) (vi b) := fuYesF.of (fuv2_89 a b) (fuVc_ok (by omega) h1 (fuVc_ok (by omega) h2 rfl))
theorem fuv2_95 (a b : Int) : fuYes [(9, 2), (100, 95)] (vi a) (vi b) = fuVc 9 2 a (fuVc 100 95 b (true = true)) := by kernel_rfl
theorem fuy2_95 {a b : Int} (h1 : wi a 9 = 2) (h2 : wi b 100 = 95) : fuYesF [(9, 2), (100, 95)] (vi a) (vi b) := fuYesF.of (fuv2_95 a b) (fuVc_ok (by omega) h1 (fuVc_ok (by omega) h2 rfl))
theorem fuv6_1 (a b : Int) : fuYes [(9, 6), (5, 1)] (vi a) (vi b) = fuVc 9 6 a (fuVc 5 1 b (true = true)) := by kernel_rfl
theorem fuy6_1 {a b : Int} (h1 : wi a 9 = 6) (h2 : wi b 5 = 1) : fuYesF [(9, 6), (5, 1)] (vi a) (vi b) := fuYesF.of (fuv6_1 a b) (fuVc_ok (by omega) h1 (fuVc_ok (by omega) h2 rfl))
theorem fuv7_2 (a b : Int) : fuYes [(9, 7), (3, 2)] (vi a) (vi b) = fuVc 9 7 a (fuVc 3 2 b (true = true)) := by kernel_rfl
theorem fuy7_2 {a b : Int} (h1 : wi a 9 = 7) (h2 : wi b 3 = 2) : fuYesF [(9, 7), (3, 2)] (vi a) (vi b) := fuYesF.of (fuv7_2 a b) (fuVc_ok (by omega) h1 (fuVc_ok (by omega) h2 rfl))
end Go.Proofs.YtbcmfkognanjdaaGreatDoor
