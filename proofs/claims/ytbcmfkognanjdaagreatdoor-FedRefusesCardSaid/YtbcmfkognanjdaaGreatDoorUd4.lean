/- FedRefuses: classes, part 4: what is left to be shown. No conditions. -/
import Derived.Test.YtbcmfkognanjdaaGreatDoorUc
namespace Go.Proofs.YtbcmfkognanjdaaGreatDoor
open Go Go.W Go.Proofs
set_option maxRecDepth 100000
theorem fuv5_0 (a b : Int) : fuYes [(9, 5)] (vi a) (vi b) = fuVc 9 5 a (true = true) := by kernel_rfl
theorem fuy5_0 {a b : Int} (h1 : wi a 9 = 5) : fuYesF [(9, 5)] (vi a) (vi b) := fuYesF.of (fuv5_0 a b) (fuVc_ok (by omega) h1 rfl)
theorem fuv1_5 (a b : Int) : fuYes [(9, 1), (100, 5)] (vi a) (vi b) = fuVc 9 1 a (fuVc 100 5 b (true = true)) := by kernel_rfl
theorem fuy1_5 {a b : Int} (h1 : wi a 9 = 1) (h2 : wi b 100 = 5) : fuYesF [(9, 1), (100, 5)] (vi a) (vi b) := fuYesF.of (fuv1_5 a b) (fuVc_ok (by omega) h1 (fuVc_ok (by omega) h2 rfl))
theorem fuv1_11 (a b : Int) : fuYes [(9, 1), (100, 11)] (vi a) (vi b) = fuVc 9 1 a (fuVc 100 11 b (true = true)) := by kernel_rfl
theorem fuy1_11 {a b : Int} (h1 : wi a 9 = 1) (h2 : wi b 100 = 11) : fuYesF [(9, 1), (100, 11)] (vi a) (vi b) := fuYesF.of (fuv1_11 a b) (fuVc_ok (by omega) h1 (fuVc_ok (by omega) h2 rfl))
theorem fuv1_17 (a b : Int) : fuYes [(9, 1), (100, 17)] (vi a) (vi b) = fuVc 9 1 a (fuVc 100 17 b (true = true)) := by kernel_rfl
theorem fuy1_17 {a b : Int} (h1 : wi a 9 = 1) (h2 : wi b 100 = 17) : fuYesF [(9, 1), (100, 17)] (vi a) (vi b) := fuYesF.of (fuv1_17 a b) (fuVc_ok (by omega) h1 (fuVc_ok (by omega) h2 rfl))
theorem fuv1_23 (a b : Int) : fuYes [(9, 1), (100, 23)] (vi a) (vi b) = fuVc 9 1 a (fuVc 100 23 b (true = true)) := by kernel_rfl
theorem fuy1_23 {a b : Int} (h1 : wi a 9 = 1) (h2 : wi b 100 = 23) : fuYesF [(9, 1), (100, 23)] (vi a) (vi b) := fuYesF.of (fuv1_23 a b) (fuVc_ok (by omega) h1 (fuVc_ok (by omega) h2 rfl))
theorem fuv1_29 (a b : Int) : fuYes [(9, 1), (100, 29)] (vi a) (vi b) = fuVc 9 1 a (fuVc 100 29 b (true = true)) := by kernel_rfl
theorem fuy1_29 {a b : Int} (h1 : wi a 9 = 1) (h2 : wi b 100 = 29) : fuYesF [(9, 1), (100, 29)] (vi a) (vi b) := fuYesF.of (fuv1_29 a b) (fuVc_ok (by omega) h1 (fuVc_ok (by omega) h2 rfl))
theorem fuv1_35 (a b : Int) : fuYes [(9, 1), (100, 35)] (vi a) (vi b) = fuVc 9 1 a (fuVc 100 35 b (true = true)) := by kernel_rfl
theorem fuy1_35 {a b : Int} (h1 : wi a 9 = 1) (h2 : wi b 100 = 35) : fuYesF [(9, 1), (100, 35)] (vi a) (vi b) := fuYesF.of (fuv1_35 a b) (fuVc_ok (by omega) h1 (fuVc_ok (by omega) h2 rfl))
theorem fuv1_41 (a b : Int) : fuYes [(9, 1), (100, 41)] (vi a) (vi b) = fuVc 9 1 a (fuVc 100 41 b (true = true)) := by kernel_rfl
theorem fuy1_41 {a b : Int} (h1 : wi a 9 = 1) (h2 : wi b 100 = 41) : fuYesF [(9, 1), (100, 41)] (vi a) (vi b) := fuYesF.of (fuv1_41 a b) (fuVc_ok (by omega) h1 (fuVc_ok (by omega) h2 rfl))
theorem fuv1_47 (a b : Int) : fuYes [(9, 1), (100, 47)] (vi a) (vi b) = fuVc 9 1 a (fuVc 100 47 b (true = true)) := by kernel_rfl
theorem fuy1_47 {a b : Int} (h1 : wi a 9 = 1) (h2 : wi b 100 = 47) : fuYesF [(9, 1), (100, 47)] (vi a) (vi b) := fuYesF.of (fuv1_47 a b) (fuVc_ok (by omega) h1 (fuVc_ok (by omega) h2 rfl))
theorem fuv1_53 (a b : Int) : fuYes [(9, 1), (100, 53)] (vi a) (vi b) = fuVc 9 1 a (fuVc 100 53 b (true = true)) := by kernel_rfl
theorem fuy1_53 {a b : Int} (h1 : wi a 9 = 1) (h2 : wi b 100 = 53) : fuYesF [(9, 1), (100, 53)] (vi a) (vi b) := fuYesF.of (fuv1_53 a b) (fuVc_ok (by omega) h1 (fuVc_ok (by omega) h2 rfl))
theorem fuv1_59 (a b : Int) : fuYes [(9, 1), (100, 59)] (vi a) (vi b) = fuVc 9 1 a (fuVc 100 59 b (true = true)) := by kernel_rfl
theorem fuy1_59 {a b : Int} (h1 : wi a 9 = 1) (h2 : wi b 100 = 59) : fuYesF [(9, 1), (100, 59)] (vi a) (vi b) := fuYesF.of (fuv1_59 a b) (fuVc_ok (by omega) h1 (fuVc_ok (by omega) h2 rfl))
theorem fuv1_65 (a b : Int) : fuYes [(9, 1), (100, 65)] (vi a) (vi b) = fuVc 9 1 a (fuVc 100 65 b (true = true)) := by kernel_rfl
theorem fuy1_65 {a b : Int} (h1 : wi a 9 = 1) (h2 : wi b 100 = 65) : fuYesF [(9, 1), (100, 65)] (vi a) (vi b) := fuYesF.of (fuv1_65 a b) (fuVc_ok (by omega) h1 (fuVc_ok (by omega) h2 rfl))
theorem fuv1_71 (a b : Int) : fuYes [(9, 1), (100, 71)] (vi a) (vi b) = fuVc 9 1 a (fuVc 100 71 b (true = true)) := by kernel_rfl
theorem fuy1_71 {a b : Int} (h1 : wi a 9 = 1) (h2 : wi b 100 = 71) : fuYesF [(9, 1), (100, 71)] (vi a) (vi b) := fuYesF.of (fuv1_71 a b) (fuVc_ok (by omega) h1 (fuVc_ok (by omega) h2 rfl))
theorem fuv1_77 (a b : Int) : fuYes [(9, 1), (100, 77)] (vi a) (vi b) = fuVc 9 1 a (fuVc 100 77 b (true = true)) := by kernel_rfl
theorem fuy1_77 {a b : Int} (h1 : wi a 9 = 1) (h2 : wi b 100 = 77) : fuYesF [(9, 1), (100, 77)] (vi a) (vi b) := fuYesF.of (fuv1_77 a b) (fuVc_ok (by omega) h1 (fuVc_ok (by omega) h2 rfl))
theorem fuv1_83 (a b : Int) : fuYes [(9, 1), (100, 83)] (vi a) (vi b) = fuVc 9 1 a (fuVc 100 83 b (true = true)) := by kernel_rfl
theorem fuy1_83 {a b : Int} (h1 : wi a 9 = 1) (h2 : wi b 100 = 83) : fuYesF [(9, 1), (100, 83)] (vi a) (vi b) := fuYesF.of (fuv1_83 a b) (fuVc_ok (by omega) h1 (fuVc_ok (by omega) h2 rfl))
theorem fuv1_89 (a b : Int) : fuYes [(9, 1), (100, 89)] (vi a) (vi b) = fuVc 9 1 a (fuVc 100 89 b (true = true)) := by kernel_rfl
theorem fuy1_89 {a b : Int} (h1 : wi a 9 = 1) (h2 : wi b 100 = 89) : fuYesF [(9, 1), (100, 89)] (vi a) (vi b) := fuYesF.of (fuv1_89 a b) (fuVc_ok (by omega) h1 (fuVc_ok (by omega) h2 rfl))
theorem fuv1_95 (a b : Int) : fuYes [(9, 1), (100, 95)] (vi a) (vi b) = fuVc 9 1 a (fuVc 100 95 b (true = true)) := by kernel_rfl
theorem fuy1_95 {a b : Int} (h1 : wi a 9 = 1) (h2 : wi b 100 = 95) : fuYesF [(9, 1), (100, 95)] (vi a) (vi b) := fuYesF.of (fuv1_95 a b) (fuVc_ok (by omega) h1 (fuVc_ok (by omega) h2 rfl))
theorem fuv2_1 (a b : Int) : fuYes [(9, 2), (100, 1)] (vi a) (vi b) = fuVc 9 2 a (fuVc 100 1 b (true = true)) := by kernel_rfl
theorem fuy2_1 {a b : Int} (h1 : wi a 9 = 2) (h2 : wi b 100 = 1) : fuYesF [(9, 2), (100, 1)] (vi a) (vi b) := fuYesF.of (fuv2_1 a b) (fuVc_ok (by omega) h1 (fuVc_ok (by omega) h2 rfl))
theorem fuv2_7 (a b : Int) : fuYes [(9, 2), (100, 7)] (vi a) (vi b) = fuVc 9 2 a (fuVc 100 7 b (true = true)) := by kernel_rfl
theorem fuy2_7 {a b : Int} (h1 : wi a 9 = 2) (h2 : wi b 100 = 7) : fuYesF [(9, 2), (100, 7)] (vi a) (vi b) := fuYesF.of (fuv2_7 a b) (fuVc_ok (by omega) h1 (fuVc_ok (by omega) h2 rfl))
theorem fuv2_13 (a b : Int) : fuYes [(9, 2), (100, 13)] (vi a) (vi b) = fuVc 9 2 a (fuVc 100 13 b (true = true)) := by kernel_rfl
theorem fuy2_13 {a b : Int} (h1 : wi a 9 = 2) (h2 : wi b 100 = 13) : fuYesF [(9, 2), (100, 13)] (vi a) (vi b) := fuYesF.of (fuv2_13 a b) (fuVc_ok (by omega) h1 (fuVc_ok (by omega) h2 rfl))
theorem fuv2_19 (a b : Int) : fuYes [(9, 2), (100, 19)] (vi a) (vi b) = fuVc 9 2 a (fuVc 100 19 b (true = true)) := by kernel_rfl
theorem fuy2_19 {a b : Int} (h1 : wi a 9 = 2) (h2 : wi b 100 = 19) : fuYesF [(9, 2), (100, 19)] (vi a) (vi b) := fuYesF.of (fuv2_19 a b) (fuVc_ok (by omega) h1 (fuVc_ok (by omega) h2 rfl))
theorem fuv2_25 (a b : Int) : fuYes [(9, 2), (100, 25)] (vi a) (vi b) = fuVc 9 2 a (fuVc 100 25 b (true = true)) := by kernel_rfl
theorem fuy2_25 {a b : Int} (h1 : wi a 9 = 2) (h2 : wi b 100 = 25) : fuYesF [(9, 2), (100, 25)] (vi a) (vi b) := fuYesF.of (fuv2_25 a b) (fuVc_ok (by omega) h1 (fuVc_ok (by omega) h2 rfl))
theorem fuv2_31 (a b : Int) : fuYes [(9, 2), (100, 31)] (vi a) (vi b) = fuVc 9 2 a (fuVc 100 31 b (true = true)) := by kernel_rfl
theorem fuy2_31 {a b : Int} (h1 : wi a 9 = 2) (h2 : wi b 100 = 31) : fuYesF [(9, 2), (100, 31)] (vi a) (vi b) := fuYesF.of (fuv2_31 a b) (fuVc_ok (by omega) h1 (fuVc_ok (by omega) h2 rfl))
theorem fuv2_37 (a b : Int) : fuYes [(9, 2), (100, 37)] (vi a) (vi b) = fuVc 9 2 a (fuVc 100 37 b (true = true)) := by kernel_rfl
theorem fuy2_37 {a b : Int} (h1 : wi a 9 = 2) (h2 : wi b 100 = 37) : fuYesF [(9, 2), (100, 37)] (vi a) (vi b) := fuYesF.of (fuv2_37 a b) (fuVc_ok (by omega) h1 (fuVc_ok (by omega) h2 rfl))
theorem fuv2_43 (a b : Int) : fuYes [(9, 2), (100, 43)] (vi a) (vi b) = fuVc 9 2 a (fuVc 100 43 b (true = true)) := by kernel_rfl
theorem fuy2_43 {a b : Int} (h1 : wi a 9 = 2) (h2 : wi b 100 = 43) : fuYesF [(9, 2), (100, 43)] (vi a) (vi b) := fuYesF.of (fuv2_43 a b) (fuVc_ok (by omega) h1 (fuVc_ok (by omega) h2 rfl))
theorem fuv2_49 (a b : Int) : fuYes [(9, 2), (100, 49)] (vi a) (vi b) = fuVc 9 2 a (fuVc 100 49 b (true = true)) := by kernel_rfl
theorem fuy2_49 {a b : Int} (h1 : wi a 9 = 2) (h2 : wi b 100 = 49) : fuYesF [(9, 2), (100, 49)] (vi a) (vi b) := fuYesF.of (fuv2_49 a b) (fuVc_ok (by omega) h1 (fuVc_ok (by omega) h2 rfl))
theorem fuv2_55 (a b : Int) : fuYes [(9, 2), (100, 55)] (vi a) (vi b) = fuVc 9 2 a (fuVc 100 55 b (true = true)) := by kernel_rfl
theorem fuy2_55 {a b : Int} (h1 : wi a 9 = 2) (h2 : wi b 100 = 55) : fuYesF [(9, 2), (100, 55)] (vi a) (vi b) := fuYesF.of (fuv2_55 a b) (fuVc_ok (by omega) h1 (fuVc_ok (by omega) h2 rfl))
theorem fuv2_61 (a b : Int) : fuYes [(9, 2), (100, 61)] (vi a) (vi b) = fuVc 9 2 a (fuVc 100 61 b (true = true)) := by kernel_rfl
theorem fuy2_61 {a b : Int} (h1 : wi a 9 = 2) (h2 : wi b 100 = 61) : fuYesF [(9, 2), (100, 61)] (vi a) (vi b) := fuYesF.of (fuv2_61 a b) (fuVc_ok (by omega) h1 (fuVc_ok (by omega) h2 rfl))
theorem fuv2_67 (a b : Int) : fuYes [(9, 2), (100, 67)] (vi a) (vi b) = fuVc 9 2 a (fuVc 100 67 b (true = true)) := by kernel_rfl
theorem fuy2_67 {a b : Int} (h1 : wi a 9 = 2) (h2 : wi b 100 = 67) : fuYesF [(9, 2), (100, 67)] (vi a) (vi b) := fuYesF.of (fuv2_67 a b) (fuVc_ok (by omega) h1 (fuVc_ok (by omega) h2 rfl))
theorem fuv2_73 (a b : Int) : fuYes [(9, 2), (100, 73)] (vi a) (vi b) = fuVc 9 2 a (fuVc 100 73 b (true = true)) := by kernel_rfl
theorem fuy2_73 {a b : Int} (h1 : wi a 9 = 2) (h2 : wi b 100 = 73) : fuYesF [(9, 2), (100, 73)] (vi a) (vi b) := fuYesF.of (fuv2_73 a b) (fuVc_ok (by omega) h1 (fuVc_ok (by omega) h2 rfl))
theorem fuv2_79 (a b : Int) : fuYes [(9, 2), (100, 79)] (vi a) (vi b) = fuVc 9 2 a (fuVc 100 79 b (true = true)) := by kernel_rfl
theorem fuy2_79 {a b : Int} (h1 : wi a 9 = 2) (h2 : wi b 100 = 79) : fuYesF [(9, 2), (100, 79)] (vi a) (vi b) := fuYesF.of (fuv2_79 a b) (fuVc_ok (by omega) h1 (fuVc_ok (by omega) h2 rfl))
theorem fuv2_85 (a b : Int) : fuYes [(9, 2), (100, 85)] (vi a) (vi b) = fuVc 9 2 a (fuVc 100 85 b (true = true)) := by kernel_rfl
theorem fuy2_85 {a b : Int} (h1 : wi a 9 = 2) (h2 : wi b 100 = 85) : fuYesF [(9, 2), (100, 85)] (vi a) (vi b) := fuYesF.of (fuv2_85 a b) (fuVc_ok (by omega) h1 (fuVc_ok (by omega) h2 rfl))
theorem fuv2_91 (a b : Int) : fuYes [(9, 2), (100, 91)] (vi a) (vi b) = fuVc 9 2 a (fuVc 100 91 b (true = true)) := by kernel_rfl
theorem fuy2_91 {a b : Int} (h1 : wi a 9 = 2) (h2 : wi b 100 = 91) : fuYesF [(9, 2), (100, 91)] (vi a) (vi b) := fuYesF.of (fuv2_91 a b) (fuVc_ok (by omega) h1 (fuVc_ok (by omega) h2 rfl))
theorem fuv2_97 (a b : Int) : fuYes [(9, 2), (100, 97)] (vi a) (vi b) = fuVc 9 2 a (fuVc 100 97 b (true = true)) := by kernel_rfl
theorem fuy2_97 {a b : Int} (h1 : wi a 9 = 2) (h2 : wi b 100 = 97) : fuYesF [(9, 2), (100, 97)] (vi a) (vi b) := fuYesF.of (fuv2_97 a b) (fuVc_ok (by omega) h1 (fuVc_ok (by omega) h2 rfl))
theorem fuv6_3 (a b : Int) : fuYes [(9, 6), (5, 3)] (vi a) (vi b) = fuVc 9 6 a (fuVc 5 3 b (true = true)) := by kernel_rfl
theorem fuy6_3 {a b : Int} (h1 : wi a 9 = 6) (h2 : wi b 5 = 3) : fuYesF [(9, 6), (5, 3)] (vi a) (vi b) := fuYesF.of (fuv6_3 a b) (fuVc_ok (by omega) h1 (fuVc_ok (by omega) h2 rfl))
theorem fuv8_1 (a b : Int) : fuYes [(9, 8), (3, 1)] (vi a) (vi b) = fuVc 9 8 a (fuVc 3 1 b (true = true)) := by kernel_rfl
theorem fuy8_1 {a b : Int} (h1 : wi a 9 = 8) (h2 : wi b 3 = 1) : fuYesF [(9, 8), (3, 1)] (vi a) (vi b) := fuYesF.of (fuv8_1 a b) (fuVc_ok (by omega) h1 (fuVc_ok (by omega) h2 rfl))
end Go.Proofs.YtbcmfkognanjdaaGreatDoor
