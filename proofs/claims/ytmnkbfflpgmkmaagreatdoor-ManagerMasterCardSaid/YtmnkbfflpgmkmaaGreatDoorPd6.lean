/- ManagerMaster: classes, part 6: what is left to be shown. No conditions. -/
import Derived.Test.YtmnkbfflpgmkmaaGreatDoorPc
namespace Go.Proofs.YtmnkbfflpgmkmaaGreatDoor
open Go Go.W Go.Proofs
set_option maxRecDepth 100000
theorem ppv1_1 (a b : Int) : ppYes ppT1_1 1 1 a b = ppVc 1 1 a b := by kernel_rfl
theorem ppy1_1 {a b : Int} (h1 : wi a 20 = 1) (h2 : wi b 4 = 1) : ppYesF ppT1_1 1 1 a b := ppYesF.mk (Eq.mpr (ppv1_1 a b) (ppVc_ok h1 h2))
theorem ppv3_1 (a b : Int) : ppYes ppT3_1 3 1 a b = ppVc 3 1 a b := by kernel_rfl
theorem ppy3_1 {a b : Int} (h1 : wi a 20 = 3) (h2 : wi b 4 = 1) : ppYesF ppT3_1 3 1 a b := ppYesF.mk (Eq.mpr (ppv3_1 a b) (ppVc_ok h1 h2))
theorem ppv5_1 (a b : Int) : ppYes ppT5_1 5 1 a b = ppVc 5 1 a b := by kernel_rfl
theorem ppy5_1 {a b : Int} (h1 : wi a 20 = 5) (h2 : wi b 4 = 1) : ppYesF ppT5_1 5 1 a b := ppYesF.mk (Eq.mpr (ppv5_1 a b) (ppVc_ok h1 h2))
theorem ppv7_1 (a b : Int) : ppYes ppT7_1 7 1 a b = ppVc 7 1 a b := by kernel_rfl
theorem ppy7_1 {a b : Int} (h1 : wi a 20 = 7) (h2 : wi b 4 = 1) : ppYesF ppT7_1 7 1 a b := ppYesF.mk (Eq.mpr (ppv7_1 a b) (ppVc_ok h1 h2))
theorem ppv9_1 (a b : Int) : ppYes ppT9_1 9 1 a b = ppVc 9 1 a b := by kernel_rfl
theorem ppy9_1 {a b : Int} (h1 : wi a 20 = 9) (h2 : wi b 4 = 1) : ppYesF ppT9_1 9 1 a b := ppYesF.mk (Eq.mpr (ppv9_1 a b) (ppVc_ok h1 h2))
theorem ppv11_1 (a b : Int) : ppYes ppT11_1 11 1 a b = ppVc 11 1 a b := by kernel_rfl
theorem ppy11_1 {a b : Int} (h1 : wi a 20 = 11) (h2 : wi b 4 = 1) : ppYesF ppT11_1 11 1 a b := ppYesF.mk (Eq.mpr (ppv11_1 a b) (ppVc_ok h1 h2))
theorem ppv13_1 (a b : Int) : ppYes ppT13_1 13 1 a b = ppVc 13 1 a b := by kernel_rfl
theorem ppy13_1 {a b : Int} (h1 : wi a 20 = 13) (h2 : wi b 4 = 1) : ppYesF ppT13_1 13 1 a b := ppYesF.mk (Eq.mpr (ppv13_1 a b) (ppVc_ok h1 h2))
theorem ppv15_1 (a b : Int) : ppYes ppT15_1 15 1 a b = ppVc 15 1 a b := by kernel_rfl
theorem ppy15_1 {a b : Int} (h1 : wi a 20 = 15) (h2 : wi b 4 = 1) : ppYesF ppT15_1 15 1 a b := ppYesF.mk (Eq.mpr (ppv15_1 a b) (ppVc_ok h1 h2))
theorem ppv17_1 (a b : Int) : ppYes ppT17_1 17 1 a b = ppVc 17 1 a b := by kernel_rfl
theorem ppy17_1 {a b : Int} (h1 : wi a 20 = 17) (h2 : wi b 4 = 1) : ppYesF ppT17_1 17 1 a b := ppYesF.mk (Eq.mpr (ppv17_1 a b) (ppVc_ok h1 h2))
theorem ppv19_1 (a b : Int) : ppYes ppT19_1 19 1 a b = ppVc 19 1 a b := by kernel_rfl
theorem ppy19_1 {a b : Int} (h1 : wi a 20 = 19) (h2 : wi b 4 = 1) : ppYesF ppT19_1 19 1 a b := ppYesF.mk (Eq.mpr (ppv19_1 a b) (ppVc_ok h1 h2))
end Go.Proofs.YtmnkbfflpgmkmaaGreatDoor
