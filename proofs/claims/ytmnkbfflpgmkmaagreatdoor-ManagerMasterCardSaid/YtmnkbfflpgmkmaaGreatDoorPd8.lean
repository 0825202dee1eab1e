/- ManagerMaster: classes, part 8: what is left to be shown. No conditions. -/
import Derived.Test.YtmnkbfflpgmkmaaGreatDoorPc
namespace Go.Proofs.YtmnkbfflpgmkmaaGreatDoor
open Go Go.W Go.Proofs
set_option maxRecDepth 100000
theorem ppv1_3 (a b : Int) : ppYes ppT1_3 1 3 a b = ppVc 1 3 a b := by kernel_rfl
theorem ppy1_3 {a b : Int} (h1 : wi a 20 = 1) (h2 : wi b 4 = 3) : ppYesF ppT1_3 1 3 a b := ppYesF.mk (Eq.mpr (ppv1_3 a b) (ppVc_ok h1 h2))
theorem ppv3_3 (a b : Int) : ppYes ppT3_3 3 3 a b = ppVc 3 3 a b := by kernel_rfl
theorem ppy3_3 {a b : Int} (h1 : wi a 20 = 3) (h2 : wi b 4 = 3) : ppYesF ppT3_3 3 3 a b := ppYesF.mk (Eq.mpr (ppv3_3 a b) (ppVc_ok h1 h2))
theorem ppv5_3 (a b : Int) : ppYes ppT5_3 5 3 a b = ppVc 5 3 a b := by kernel_rfl
theorem ppy5_3 {a b : Int} (h1 : wi a 20 = 5) (h2 : wi b 4 = 3) : ppYesF ppT5_3 5 3 a b := ppYesF.mk (Eq.mpr (ppv5_3 a b) (ppVc_ok h1 h2))
theorem ppv7_3 (a b : Int) : ppYes ppT7_3 7 3 a b = ppVc 7 3 a b := by kernel_rfl
theorem ppy7_3 {a b : Int} (h1 : wi a 20 = 7) (h2 : wi b 4 = 3) : ppYesF ppT7_3 7 3 a b := ppYesF.mk (Eq.mpr (ppv7_3 a b) (ppVc_ok h1 h2))
theorem ppv9_3 (a b : Int) : ppYes ppT9_3 9 3 a b = ppVc 9 3 a b := by kernel_rfl
theorem ppy9_3 {a b : Int} (h1 : wi a 20 = 9) (h2 : wi b 4 = 3) : ppYesF ppT9_3 9 3 a b := ppYesF.mk (Eq.mpr (ppv9_3 a b) (ppVc_ok h1 h2))
theorem ppv11_3 (a b : Int) : ppYes ppT11_3 11 3 a b = ppVc 11 3 a b := by kernel_rfl
theorem ppy11_3 {a b : Int} (h1 : wi a 20 = 11) (h2 : wi b 4 = 3) : ppYesF ppT11_3 11 3 a b := ppYesF.mk (Eq.mpr (ppv11_3 a b) (ppVc_ok h1 h2))
theorem ppv13_3 (a b : Int) : ppYes ppT13_3 13 3 a b = ppVc 13 3 a b := by kernel_rfl
theorem ppy13_3 {a b : Int} (h1 : wi a 20 = 13) (h2 : wi b 4 = 3) : ppYesF ppT13_3 13 3 a b := ppYesF.mk (Eq.mpr (ppv13_3 a b) (ppVc_ok h1 h2))
theorem ppv15_3 (a b : Int) : ppYes ppT15_3 15 3 a b = ppVc 15 3 a b := by kernel_rfl
theorem ppy15_3 {a b : Int} (h1 : wi a 20 = 15) (h2 : wi b 4 = 3) : ppYesF ppT15_3 15 3 a b := ppYesF.mk (Eq.mpr (ppv15_3 a b) (ppVc_ok h1 h2))
theorem ppv17_3 (a b : Int) : ppYes ppT17_3 17 3 a b = ppVc 17 3 a b := by kernel_rfl
theorem ppy17_3 {a b : Int} (h1 : wi a 20 = 17) (h2 : wi b 4 = 3) : ppYesF ppT17_3 17 3 a b := ppYesF.mk (Eq.mpr (ppv17_3 a b) (ppVc_ok h1 h2))
theorem ppv19_3 (a b : Int) : ppYes ppT19_3 19 3 a b = ppVc 19 3 a b := by kernel_rfl
theorem ppy19_3 {a b : Int} (h1 : wi a 20 = 19) (h2 : wi b 4 = 3) : ppYesF ppT19_3 19 3 a b := ppYesF.mk (Eq.mpr (ppv19_3 a b) (ppVc_ok h1 h2))
end Go.Proofs.YtmnkbfflpgmkmaaGreatDoor
