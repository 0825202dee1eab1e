/- ManagerMaster: classes, part 7: what is left to be shown. No conditions. -/
import Derived.Test.YtmnkbfflpgmkmaaGreatDoorPc
namespace Go.Proofs.YtmnkbfflpgmkmaaGreatDoor
open Go Go.W Go.Proofs
set_option maxRecDepth 100000
theorem ppv1_2 (a b : Int) : ppYes ppT1_2 1 2 a b = ppVc 1 2 a b := by kernel_rfl
theorem ppy1_2 {a b : Int} (h1 : wi a 20 = 1) (h2 : wi b 4 = 2) : ppYesF ppT1_2 1 2 a b := ppYesF.mk (Eq.mpr (ppv1_2 a b) (ppVc_ok h1 h2))
theorem ppv3_2 (a b : Int) : ppYes ppT3_2 3 2 a b = ppVc 3 2 a b := by kernel_rfl
theorem ppy3_2 {a b : Int} (h1 : wi a 20 = 3) (h2 : wi b 4 = 2) : ppYesF ppT3_2 3 2 a b := ppYesF.mk (Eq.mpr (ppv3_2 a b) (ppVc_ok h1 h2))
theorem ppv5_2 (a b : Int) : ppYes ppT5_2 5 2 a b = ppVc 5 2 a b := by kernel_rfl
theorem ppy5_2 {a b : Int} (h1 : wi a 20 = 5) (h2 : wi b 4 = 2) : ppYesF ppT5_2 5 2 a b := ppYesF.mk (Eq.mpr (ppv5_2 a b) (ppVc_ok h1 h2))
theorem ppv7_2 (a b : Int) : ppYes ppT7_2 7 2 a b = ppVc 7 2 a b := by kernel_rfl
theorem ppy7_2 {a b : Int} (h1 : wi a 20 = 7) (h2 : wi b 4 = 2) : ppYesF ppT7_2 7 2 a b := ppYesF.mk (Eq.mpr (ppv7_2 a b) (ppVc_ok h1 h2))
theorem ppv9_2 (a b : Int) : ppYes ppT9_2 9 2 a b = ppVc 9 2 a b := by kernel_rfl
theorem ppy9_2 {a b : Int} (h1 : wi a 20 = 9) (h2 : wi b 4 = 2) : ppYesF ppT9_2 9 2 a b := ppYesF.mk (Eq.mpr (ppv9_2 a b) (ppVc_ok h1 h2))
theorem ppv11_2 (a b : Int) : ppYes ppT11_2 11 2 a b = ppVc 11 2 a b := by kernel_rfl
theorem ppy11_2 {a b : Int} (h1 : wi a 20 = 11) (h2 : wi b 4 = 2) : ppYesF ppT11_2 11 2 a b := ppYesF.mk (Eq.mpr (ppv11_2 a b) (ppVc_ok h1 h2))
theorem ppv13_2 (a b : Int) : ppYes ppT13_2 13 2 a b = ppVc 13 2 a b := by kernel_rfl
theorem ppy13_2 {a b : Int} (h1 : wi a 20 = 13) (h2 : wi b 4 = 2) : ppYesF ppT13_2 13 2 a b := ppYesF.mk (Eq.mpr (ppv13_2 a b) (ppVc_ok h1 h2))
theorem ppv15_2 (a b : Int) : ppYes ppT15_2 15 2 a b = ppVc 15 2 a b := by kernel_rfl
theorem ppy15_2 {a b : Int} (h1 : wi a 20 = 15) (h2 : wi b 4 = 2) : ppYesF ppT15_2 15 2 a b := ppYesF.mk (Eq.mpr (ppv15_2 a b) (ppVc_ok h1 h2))
theorem ppv17_2 (a b : Int) : ppYes ppT17_2 17 2 a b = ppVc 17 2 a b := by kernel_rfl
theorem ppy17_2 {a b : Int} (h1 : wi a 20 = 17) (h2 : wi b 4 = 2) : ppYesF ppT17_2 17 2 a b := ppYesF.mk (Eq.mpr (ppv17_2 a b) (ppVc_ok h1 h2))
theorem ppv19_2 (a b : Int) : ppYes ppT19_2 19 2 a b = ppVc 19 2 a b := by kernel_rfl
theorem ppy19_2 {a b : Int} (h1 : wi a 20 = 19) (h2 : wi b 4 = 2) : ppYesF ppT19_2 19 2 a b := ppYesF.mk (Eq.mpr (ppv19_2 a b) (ppVc_ok h1 h2))
end Go.Proofs.YtmnkbfflpgmkmaaGreatDoor
