/- ManagerMaster: classes, part 5: what is left to be shown. No conditions. -/
import Derived.Test.YtmnkbfflpgmkmaaGreatDoorPc
namespace Go.Proofs.YtmnkbfflpgmkmaaGreatDoor
open Go Go.W Go.Proofs
set_option maxRecDepth 100000
theorem ppv1_0 (a b : Int) : ppYes ppT1_0 1 0 a b = ppVc 1 0 a b := by kernel_rfl
theorem ppy1_0 {a b : Int} (h1 : wi a 20 = 1) (h2 : wi b 4 = 0) : ppYesF ppT1_0 1 0 a b := ppYesF.mk (Eq.mpr (ppv1_0 a b) (ppVc_ok h1 h2))
theorem ppv3_0 (a b : Int) : ppYes ppT3_0 3 0 a b = ppVc 3 0 a b := by kernel_rfl
theorem ppy3_0 {a b : Int} (h1 : wi a 20 = 3) (h2 : wi b 4 = 0) : ppYesF ppT3_0 3 0 a b := ppYesF.mk (Eq.mpr (ppv3_0 a b) (ppVc_ok h1 h2))
theorem ppv5_0 (a b : Int) : ppYes ppT5_0 5 0 a b = ppVc 5 0 a b := by kernel_rfl
theorem ppy5_0 {a b : Int} (h1 : wi a 20 = 5) (h2 : wi b 4 = 0) : ppYesF ppT5_0 5 0 a b := ppYesF.mk (Eq.mpr (ppv5_0 a b) (ppVc_ok h1 h2))
theorem ppv7_0 (a b : Int) : ppYes ppT7_0 7 0 a b = ppVc 7 0 a b := by kernel_rfl
theorem ppy7_0 {a b : Int} (h1 : wi a 20 = 7) (h2 : wi b 4 = 0) : ppYesF ppT7_0 7 0 a b := ppYesF.mk (Eq.mpr (ppv7_0 a b) (ppVc_ok h1 h2))
theorem ppv9_0 (a b : Int) : ppYes ppT9_0 9 0 a b = ppVc 9 0 a b := by kernel_rfl
theorem ppy9_0 {a b : Int} (h1 : wi a 20 = 9) (h2 : wi b 4 = 0) : ppYesF ppT9_0 9 0 a b := ppYesF.mk (Eq.mpr (ppv9_0 a b) (ppVc_ok h1 h2))
theorem ppv11_0 (a b : Int) : ppYes ppT11_0 11 0 a b = ppVc 11 0 a b := by kernel_rfl
theorem ppy11_0 {a b : Int} (h1 : wi a 20 = 11) (h2 : wi b 4 = 0) : ppYesF ppT11_0 11 0 a b := ppYesF.mk (Eq.mpr (ppv11_0 a b) (ppVc_ok h1 h2))
theorem ppv13_0 (a b : Int) : ppYes ppT13_0 13 0 a b = ppVc 13 0 a b := by kernel_rfl
theorem ppy13_0 {a b : Int} (h1 : wi a 20 = 13) (h2 : wi b 4 = 0) : ppYesF ppT13_0 13 0 a b := ppYesF.mk (Eq.mpr (ppv13_0 a b) (ppVc_ok h1 h2))
theorem ppv15_0 (a b : Int) : ppYes ppT15_0 15 0 a b = ppVc 15 0 a b := by kernel_rfl
theorem ppy15_0 {a b : Int} (h1 : wi a 20 = 15) (h2 : wi b 4 = 0) : ppYesF ppT15_0 15 0 a b := ppYesF.mk (Eq.mpr (ppv15_0 a b) (ppVc_ok h1 h2))
theorem ppv17_0 (a b : Int) : ppYes ppT17_0 17 0 a b = ppVc 17 0 a b := by kernel_rfl
theorem ppy17_0 {a b : Int} (h1 : wi a 20 = 17) (h2 : wi b 4 = 0) : ppYesF ppT17_0 17 0 a b := ppYesF.mk (Eq.mpr (ppv17_0 a b) (ppVc_ok h1 h2))
theorem ppv19_0 (a b : Int) : ppYes ppT19_0 19 0 a b = ppVc 19 0 a b := by kernel_rfl
theorem ppy19_0 {a b : Int} (h1 : wi a 20 = 19) (h2 : wi b 4 = 0) : ppYesF ppT19_0 19 0 a b := ppYesF.mk (Eq.mpr (ppv19_0 a b) (ppVc_ok h1 h2))
end Go.Proofs.YtmnkbfflpgmkmaaGreatDoor
