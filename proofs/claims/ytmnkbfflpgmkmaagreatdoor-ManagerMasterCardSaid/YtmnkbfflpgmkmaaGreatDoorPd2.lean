/- ManagerMaster: classes, part 2: what is left to be shown. No conditions. -/
import Derived.Test.YtmnkbfflpgmkmaaGreatDoorPc
namespace Go.Proofs.YtmnkbfflpgmkmaaGreatDoor
open Go Go.W Go.Proofs
set_option maxRecDepth 100000
theorem ppv0_1 (a b : Int) : ppYes ppT0_1 0 1 a b = ppVc 0 1 a b := by kernel_rfl
theorem ppy0_1 {a b : Int} (h1 : wi a 20 = 0) (h2 : wi b 4 = 1) : ppYesF ppT0_1 0 1 a b := ppYesF.mk (Eq.mpr (ppv0_1 a b) (ppVc_ok h1 h2))
theorem ppv2_1 (a b : Int) : ppYes ppT2_1 2 1 a b = ppVc 2 1 a b := by kernel_rfl
theorem ppy2_1 {a b : Int} (h1 : wi a 20 = 2) (h2 : wi b 4 = 1) : ppYesF ppT2_1 2 1 a b := ppYesF.mk (Eq.mpr (ppv2_1 a b) (ppVc_ok h1 h2))
theorem ppv4_1 (a b : Int) : ppYes ppT4_1 4 1 a b = ppVc 4 1 a b := by kernel_rfl
theorem ppy4_1 {a b : Int} (h1 : wi a 20 = 4) (h2 : wi b 4 = 1) : ppYesF ppT4_1 4 1 a b := ppYesF.mk (Eq.mpr (ppv4_1 a b) (ppVc_ok h1 h2))
theorem ppv6_1 (a b : Int) : ppYes ppT6_1 6 1 a b = ppVc 6 1 a b := by kernel_rfl
theorem ppy6_1 {a b : Int} (h1 : wi a 20 = 6) (h2 : wi b 4 = 1) : ppYesF ppT6_1 6 1 a b := ppYesF.mk (Eq.mpr (ppv6_1 a b) (ppVc_ok h1 h2))
theorem ppv8_1 (a b : Int) : ppYes ppT8_1 8 1 a b = ppVc 8 1 a b := by kernel_rfl
theorem ppy8_1 {a b : Int} (h1 : wi a 20 = 8) (h2 : wi b 4 = 1) : ppYesF ppT8_1 8 1 a b := ppYesF.mk (Eq.mpr (ppv8_1 a b) (ppVc_ok h1 h2))
theorem ppv10_1 (a b : Int) : ppYes ppT10_1 10 1 a b = ppVc 10 1 a b := by kernel_rfl
theorem ppy10_1 {a b : Int} (h1 : wi a 20 = 10) (h2 : wi b 4 = 1) : ppYesF ppT10_1 10 1 a b := ppYesF.mk (Eq.mpr (ppv10_1 a b) (ppVc_ok h1 h2))
theorem ppv12_1 (a b : Int) : ppYes ppT12_1 12 1 a b = ppVc 12 1 a b := by kernel_rfl
theorem ppy12_1 {a b : Int} (h1 : wi a 20 = 12) (h2 : wi b 4 = 1) : ppYesF ppT12_1 12 1 a b := ppYesF.mk (Eq.mpr (ppv12_1 a b) (ppVc_ok h1 h2))
theorem ppv14_1 (a b : Int) : ppYes ppT14_1 14 1 a b = ppVc 14 1 a b := by kernel_rfl
theorem ppy14_1 {a b : Int} (h1 : wi a 20 = 14) (h2 : wi b 4 = 1) : ppYesF ppT14_1 14 1 a b := ppYesF.mk (Eq.mpr (ppv14_1 a b) (ppVc_ok h1 h2))
theorem ppv16_1 (a b : Int) : ppYes ppT16_1 16 1 a b = ppVc 16 1 a b := by kernel_rfl
theorem ppy16_1 {a b : Int} (h1 : wi a 20 = 16) (h2 : wi b 4 = 1) : ppYesF ppT16_1 16 1 a b := ppYesF.mk (Eq.mpr (ppv16_1 a b) (ppVc_ok h1 h2))
theorem ppv18_1 (a b : Int) : ppYes ppT18_1 18 1 a b = ppVc 18 1 a b := by kernel_rfl
theorem ppy18_1 {a b : Int} (h1 : wi a 20 = 18) (h2 : wi b 4 = 1) : ppYesF ppT18_1 18 1 a b := ppYesF.mk (Eq.mpr (ppv18_1 a b) (ppVc_ok h1 h2))
end Go.Proofs.YtmnkbfflpgmkmaaGreatDoor
