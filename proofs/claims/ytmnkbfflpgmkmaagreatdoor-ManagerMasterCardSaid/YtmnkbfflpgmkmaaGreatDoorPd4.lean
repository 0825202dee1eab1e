/- ManagerMaster: classes, part 4: what is left to be shown. No conditions. -/
import Derived.Test.YtmnkbfflpgmkmaaGreatDoorPc
namespace Go.Proofs.YtmnkbfflpgmkmaaGreatDoor
open Go Go.W Go.Proofs
set_option maxRecDepth 100000
theorem ppv0_3 (a b : Int) : ppYes ppT0_3 0 3 a b = ppVc 0 3 a b := by kernel_rfl
theorem ppy0_3 {a b : Int} (h1 : wi a 20 = 0) (h2 : wi b 4 = 3) : ppYesF ppT0_3 0 3 a b := ppYesF.mk (Eq.mpr (ppv0_3 a b) (ppVc_ok h1 h2))
theorem ppv2_3 (a b : Int) : ppYes ppT2_3 2 3 a b = ppVc 2 3 a b := by kernel_rfl
theorem ppy2_3 {a b : Int} (h1 : wi a 20 = 2) (h2 : wi b 4 = 3) : ppYesF ppT2_3 2 3 a b := ppYesF.mk (Eq.mpr (ppv2_3 a b) (ppVc_ok h1 h2))
theorem ppv4_3 (a b : Int) : ppYes ppT4_3 4 3 a b = ppVc 4 3 a b := by kernel_rfl
theorem ppy4_3 {a b : Int} (h1 : wi a 20 = 4) (h2 : wi b 4 = 3) : ppYesF ppT4_3 4 3 a b := ppYesF.mk (Eq.mpr (ppv4_3 a b) (ppVc_ok h1 h2))
theorem ppv6_3 (a b : Int) : ppYes ppT6_3 6 3 a b = ppVc 6 3 a b := by kernel_rfl
theorem ppy6_3 {a b : Int} (h1 : wi a 20 = 6) (h2 : wi b 4 = 3) : ppYesF ppT6_3 6 3 a b := ppYesF.mk (Eq.mpr (ppv6_3 a b) (ppVc_ok h1 h2))
theorem ppv8_3 (a b : Int) : ppYes ppT8_3 8 3 a b = ppVc 8 3 a b := by kernel_rfl
theorem ppy8_3 {a b : Int} (h1 : wi a 20 = 8) (h2 : wi b 4 = 3) : ppYesF ppT8_3 8 3 a b := ppYesF.mk (Eq.mpr (ppv8_3 a b) (ppVc_ok h1 h2))
theorem ppv10_3 (a b : Int) : ppYes ppT10_3 10 3 a b = ppVc 10 3 a b := by kernel_rfl
theorem ppy10_3 {a b : Int} (h1 : wi a 20 = 10) (h2 : wi b 4 = 3) : ppYesF ppT10_3 10 3 a b := ppYesF.mk (Eq.mpr (ppv10_3 a b) (ppVc_ok h1 h2))
theorem ppv12_3 (a b : Int) : ppYes ppT12_3 12 3 a b = ppVc 12 3 a b := by kernel_rfl
theorem ppy12_3 {a b : Int} (h1 : wi a 20 = 12) (h2 : wi b 4 = 3) : ppYesF ppT12_3 12 3 a b := ppYesF.mk (Eq.mpr (ppv12_3 a b) (ppVc_ok h1 h2))
theorem ppv14_3 (a b : Int) : ppYes ppT14_3 14 3 a b = ppVc 14 3 a b := by kernel_rfl
theorem ppy14_3 {a b : Int} (h1 : wi a 20 = 14) (h2 : wi b 4 = 3) : ppYesF ppT14_3 14 3 a b := ppYesF.mk (Eq.mpr (ppv14_3 a b) (ppVc_ok h1 h2))
theorem ppv16_3 (a b : Int) : ppYes ppT16_3 16 3 a b = ppVc 16 3 a b := by kernel_rfl
theorem ppy16_3 {a b : Int} (h1 : wi a 20 = 16) (h2 : wi b 4 = 3) : ppYesF ppT16_3 16 3 a b := ppYesF.mk (Eq.mpr (ppv16_3 a b) (ppVc_ok h1 h2))
theorem ppv18_3 (a b : Int) : ppYes ppT18_3 18 3 a b = ppVc 18 3 a b := by kernel_rfl
theorem ppy18_3 {a b : Int} (h1 : wi a 20 = 18) (h2 : wi b 4 = 3) : ppYesF ppT18_3 18 3 a b := ppYesF.mk (Eq.mpr (ppv18_3 a b) (ppVc_ok h1 h2))
end Go.Proofs.YtmnkbfflpgmkmaaGreatDoor
