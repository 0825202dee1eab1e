/- ManagerMaster: classes, part 3: what is left to be shown. No conditions. -/
import Derived.Test.YtmnkbfflpgmkmaaGreatDoorPc
namespace Go.Proofs.YtmnkbfflpgmkmaaGreatDoor
open Go Go.W Go.Proofs
set_option maxRecDepth 100000
theorem ppv0_2 (a b : Int) : ppYes ppT0_2 0 2 a b = ppVc 0 2 a b := by kernel_rfl
theorem ppy0_2 {a b : Int} (h1 : wi a 20 = 0) (h2 : wi b 4 = 2) : ppYesF ppT0_2 0 2 a b := ppYesF.mk (Eq.mpr (ppv0_2 a b) (ppVc_ok h1 h2))
theorem ppv2_2 (a b : Int) : ppYes ppT2_2 2 2 a b = ppVc 2 2 a b := by kernel_rfl
theorem ppy2_2 {a b : Int} (h1 : wi a 20 = 2) (h2 : wi b 4 = 2) : ppYesF ppT2_2 2 2 a b := ppYesF.mk (Eq.mpr (ppv2_2 a b) (ppVc_ok h1 h2))
theorem ppv4_2 (a b : Int) : ppYes ppT4_2 4 2 a b = ppVc 4 2 a b := by kernel_rfl
theorem ppy4_2 {a b : Int} (h1 : wi a 20 = 4) (h2 : wi b 4 = 2) : ppYesF ppT4_2 4 2 a b := ppYesF.mk (Eq.mpr (ppv4_2 a b) (ppVc_ok h1 h2))
theorem ppv6_2 (a b : Int) : ppYes ppT6_2 6 2 a b = ppVc 6 2 a b := by kernel_rfl
theorem ppy6_2 {a b : Int} (h1 : wi a 20 = 6) (h2 : wi b 4 = 2) : ppYesF ppT6_2 6 2 a b := ppYesF.mk (Eq.mpr (ppv6_2 a b) (ppVc_ok h1 h2))
theorem ppv8_2 (a b : Int) : ppYes ppT8_2 8 2 a b = ppVc 8 2 a b := by kernel_rfl
theorem ppy8_2 {a b : Int} (h1 : wi a 20 = 8) (h2 : wi b 4 = 2) : ppYesF ppT8_2 8 2 a b := ppYesF.mk (Eq.mpr (ppv8_2 a b) (ppVc_ok h1 h2))
theorem ppv10_2 (a b : Int) : ppYes ppT10_2 10 2 a b = ppVc 10 2 a b := by kernel_rfl
theorem ppy10_2 {a b : Int} (h1 : wi a 20 = 10) (h2 : wi b 4 = 2) : ppYesF ppT10_2 10 2 a b := ppYesF.mk (Eq.mpr (ppv10_2 a b) (ppVc_ok h1 h2))
theorem ppv12_2 (a b : Int) : ppYes ppT12_2 12 2 a b = ppVc 12 2 a b := by kernel_rfl
theorem ppy12_2 {a b : Int} (h1 : wi a 20 = 12) (h2 : wi b 4 = 2) : ppYesF ppT12_2 12 2 a b := ppYesF.mk (Eq.mpr (ppv12_2 a b) (ppVc_ok h1 h2))
theorem ppv14_2 (a b : Int) : ppYes ppT14_2 14 2 a b = ppVc 14 2 a b := by kernel_rfl
theorem ppy14_2 {a b : Int} (h1 : wi a 20 = 14) (h2 : wi b 4 = 2) : ppYesF ppT14_2 14 2 a b := ppYesF.mk (Eq.mpr (ppv14_2 a b) (ppVc_ok h1 h2))
theorem ppv16_2 (a b : Int) : ppYes ppT16_2 16 2 a b = ppVc 16 2 a b := by kernel_rfl
theorem ppy16_2 {a b : Int} (h1 : wi a 20 = 16) (h2 : wi b 4 = 2) : ppYesF ppT16_2 16 2 a b := ppYesF.mk (Eq.mpr (ppv16_2 a b) (ppVc_ok h1 h2))
theorem ppv18_2 (a b : Int) : ppYes ppT18_2 18 2 a b = ppVc 18 2 a b := by kernel_rfl
theorem ppy18_2 {a b : Int} (h1 : wi a 20 = 18) (h2 : wi b 4 = 2) : ppYesF ppT18_2 18 2 a b := ppYesF.mk (Eq.mpr (ppv18_2 a b) (ppVc_ok h1 h2))
end Go.Proofs.YtmnkbfflpgmkmaaGreatDoor
