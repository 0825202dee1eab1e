/- ManagerMaster: classes, part 1: what is left to be shown. No conditions. -/
import Derived.Test.YtmnkbfflpgmkmaaGreatDoorPc
namespace Go.Proofs.YtmnkbfflpgmkmaaGreatDoor
open Go Go.W Go.Proofs
set_option maxRecDepth 100000
theorem ppv0_0 (a b : Int) : ppYes ppT0_0 0 0 a b = ppVc 0 0 a b := by kernel_rfl
theorem ppy0_0 {a b : Int} (h1 : wi a 20 = 0) (h2 : wi b 4 = 0) : ppYesF ppT0_0 0 0 a b := ppYesF.mk (Eq.mpr (ppv0_0 a b) (ppVc_ok h1 h2))
theorem ppv2_0 (a b : Int) : ppYes ppT2_0 2 0 a b = ppVc 2 0 a b := by kernel_rfl
theorem ppy2_0 {a b : Int} (h1 : wi a 20 = 2) (h2 : wi b 4 = 0) : ppYesF ppT2_0 2 0 a b := ppYesF.mk (Eq.mpr (ppv2_0 a b) (ppVc_ok h1 h2))
theorem ppv4_0 (a b : Int) : ppYes ppT4_0 4 0 a b = ppVc 4 0 a b := by kernel_rfl
theorem ppy4_0 {a b : Int} (h1 : wi a 20 = 4) (h2 : wi b 4 = 0) : ppYesF ppT4_0 4 0 a b := ppYesF.mk (Eq.mpr (ppv4_0 a b) (ppVc_ok h1 h2))
theorem ppv6_0 (a b : Int) : ppYes ppT6_0 6 0 a b = ppVc 6 0 a b := by kernel_rfl
theorem ppy6_0 {a b : Int} (h1 : wi a 20 = 6) (h2 : wi b 4 = 0) : ppYesF ppT6_0 6 0 a b := ppYesF.mk (Eq.mpr (ppv6_0 a b) (ppVc_ok h1 h2))
theorem ppv8_0 (a b : Int) : ppYes ppT8_0 8 0 a b = ppVc 8 0 a b := by kernel_rfl
theorem ppy8_0 {a b : Int} (h1 : wi a 20 = 8) (h2 : wi b 4 = 0) : ppYesF ppT8_0 8 0 a b := ppYesF.mk (Eq.mpr (ppv8_0 a b) (ppVc_ok h1 h2))
theorem ppv10_0 (a b : Int) : ppYes ppT10_0 10 0 a b = ppVc 10 0 a b := by kernel_rfl
theorem ppy10_0 {a b : Int} (h1 : wi a 20 = 10) (h2 : wi b 4 = 0) : ppYesF ppT10_0 10 0 a b := ppYesF.mk (Eq.mpr (ppv10_0 a b) (ppVc_ok h1 h2))
theorem ppv12_0 (a b : Int) : ppYes ppT12_0 12 0 a b = ppVc 12 0 a b := by kernel_rfl
theorem ppy12_0 {a b : Int} (h1 : wi a 20 = 12) (h2 : wi b 4 = 0) : ppYesF ppT12_0 12 0 a b := ppYesF.mk (Eq.mpr (ppv12_0 a b) (ppVc_ok h1 h2))
theorem ppv14_0 (a b : Int) : ppYes ppT14_0 14 0 a b = ppVc 14 0 a b := by kernel_rfl
theorem ppy14_0 {a b : Int} (h1 : wi a 20 = 14) (h2 : wi b 4 = 0) : ppYesF ppT14_0 14 0 a b := ppYesF.mk (Eq.mpr (ppv14_0 a b) (ppVc_ok h1 h2))
theorem ppv16_0 (a b : Int) : ppYes ppT16_0 16 0 a b = ppVc 16 0 a b := by kernel_rfl
theorem ppy16_0 {a b : Int} (h1 : wi a 20 = 16) (h2 : wi b 4 = 0) : ppYesF ppT16_0 16 0 a b := ppYesF.mk (Eq.mpr (ppv16_0 a b) (ppVc_ok h1 h2))
theorem ppv18_0 (a b : Int) : ppYes ppT18_0 18 0 a b = ppVc 18 0 a b := by kernel_rfl
theorem ppy18_0 {a b : Int} (h1 : wi a 20 = 18) (h2 : wi b 4 = 0) : ppYesF ppT18_0 18 0 a b := ppYesF.mk (Eq.mpr (ppv18_0 a b) (ppVc_ok h1 h2))
end Go.Proofs.YtmnkbfflpgmkmaaGreatDoor
