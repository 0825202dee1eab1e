/- ManagerNode: classes, part 4: what is left to be shown. No conditions. -/
import Derived.Test.YtmnkbfflpgmkmaaGreatDoorNc
namespace Go.Proofs.YtmnkbfflpgmkmaaGreatDoor
open Go Go.W Go.Proofs
set_option maxRecDepth 100000
theorem nnv0_3 (a b : Int) : nnYes nnT0_3 0 3 a b = nnVc 0 3 a b := by kernel_rfl
theorem nny0_3 {a b : Int} (h1 : wi a 3 = 0) (h2 : wi b 14 = 3) : nnYesF nnT0_3 0 3 a b := nnYesF.mk (Eq.mpr (nnv0_3 a b) (nnVc_ok h1 h2))
theorem nnv0_7 (a b : Int) : nnYes nnT0_7 0 7 a b = nnVc 0 7 a b := by kernel_rfl
theorem nny0_7 {a b : Int} (h1 : wi a 3 = 0) (h2 : wi b 14 = 7) : nnYesF nnT0_7 0 7 a b := nnYesF.mk (Eq.mpr (nnv0_7 a b) (nnVc_ok h1 h2))
theorem nnv0_11 (a b : Int) : nnYes nnT0_11 0 11 a b = nnVc 0 11 a b := by kernel_rfl
theorem nny0_11 {a b : Int} (h1 : wi a 3 = 0) (h2 : wi b 14 = 11) : nnYesF nnT0_11 0 11 a b := nnYesF.mk (Eq.mpr (nnv0_11 a b) (nnVc_ok h1 h2))
theorem nnv1_1 (a b : Int) : nnYes nnT1_1 1 1 a b = nnVc 1 1 a b := by kernel_rfl
theorem nny1_1 {a b : Int} (h1 : wi a 3 = 1) (h2 : wi b 14 = 1) : nnYesF nnT1_1 1 1 a b := nnYesF.mk (Eq.mpr (nnv1_1 a b) (nnVc_ok h1 h2))
theorem nnv1_5 (a b : Int) : nnYes nnT1_5 1 5 a b = nnVc 1 5 a b := by kernel_rfl
theorem nny1_5 {a b : Int} (h1 : wi a 3 = 1) (h2 : wi b 14 = 5) : nnYesF nnT1_5 1 5 a b := nnYesF.mk (Eq.mpr (nnv1_5 a b) (nnVc_ok h1 h2))
theorem nnv1_9 (a b : Int) : nnYes nnT1_9 1 9 a b = nnVc 1 9 a b := by kernel_rfl
theorem nny1_9 {a b : Int} (h1 : wi a 3 = 1) (h2 : wi b 14 = 9) : nnYesF nnT1_9 1 9 a b := nnYesF.mk (Eq.mpr (nnv1_9 a b) (nnVc_ok h1 h2))
theorem nnv1_13 (a b : Int) : nnYes nnT1_13 1 13 a b = nnVc 1 13 a b := by kernel_rfl
theorem nny1_13 {a b : Int} (h1 : wi a 3 = 1) (h2 : wi b 14 = 13) : nnYesF nnT1_13 1 13 a b := nnYesF.mk (Eq.mpr (nnv1_13 a b) (nnVc_ok h1 h2))
theorem nnv2_3 (a b : Int) : nnYes nnT2_3 2 3 a b = nnVc 2 3 a b := by kernel_rfl
theorem nny2_3 {a b : Int} (h1 : wi a 3 = 2) (h2 : wi b 14 = 3) : nnYesF nnT2_3 2 3 a b := nnYesF.mk (Eq.mpr (nnv2_3 a b) (nnVc_ok h1 h2))
theorem nnv2_7 (a b : Int) : nnYes nnT2_7 2 7 a b = nnVc 2 7 a b := by kernel_rfl
theorem nny2_7 {a b : Int} (h1 : wi a 3 = 2) (h2 : wi b 14 = 7) : nnYesF nnT2_7 2 7 a b := nnYesF.mk (Eq.mpr (nnv2_7 a b) (nnVc_ok h1 h2))
theorem nnv2_11 (a b : Int) : nnYes nnT2_11 2 11 a b = nnVc 2 11 a b := by kernel_rfl
theorem nny2_11 {a b : Int} (h1 : wi a 3 = 2) (h2 : wi b 14 = 11) : nnYesF nnT2_11 2 11 a b := nnYesF.mk (Eq.mpr (nnv2_11 a b) (nnVc_ok h1 h2))
end Go.Proofs.YtmnkbfflpgmkmaaGreatDoor
