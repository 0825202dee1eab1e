/- ManagerNode: classes, part 2: what is left to be shown. No conditions. -/
import Derived.Test.YtmnkbfflpgmkmaaGreatDoorNc
namespace Go.Proofs.YtmnkbfflpgmkmaaGreatDoor
open Go Go.W Go.Proofs
set_option maxRecDepth 100000
theorem nnv0_1 (a b : Int) : nnYes nnT0_1 0 1 a b = nnVc 0 1 a b := by kernel_rfl
theorem nny0_1 {a b : Int} (h1 : wi a 3 = 0) (h2 : wi b 14 = 1) : nnYesF nnT0_1 0 1 a b := nnYesF.mk (Eq.mpr (nnv0_1 a b) (nnVc_ok h1 h2))
theorem nnv0_5 (a b : Int) : nnYes nnT0_5 0 5 a b = nnVc 0 5 a b := by kernel_rfl
theorem nny0_5 {a b : Int} (h1 : wi a 3 = 0) (h2 : wi b 14 = 5) : nnYesF nnT0_5 0 5 a b := nnYesF.mk (Eq.mpr (nnv0_5 a b) (nnVc_ok h1 h2))
theorem nnv0_9 (a b : Int) : nnYes nnT0_9 0 9 a b = nnVc 0 9 a b := by kernel_rfl
theorem nny0_9 {a b : Int} (h1 : wi a 3 = 0) (h2 : wi b 14 = 9) : nnYesF nnT0_9 0 9 a b := nnYesF.mk (Eq.mpr (nnv0_9 a b) (nnVc_ok h1 h2))
theorem nnv0_13 (a b : Int) : nnYes nnT0_13 0 13 a b = nnVc 0 13 a b := by kernel_rfl
theorem nny0_13 {a b : Int} (h1 : wi a 3 = 0) (h2 : wi b 14 = 13) : nnYesF nnT0_13 0 13 a b := nnYesF.mk (Eq.mpr (nnv0_13 a b) (nnVc_ok h1 h2))
theorem nnv1_3 (a b : Int) : nnYes nnT1_3 1 3 a b = nnVc 1 3 a b := by kernel_rfl
theorem nny1_3 {a b : Int} (h1 : wi a 3 = 1) (h2 : wi b 14 = 3) : nnYesF nnT1_3 1 3 a b := nnYesF.mk (Eq.mpr (nnv1_3 a b) (nnVc_ok h1 h2))
theorem nnv1_7 (a b : Int) : nnYes nnT1_7 1 7 a b = nnVc 1 7 a b := by kernel_rfl
theorem nny1_7 {a b : Int} (h1 : wi a 3 = 1) (h2 : wi b 14 = 7) : nnYesF nnT1_7 1 7 a b := nnYesF.mk (Eq.mpr (nnv1_7 a b) (nnVc_ok h1 h2))
theorem nnv1_11 (a b : Int) : nnYes nnT1_11 1 11 a b = nnVc 1 11 a b := by kernel_rfl
theorem nny1_11 {a b : Int} (h1 : wi a 3 = 1) (h2 : wi b 14 = 11) : nnYesF nnT1_11 1 11 a b := nnYesF.mk (Eq.mpr (nnv1_11 a b) (nnVc_ok h1 h2))
theorem nnv2_1 (a b : Int) : nnYes nnT2_1 2 1 a b = nnVc 2 1 a b := by kernel_rfl
theorem nny2_1 {a b : Int} (h1 : wi a 3 = 2) (h2 : wi b 14 = 1) : nnYesF nnT2_1 2 1 a b := nnYesF.mk (Eq.mpr (nnv2_1 a b) (nnVc_ok h1 h2))
theorem nnv2_5 (a b : Int) : nnYes nnT2_5 2 5 a b = nnVc 2 5 a b := by kernel_rfl
theorem nny2_5 {a b : Int} (h1 : wi a 3 = 2) (h2 : wi b 14 = 5) : nnYesF nnT2_5 2 5 a b := nnYesF.mk (Eq.mpr (nnv2_5 a b) (nnVc_ok h1 h2))
theorem nnv2_9 (a b : Int) : nnYes nnT2_9 2 9 a b = nnVc 2 9 a b := by kernel_rfl
theorem nny2_9 {a b : Int} (h1 : wi a 3 = 2) (h2 : wi b 14 = 9) : nnYesF nnT2_9 2 9 a b := nnYesF.mk (Eq.mpr (nnv2_9 a b) (nnVc_ok h1 h2))
theorem nnv2_13 (a b : Int) : nnYes nnT2_13 2 13 a b = nnVc 2 13 a b := by kernel_rfl
theorem nny2_13 {a b : Int} (h1 : wi a 3 = 2) (h2 : wi b 14 = 13) : nnYesF nnT2_13 2 13 a b := nnYesF.mk (Eq.mpr (nnv2_13 a b) (nnVc_ok h1 h2))
end Go.Proofs.YtmnkbfflpgmkmaaGreatDoor
