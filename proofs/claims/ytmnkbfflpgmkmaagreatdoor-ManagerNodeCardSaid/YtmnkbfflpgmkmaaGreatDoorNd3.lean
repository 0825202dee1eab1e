/- ManagerNode: classes, part 3: what is left to be shown. No conditions. -/
import Derived.Test.YtmnkbfflpgmkmaaGreatDoorNc
namespace Go.Proofs.YtmnkbfflpgmkmaaGreatDoor
open Go Go.W Go.Proofs
set_option maxRecDepth 100000
theorem nnv0_2 (a b : Int) : nnYes nnT0_2 0 2 a b = nnVc 0 2 a b := by kernel_rfl
theorem nny0_2 {a b : Int} (h1 : wi a 3 = 0) (h2 : wi b 14 = 2) : nnYesF nnT0_2 0 2 a b := nnYesF.mk (Eq.mpr (nnv0_2 a b) (nnVc_ok h1 h2))
theorem nnv0_6 (a b : Int) : nnYes nnT0_6 0 6 a b = nnVc 0 6 a b := by kernel_rfl
theorem nny0_6 {a b : Int} (h1 : wi a 3 = 0) (h2 : wi b 14 = 6) : nnYesF nnT0_6 0 6 a b := nnYesF.mk (Eq.mpr (nnv0_6 a b) (nnVc_ok h1 h2))
theorem nnv0_10 (a b : Int) : nnYes nnT0_10 0 10 a b = nnVc 0 10 a b := by kernel_rfl
theorem nny0_10 {a b : Int} (h1 : wi a 3 = 0) (h2 : wi b 14 = 10) : nnYesF nnT0_10 0 10 a b := nnYesF.mk (Eq.mpr (nnv0_10 a b) (nnVc_ok h1 h2))
theorem nnv1_0 (a b : Int) : nnYes nnT1_0 1 0 a b = nnVc 1 0 a b := by kernel_rfl
theorem nny1_0 {a b : Int} (h1 : wi a 3 = 1) (h2 : wi b 14 = 0) : nnYesF nnT1_0 1 0 a b := nnYesF.mk (Eq.mpr (nnv1_0 a b) (nnVc_ok h1 h2))
theorem nnv1_4 (a b : Int) : nnYes nnT1_4 1 4 a b = nnVc 1 4 a b := by kernel_rfl
theorem nny1_4 {a b : Int} (h1 : wi a 3 = 1) (h2 : wi b 14 = 4) : nnYesF nnT1_4 1 4 a b := nnYesF.mk (Eq.mpr (nnv1_4 a b) (nnVc_ok h1 h2))
theorem nnv1_8 (a b : Int) : nnYes nnT1_8 1 8 a b = nnVc 1 8 a b := by kernel_rfl
theorem nny1_8 {a b : Int} (h1 : wi a 3 = 1) (h2 : wi b 14 = 8) : nnYesF nnT1_8 1 8 a b := nnYesF.mk (Eq.mpr (nnv1_8 a b) (nnVc_ok h1 h2))
theorem nnv1_12 (a b : Int) : nnYes nnT1_12 1 12 a b = nnVc 1 12 a b := by kernel_rfl
theorem nny1_12 {a b : Int} (h1 : wi a 3 = 1) (h2 : wi b 14 = 12) : nnYesF nnT1_12 1 12 a b := nnYesF.mk (Eq.mpr (nnv1_12 a b) (nnVc_ok h1 h2))
theorem nnv2_2 (a b : Int) : nnYes nnT2_2 2 2 a b = nnVc 2 2 a b := by kernel_rfl
theorem nny2_2 {a b : Int} (h1 : wi a 3 = 2) (h2 : wi b 14 = 2) : nnYesF nnT2_2 2 2 a b := nnYesF.mk (Eq.mpr (nnv2_2 a b) (nnVc_ok h1 h2))
theorem nnv2_6 (a b : Int) : nnYes nnT2_6 2 6 a b = nnVc 2 6 a b := by kernel_rfl
theorem nny2_6 {a b : Int} (h1 : wi a 3 = 2) (h2 : wi b 14 = 6) : nnYesF nnT2_6 2 6 a b := nnYesF.mk (Eq.mpr (nnv2_6 a b) (nnVc_ok h1 h2))
theorem nnv2_10 (a b : Int) : nnYes nnT2_10 2 10 a b = nnVc 2 10 a b := by kernel_rfl
theorem nny2_10 {a b : Int} (h1 : wi a 3 = 2) (h2 : wi b 14 = 10) : nnYesF nnT2_10 2 10 a b := nnYesF.mk (Eq.mpr (nnv2_10 a b) (nnVc_ok h1 h2))
end Go.Proofs.YtmnkbfflpgmkmaaGreatDoor
