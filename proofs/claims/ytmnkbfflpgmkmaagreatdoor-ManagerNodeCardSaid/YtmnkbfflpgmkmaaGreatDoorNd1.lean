/- ManagerNode: classes, part 1: what is left to be shown. No conditions. -/
import Derived.Test.YtmnkbfflpgmkmaaGreatDoorNc
namespace Go.Proofs.YtmnkbfflpgmkmaaGreatDoor
open Go Go.W Go.Proofs
set_option maxRecDepth 100000
theorem nnv0_0 (a b : Int) : nnYes nnT0_0 0 0 a b = nnVc 0 0 a b := by kernel_rfl
theorem nny0_0 {a b : Int} (h1 : wi a 3 = 0) (h2 : wi b 14 = 0) : nnYesF nnT0_0 0 0 a b := nnYesF.mk (Eq.mpr (nnv0_0 a b) (nnVc_ok h1 h2))
theorem nnv0_4 (a b : Int) : nnYes nnT0_4 0 4 a b = nnVc 0 4 a b := by kernel_rfl
theorem nny0_4 {a b : Int} (h1 : wi a 3 = 0) (h2 : wi b 14 = 4) : nnYesF nnT0_4 0 4 a b := nnYesF.mk (Eq.mpr (nnv0_4 a b) (nnVc_ok h1 h2))
theorem nnv0_8 (a b : Int) : nnYes nnT0_8 0 8 a b = nnVc 0 8 a b := by kernel_rfl
theorem nny0_8 {a b : Int} (h1 : wi a 3 = 0) (h2 : wi b 14 = 8) : nnYesF nnT0_8 0 8 a b := nnYesF.mk (Eq.mpr (nnv0_8 a b) (nnVc_ok h1 h2))
theorem nnv0_12 (a b : Int) : nnYes nnT0_12 0 12 a b = nnVc 0 12 a b := by kernel_rfl
theorem nny0_12 {a b : Int} (h1 : wi a 3 = 0) (h2 : wi b 14 = 12) : nnYesF nnT0_12 0 12 a b := nnYesF.mk (Eq.mpr (nnv0_12 a b) (nnVc_ok h1 h2))
theorem nnv1_2 (a b : Int) : nnYes nnT1_2 1 2 a b = nnVc 1 2 a b := by kernel_rfl
theorem nny1_2 {a b : Int} (h1 : wi a 3 = 1) (h2 : wi b 14 = 2) : nnYesF nnT1_2 1 2 a b := nnYesF.mk (Eq.mpr (nnv1_2 a b) (nnVc_ok h1 h2))
theorem nnv1_6 (a b : Int) : nnYes nnT1_6 1 6 a b = nnVc 1 6 a b := by kernel_rfl
theorem nny1_6 {a b : Int} (h1 : wi a 3 = 1) (h2 : wi b 14 = 6) : nnYesF nnT1_6 1 6 a b := nnYesF.mk (Eq.mpr (nnv1_6 a b) (nnVc_ok h1 h2))
theorem nnv1_10 (a b : Int) : nnYes nnT1_10 1 10 a b = nnVc 1 10 a b := by kernel_rfl
theorem nny1_10 {a b : Int} (h1 : wi a 3 = 1) (h2 : wi b 14 = 10) : nnYesF nnT1_10 1 10 a b := nnYesF.mk (Eq.mpr (nnv1_10 a b) (nnVc_ok h1 h2))
theorem nnv2_0 (a b : Int) : nnYes nnT2_0 2 0 a b = nnVc 2 0 a b := by kernel_rfl
theorem nny2_0 {a b : Int} (h1 : wi a 3 = 2) (h2 : wi b 14 = 0) : nnYesF nnT2_0 2 0 a b := nnYesF.mk (Eq.mpr (nnv2_0 a b) (nnVc_ok h1 h2))
theorem nnv2_4 (a b : Int) : nnYes nnT2_4 2 4 a b = nnVc 2 4 a b := by kernel_rfl
theorem nny2_4 {a b : Int} (h1 : wi a 3 = 2) (h2 : wi b 14 = 4) : nnYesF nnT2_4 2 4 a b := nnYesF.mk (Eq.mpr (nnv2_4 a b) (nnVc_ok h1 h2))
theorem nnv2_8 (a b : Int) : nnYes nnT2_8 2 8 a b = nnVc 2 8 a b := by kernel_rfl
theorem nny2_8 {a b : Int} (h1 : wi a 3 = 2) (h2 : wi b 14 = 8) : nnYesF nnT2_8 2 8 a b := nnYesF.mk (Eq.mpr (nnv2_8 a b) (nnVc_ok h1 h2))
theorem nnv2_12 (a b : Int) : nnYes nnT2_12 2 12 a b = nnVc 2 12 a b := by kernel_rfl
theorem nny2_12 {a b : Int} (h1 : wi a 3 = 2) (h2 : wi b 14 = 12) : nnYesF nnT2_12 2 12 a b := nnYesF.mk (Eq.mpr (nnv2_12 a b) (nnVc_ok h1 h2))
end Go.Proofs.YtmnkbfflpgmkmaaGreatDoor
