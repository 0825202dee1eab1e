/- ManagerBeats: classes, part 4: what is left to be shown. No conditions. -/
import Derived.Test.YtmnkbfflpgmkmaaGreatDoorMc
namespace Go.Proofs.YtmnkbfflpgmkmaaGreatDoor
open Go Go.W Go.Proofs
set_option maxRecDepth 100000
theorem vB1_1 (n beat which : Int) : YesB tB1_1 1 1 n beat which = vcB 1 1 n beat which := by kernel_rfl
theorem yB1_1 {n beat which : Int} (h1 : wi n 10 = 1) (h2 : wi which 2 = 1) : YesBF tB1_1 1 1 n beat which := YesBF.mk (Eq.mpr (vB1_1 n beat which) (vcB_ok h1 h2))
theorem vB3_1 (n beat which : Int) : YesB tB3_1 3 1 n beat which = vcB 3 1 n beat which := by kernel_rfl
theorem yB3_1 {n beat which : Int} (h1 : wi n 10 = 3) (h2 : wi which 2 = 1) : YesBF tB3_1 3 1 n beat which := YesBF.mk (Eq.mpr (vB3_1 n beat which) (vcB_ok h1 h2))
theorem vB5_1 (n beat which : Int) : YesB tB5_1 5 1 n beat which = vcB 5 1 n beat which := by kernel_rfl
theorem yB5_1 {n beat which : Int} (h1 : wi n 10 = 5) (h2 : wi which 2 = 1) : YesBF tB5_1 5 1 n beat which := YesBF.mk (Eq.mpr (vB5_1 n beat which) (vcB_ok h1 h2))
theorem vB7_1 (n beat which : Int) : YesB tB7_1 7 1 n beat which = vcB 7 1 n beat which := by kernel_rfl
theorem yB7_1 {n beat which : Int} (h1 : wi n 10 = 7) (h2 : wi which 2 = 1) : YesBF tB7_1 7 1 n beat which := YesBF.mk (Eq.mpr (vB7_1 n beat which) (vcB_ok h1 h2))
theorem vB9_1 (n beat which : Int) : YesB tB9_1 9 1 n beat which = vcB 9 1 n beat which := by kernel_rfl
theorem yB9_1 {n beat which : Int} (h1 : wi n 10 = 9) (h2 : wi which 2 = 1) : YesBF tB9_1 9 1 n beat which := YesBF.mk (Eq.mpr (vB9_1 n beat which) (vcB_ok h1 h2))
end Go.Proofs.YtmnkbfflpgmkmaaGreatDoor
