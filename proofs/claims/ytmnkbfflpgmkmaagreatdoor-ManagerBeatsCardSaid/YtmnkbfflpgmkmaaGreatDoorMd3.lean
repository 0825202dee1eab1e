/- ManagerBeats: classes, part 3: what is left to be shown. No conditions. -/
import Derived.Test.YtmnkbfflpgmkmaaGreatDoorMc
namespace Go.Proofs.YtmnkbfflpgmkmaaGreatDoor
open Go Go.W Go.Proofs
set_option maxRecDepth 100000
theorem vB1_0 (n beat which : Int) : YesB tB1_0 1 0 n beat which = vcB 1 0 n beat which := by kernel_rfl
theorem yB1_0 {n beat which : Int} (h1 : wi n 10 = 1) (h2 : wi which 2 = 0) : YesBF tB1_0 1 0 n beat which := YesBF.mk (Eq.mpr (vB1_0 n beat which) (vcB_ok h1 h2))
theorem vB3_0 (n beat which : Int) : YesB tB3_0 3 0 n beat which = vcB 3 0 n beat which := by kernel_rfl
theorem yB3_0 {n beat which : Int} (h1 : wi n 10 = 3) (h2 : wi which 2 = 0) : YesBF tB3_0 3 0 n beat which := YesBF.mk (Eq.mpr (vB3_0 n beat which) (vcB_ok h1 h2))
theorem vB5_0 (n beat which : Int) : YesB tB5_0 5 0 n beat which = vcB 5 0 n beat which := by kernel_rfl
theorem yB5_0 {n beat which : Int} (h1 : wi n 10 = 5) (h2 : wi which 2 = 0) : YesBF tB5_0 5 0 n beat which := YesBF.mk (Eq.mpr (vB5_0 n beat which) (vcB_ok h1 h2))
theorem vB7_0 (n beat which : Int) : YesB tB7_0 7 0 n beat which = vcB 7 0 n beat which := by kernel_rfl
theorem yB7_0 {n beat which : Int} (h1 : wi n 10 = 7) (h2 : wi which 2 = 0) : YesBF tB7_0 7 0 n beat which := YesBF.mk (Eq.mpr (vB7_0 n beat which) (vcB_ok h1 h2))
theorem vB9_0 (n beat which : Int) : YesB tB9_0 9 0 n beat which = vcB 9 0 n beat which := by kernel_rfl
theorem yB9_0 {n beat which : Int} (h1 : wi n 10 = 9) (h2 : wi which 2 = 0) : YesBF tB9_0 9 0 n beat which := YesBF.mk (Eq.mpr (vB9_0 n beat which) (vcB_ok h1 h2))
end Go.Proofs.YtmnkbfflpgmkmaaGreatDoor
