/- ManagerBeats: classes, part 2: what is left to be shown. No conditions. -/
import Derived.Test.YtmnkbfflpgmkmaaGreatDoorMc
namespace Go.Proofs.YtmnkbfflpgmkmaaGreatDoor
open Go Go.W Go.Proofs
set_option maxRecDepth 100000
theorem vB0_1 (n beat which : Int) : YesB tB0_1 0 1 n beat which = vcB 0 1 n beat which := by kernel_rfl
theorem yB0_1 {n beat which : Int} (h1 : wi n 10 = 0) (h2 : wi which 2 = 1) : YesBF tB0_1 0 1 n beat which := YesBF.mk (Eq.mpr (vB0_1 n beat which) (vcB_ok h1 h2))
theorem vB2_1 (n beat which : Int) : YesB tB2_1 2 1 n beat which = vcB 2 1 n beat which := by kernel_rfl
theorem yB2_1 {n beat which : Int} (h1 : wi n 10 = 2) (h2 : wi which 2 = 1) : YesBF tB2_1 2 1 n beat which := YesBF.mk (Eq.mpr (vB2_1 n beat which) (vcB_ok h1 h2))
theorem vB4_1 (n beat which : Int) : YesB tB4_1 4 1 n beat which = vcB 4 1 n beat which := by kernel_rfl
theorem yB4_1 {n beat which : Int} (h1 : wi n 10 = 4) (h2 : wi which 2 = 1) : YesBF tB4_1 4 1 n beat which := YesBF.mk (Eq.mpr (vB4_1 n beat which) (vcB_ok h1 h2))
theorem vB6_1 (n beat which : Int) : YesB tB6_1 6 1 n beat which = vcB 6 1 n beat which := by kernel_rfl
theorem yB6_1 {n beat which : Int} (h1 : wi n 10 = 6) (h2 : wi which 2 = 1) : YesBF tB6_1 6 1 n beat which := YesBF.mk (Eq.mpr (vB6_1 n beat which) (vcB_ok h1 h2))
theorem vB8_1 (n beat which : Int) : YesB tB8_1 8 1 n beat which = vcB 8 1 n beat which := by kernel_rfl
theorem yB8_1 {n beat which : Int} (h1 : wi n 10 = 8) (h2 : wi which 2 = 1) : YesBF tB8_1 8 1 n beat which := YesBF.mk (Eq.mpr (vB8_1 n beat which) (vcB_ok h1 h2))
end Go.Proofs.YtmnkbfflpgmkmaaGreatDoor
