/- ManagerBeats: classes, part 1: what is left to be shown. No conditions. -/
import Derived.Test.YtmnkbfflpgmkmaaGreatDoorMc
namespace Go.Proofs.YtmnkbfflpgmkmaaGreatDoor
open Go Go.W Go.Proofs
set_option maxRecDepth 100000
theorem vB0_0 (n beat which : Int) : YesB tB0_0 0 0 n beat which = vcB 0 0 n beat which := by kernel_rfl
theorem yB0_0 {n beat which : Int} (h1 : wi n 10 = 0) (h2 : wi which 2 = 0) : YesBF tB0_0 0 0 n beat which := YesBF.mk (Eq.mpr (vB0_0 n beat which) (vcB_ok h1 h2))
theorem vB2_0 (n beat which : Int) : YesB tB2_0 2 0 n beat which = vcB 2 0 n beat which := by kernel_rfl
theorem yB2_0 {n beat which : Int} (h1 : wi n 10 = 2) (h2 : wi which 2 = 0) : YesBF tB2_0 2 0 n beat which := YesBF.mk (Eq.mpr (vB2_0 n beat which) (vcB_ok h1 h2))
theorem vB4_0 (n beat which : Int) : YesB tB4_0 4 0 n beat which = vcB 4 0 n beat which := by kernel_rfl
theorem yB4_0 {n beat which : Int} (h1 : wi n 10 = 4) (h2 : wi which 2 = 0) : YesBF tB4_0 4 0 n beat which := YesBF.mk (Eq.mpr (vB4_0 n beat which) (vcB_ok h1 h2))
theorem vB6_0 (n beat which : Int) : YesB tB6_0 6 0 n beat which = vcB 6 0 n beat which := by kernel_rfl
theorem yB6_0 {n beat which : Int} (h1 : wi n 10 = 6) (h2 : wi which 2 = 0) : YesBF tB6_0 6 0 n beat which := YesBF.mk (Eq.mpr (vB6_0 n beat which) (vcB_ok h1 h2))
theorem vB8_0 (n beat which : Int) : YesB tB8_0 8 0 n beat which = vcB 8 0 n beat which := by kernel_rfl
theorem yB8_0 {n beat which : Int} (h1 : wi n 10 = 8) (h2 : wi which 2 = 0) : YesBF tB8_0 8 0 n beat which := YesBF.mk (Eq.mpr (vB8_0 n beat which) (vcB_ok h1 h2))
end Go.Proofs.YtmnkbfflpgmkmaaGreatDoor
