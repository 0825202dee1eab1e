/- ManagerBeats: rows hold, part 3. No conditions. -/
import Derived.Test.YtmnkbfflpgmkmaaGreatDoorMb
namespace Go.Proofs.YtmnkbfflpgmkmaaGreatDoor
open Go Go.W Go.Proofs
set_option maxRecDepth 100000
theorem mbM2_ok : Row0 8 mbM2 := ⟨by kernel_rfl⟩
theorem mbM6_ok : Row0 10 mbM6 := ⟨by kernel_rfl⟩
theorem mbM10_ok : Row0 10 mbM10 := ⟨by kernel_rfl⟩
theorem mbM14_ok : Row0 10 mbM14 := ⟨by kernel_rfl⟩
theorem mbM18_ok : Row0 8 mbM18 := ⟨by kernel_rfl⟩
theorem mbM22_ok : Row0 8 mbM22 := ⟨by kernel_rfl⟩
theorem mbM26_ok : Row0 10 mbM26 := ⟨by kernel_rfl⟩
theorem mbM30_ok : Row0 8 mbM30 := ⟨by kernel_rfl⟩
theorem mbM34_ok : Row0 10 mbM34 := ⟨by kernel_rfl⟩
theorem mbM38_ok : Row0 10 mbM38 := ⟨by kernel_rfl⟩
theorem mbM42_ok : Row0 10 mbM42 := ⟨by kernel_rfl⟩
theorem mbM46_ok : Row0 10 mbM46 := ⟨by kernel_rfl⟩
theorem mbM50_ok : Row0 10 mbM50 := ⟨by kernel_rfl⟩
theorem mbM54_ok : Row0 8 mbM54 := ⟨by kernel_rfl⟩
theorem mbM58_ok : Row0 8 mbM58 := ⟨by kernel_rfl⟩
theorem mbM62_ok : Row0 10 mbM62 := ⟨by kernel_rfl⟩
theorem mbM66_ok : Row0 8 mbM66 := ⟨by kernel_rfl⟩
theorem mbM70_ok : Row0 10 mbM70 := ⟨by kernel_rfl⟩
theorem mbM74_ok : Row0 10 mbM74 := ⟨by kernel_rfl⟩
theorem mbM78_ok : Row0 10 mbM78 := ⟨by kernel_rfl⟩
theorem mbM82_ok : Row0 10 mbM82 := ⟨by kernel_rfl⟩
theorem mbM86_ok : Row0 10 mbM86 := ⟨by kernel_rfl⟩
theorem mbM90_ok : Row0 8 mbM90 := ⟨by kernel_rfl⟩
end Go.Proofs.YtmnkbfflpgmkmaaGreatDoor
