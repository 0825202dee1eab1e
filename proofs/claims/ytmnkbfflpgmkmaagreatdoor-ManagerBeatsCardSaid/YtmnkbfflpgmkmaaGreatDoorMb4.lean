/- ManagerBeats: rows hold, part 4. No conditions. -/
import Derived.Test.YtmnkbfflpgmkmaaGreatDoorMb
namespace Go.Proofs.YtmnkbfflpgmkmaaGreatDoor
open Go Go.W Go.Proofs
set_option maxRecDepth 100000
theorem mbM3_ok : Row0 8 mbM3 := ⟨by kernel_rfl⟩
theorem mbM7_ok : Row0 10 mbM7 := ⟨by kernel_rfl⟩
theorem mbM11_ok : Row0 10 mbM11 := ⟨by kernel_rfl⟩
theorem mbM15_ok : Row0 10 mbM15 := ⟨by kernel_rfl⟩
theorem mbM19_ok : Row0 10 mbM19 := ⟨by kernel_rfl⟩
theorem mbM23_ok : Row0 10 mbM23 := ⟨by kernel_rfl⟩
theorem mbM27_ok : Row0 8 mbM27 := ⟨by kernel_rfl⟩
theorem mbM31_ok : Row0 8 mbM31 := ⟨by kernel_rfl⟩
theorem mbM35_ok : Row0 10 mbM35 := ⟨by kernel_rfl⟩
theorem mbM39_ok : Row0 8 mbM39 := ⟨by kernel_rfl⟩
theorem mbM43_ok : Row0 10 mbM43 := ⟨by kernel_rfl⟩
theorem mbM47_ok : Row0 10 mbM47 := ⟨by kernel_rfl⟩
theorem mbM51_ok : Row0 10 mbM51 := ⟨by kernel_rfl⟩
theorem mbM55_ok : Row0 10 mbM55 := ⟨by kernel_rfl⟩
theorem mbM59_ok : Row0 10 mbM59 := ⟨by kernel_rfl⟩
theorem mbM63_ok : Row0 8 mbM63 := ⟨by kernel_rfl⟩
theorem mbM67_ok : Row0 8 mbM67 := ⟨by kernel_rfl⟩
theorem mbM71_ok : Row0 10 mbM71 := ⟨by kernel_rfl⟩
theorem mbM75_ok : Row0 8 mbM75 := ⟨by kernel_rfl⟩
theorem mbM79_ok : Row0 10 mbM79 := ⟨by kernel_rfl⟩
theorem mbM83_ok : Row0 10 mbM83 := ⟨by kernel_rfl⟩
theorem mbM87_ok : Row0 10 mbM87 := ⟨by kernel_rfl⟩
theorem mbM91_ok : Row0 10 mbM91 := ⟨by kernel_rfl⟩
end Go.Proofs.YtmnkbfflpgmkmaaGreatDoor
