/- ManagerBeats: rows hold, part 2. No conditions. -/
import Derived.Test.YtmnkbfflpgmkmaaGreatDoorMb
namespace Go.Proofs.YtmnkbfflpgmkmaaGreatDoor
open Go Go.W Go.Proofs
set_option maxRecDepth 100000
theorem mbM1_ok : Row0 8 mbM1 := ⟨by kernel_rfl⟩
theorem mbM5_ok : Row0 10 mbM5 := ⟨by kernel_rfl⟩
theorem mbM9_ok : Row0 8 mbM9 := ⟨by kernel_rfl⟩
theorem mbM13_ok : Row0 8 mbM13 := ⟨by kernel_rfl⟩
theorem mbM17_ok : Row0 10 mbM17 := ⟨by kernel_rfl⟩
theorem mbM21_ok : Row0 8 mbM21 := ⟨by kernel_rfl⟩
theorem mbM25_ok : Row0 10 mbM25 := ⟨by kernel_rfl⟩
theorem mbM29_ok : Row0 10 mbM29 := ⟨by kernel_rfl⟩
theorem mbM33_ok : Row0 10 mbM33 := ⟨by kernel_rfl⟩
theorem mbM37_ok : Row0 10 mbM37 := ⟨by kernel_rfl⟩
theorem mbM41_ok : Row0 10 mbM41 := ⟨by kernel_rfl⟩
theorem mbM45_ok : Row0 8 mbM45 := ⟨by kernel_rfl⟩
theorem mbM49_ok : Row0 8 mbM49 := ⟨by kernel_rfl⟩
theorem mbM53_ok : Row0 10 mbM53 := ⟨by kernel_rfl⟩
theorem mbM57_ok : Row0 8 mbM57 := ⟨by kernel_rfl⟩
theorem mbM61_ok : Row0 10 mbM61 := ⟨by kernel_rfl⟩
theorem mbM65_ok : Row0 10 mbM65 := ⟨by kernel_rfl⟩
theorem mbM69_ok : Row0 10 mbM69 := ⟨by kernel_rfl⟩
theorem mbM73_ok : Row0 10 mbM73 := ⟨by kernel_rfl⟩
theorem mbM77_ok : Row0 10 mbM77 := ⟨by kernel_rfl⟩
theorem mbM81_ok : Row0 8 mbM81 := ⟨by kernel_rfl⟩
theorem mbM85_ok : Row0 8 mbM85 := ⟨by kernel_rfl⟩
theorem mbM89_ok : Row0 10 mbM89 := ⟨by kernel_rfl⟩
end Go.Proofs.YtmnkbfflpgmkmaaGreatDoor
