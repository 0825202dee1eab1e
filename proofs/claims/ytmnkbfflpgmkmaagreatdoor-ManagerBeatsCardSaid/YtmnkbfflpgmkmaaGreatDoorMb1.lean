/- ManagerBeats: rows hold, part 1. No conditions. -/
import Derived.Test.YtmnkbfflpgmkmaaGreatDoorMb
namespace Go.Proofs.YtmnkbfflpgmkmaaGreatDoor
open Go Go.W Go.Proofs
set_option maxRecDepth 100000
theorem mbM0_ok : Row0 8 mbM0 := ⟨by kernel_rfl⟩
theorem mbM4_ok : Row0 8 mbM4 := ⟨by kernel_rfl⟩
theorem mbM8_ok : Row0 10 mbM8 := ⟨by kernel_rfl⟩
theorem mbM12_ok : Row0 8 mbM12 := ⟨by kernel_rfl⟩
theorem mbM16_ok : Row0 10 mbM16 := ⟨by kernel_rfl⟩
theorem mbM20_ok : Row0 10 mbM20 := ⟨by kernel_rfl⟩
theorem mbM24_ok : Row0 10 mbM24 := ⟨by kernel_rfl⟩
theorem mbM28_ok : Row0 10 mbM28 := ⟨by kernel_rfl⟩
theorem mbM32_ok : Row0 10 mbM32 := ⟨by kernel_rfl⟩
theorem mbM36_ok : Row0 8 mbM36 := ⟨by kernel_rfl⟩
theorem mbM40_ok : Row0 8 mbM40 := ⟨by kernel_rfl⟩
theorem mbM44_ok : Row0 10 mbM44 := ⟨by kernel_rfl⟩
theorem mbM48_ok : Row0 8 mbM48 := ⟨by kernel_rfl⟩
theorem mbM52_ok : Row0 10 mbM52 := ⟨by kernel_rfl⟩
theorem mbM56_ok : Row0 10 mbM56 := ⟨by kernel_rfl⟩
theorem mbM60_ok : Row0 10 mbM60 := ⟨by kernel_rfl⟩
theorem mbM64_ok : Row0 10 mbM64 := ⟨by kernel_rfl⟩
theorem mbM68_ok : Row0 10 mbM68 := ⟨by kernel_rfl⟩
theorem mbM72_ok : Row0 8 mbM72 := ⟨by kernel_rfl⟩
theorem mbM76_ok : Row0 8 mbM76 := ⟨by kernel_rfl⟩
theorem mbM80_ok : Row0 10 mbM80 := ⟨by kernel_rfl⟩
theorem mbM84_ok : Row0 8 mbM84 := ⟨by kernel_rfl⟩
theorem mbM88_ok : Row0 10 mbM88 := ⟨by kernel_rfl⟩
theorem mbM92_ok : Row0 10 mbM92 := ⟨by kernel_rfl⟩
end Go.Proofs.YtmnkbfflpgmkmaaGreatDoor
