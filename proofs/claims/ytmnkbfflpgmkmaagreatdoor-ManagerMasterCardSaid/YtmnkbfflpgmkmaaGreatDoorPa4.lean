/- ManagerMaster: attempts on a node as rows, part 4. No conditions. -/
import Derived.Test.YtmnkbfflpgmkmaaGreatDoorPb
namespace Go.Proofs.YtmnkbfflpgmkmaaGreatDoor
open Go Go.W Go.Proofs
set_option maxRecDepth 100000
theorem ppA3_ok : RowC C0 162 ppA3 := ⟨by kernel_rfl⟩
theorem ppA11_ok : RowC C0 162 ppA11 := ⟨by kernel_rfl⟩
theorem ppA19_ok : RowC C0 162 ppA19 := ⟨by kernel_rfl⟩
theorem ppA27_ok : RowC C0 162 ppA27 := ⟨by kernel_rfl⟩
theorem ppA35_ok : RowC C0 162 ppA35 := ⟨by kernel_rfl⟩
theorem ppA43_ok : RowC C0 162 ppA43 := ⟨by kernel_rfl⟩
theorem ppA51_ok : RowC C0 162 ppA51 := ⟨by kernel_rfl⟩
theorem ppA59_ok : RowC C0 162 ppA59 := ⟨by kernel_rfl⟩
theorem ppA67_ok : RowC C0 162 ppA67 := ⟨by kernel_rfl⟩
theorem ppA75_ok : RowC C0 162 ppA75 := ⟨by kernel_rfl⟩
theorem ppA83_ok : RowC C0 162 ppA83 := ⟨by kernel_rfl⟩
theorem ppA91_ok : RowC C0 162 ppA91 := ⟨by kernel_rfl⟩
end Go.Proofs.YtmnkbfflpgmkmaaGreatDoor
