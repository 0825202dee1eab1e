/- ConfRows at each of its classes. No conditions. -/
import Derived.Test.YtaonjbojhikndaaDoorCg
namespace Go.Proofs.YtaonjbojhikndaaDoor
open Go Go.W Go.Proofs
set_option maxRecDepth 100000
theorem r0 (n : Int) : Yes 0 Tryd.f5 [vi n] = must (decide ((0 : Int) < 21) && decide (wi n 21 = 0)) (true = true) := by kernel_rfl
theorem r1 (n : Int) : Yes 1 Tryd.f5 [vi n] = must (decide ((0 : Int) < 21) && decide (wi n 21 = 1)) (true = true) := by kernel_rfl
theorem r2 (n : Int) : Yes 2 Tryd.f5 [vi n] = must (decide ((0 : Int) < 21) && decide (wi n 21 = 2)) (true = true) := by kernel_rfl
theorem r3 (n : Int) : Yes 3 Tryd.f5 [vi n] = must (decide ((0 : Int) < 21) && decide (wi n 21 = 3)) (true = true) := by kernel_rfl
theorem r4 (n : Int) : Yes 4 Tryd.f5 [vi n] = must (decide ((0 : Int) < 21) && decide (wi n 21 = 4)) (true = true) := by kernel_rfl
theorem r5 (n : Int) : Yes 5 Tryd.f5 [vi n] = must (decide ((0 : Int) < 21) && decide (wi n 21 = 5)) (true = true) := by kernel_rfl
theorem r6 (n : Int) : Yes 6 Tryd.f5 [vi n] = must (decide ((0 : Int) < 21) && decide (wi n 21 = 6)) (true = true) := by kernel_rfl
theorem r7 (n : Int) : Yes 7 Tryd.f5 [vi n] = must (decide ((0 : Int) < 21) && decide (wi n 21 = 7)) (true = true) := by kernel_rfl
theorem r8 (n : Int) : Yes 8 Tryd.f5 [vi n] = must (decide ((0 : Int) < 21) && decide (wi n 21 = 8)) (true = true) := by kernel_rfl
theorem r9 (n : Int) : Yes 9 Tryd.f5 [vi n] = must (decide ((0 : Int) < 21) && decide (wi n 21 = 9)) (true = true) := by kernel_rfl
theorem r10 (n : Int) : Yes 10 Tryd.f5 [vi n] = must (decide ((0 : Int) < 21) && decide (wi n 21 = 10)) (true = true) := by kernel_rfl
theorem r11 (n : Int) : Yes 11 Tryd.f5 [vi n] = must (decide ((0 : Int) < 21) && decide (wi n 21 = 11)) (true = true) := by kernel_rfl
theorem r12 (n : Int) : Yes 12 Tryd.f5 [vi n] = must (decide ((0 : Int) < 21) && decide (wi n 21 = 12)) (true = true) := by kernel_rfl
theorem r13 (n : Int) : Yes 13 Tryd.f5 [vi n] = must (decide ((0 : Int) < 21) && decide (wi n 21 = 13)) (true = true) := by kernel_rfl
theorem r14 (n : Int) : Yes 14 Tryd.f5 [vi n] = must (decide ((0 : Int) < 21) && decide (wi n 21 = 14)) (true = true) := by kernel_rfl
theorem r15 (n : Int) : Yes 15 Tryd.f5 [vi n] = must (decide ((0 : Int) < 21) && decide (wi n 21 = 15)) (true = true) := by kernel_rfl
theorem r16 (n : Int) : Yes 16 Tryd.f5 [vi n] = must (decide ((0 : Int) < 21) && decide (wi n 21 = 16)) (true = true) := by kernel_rfl
theorem r17 (n : Int) : Yes 17 Tryd.f5 [vi n] = must (decide ((0 : Int) < 21) && decide (wi n 21 = 17)) (true = true) := by kernel_rfl
theorem r18 (n : Int) : Yes 18 Tryd.f5 [vi n] = must (decide ((0 : Int) < 21) && decide (wi n 21 = 18)) (true = true) := by kernel_rfl
theorem r19 (n : Int) : Yes 19 Tryd.f5 [vi n] = must (decide ((0 : Int) < 21) && decide (wi n 21 = 19)) (true = true) := by kernel_rfl
theorem r20 (n : Int) : Yes 20 Tryd.f5 [vi n] = must (decide ((0 : Int) < 21) && decide (wi n 21 = 20)) (true = true) := by kernel_rfl
end Go.Proofs.YtaonjbojhikndaaDoor
