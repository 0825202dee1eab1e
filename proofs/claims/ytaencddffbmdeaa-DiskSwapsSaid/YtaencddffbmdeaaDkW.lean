/- What is left to be shown of more contracts of disk. No conditions. -/
import Derived.Test.YtaencddffbmdeaaDkT
namespace Go.Proofs.Ytaencddffbmdeaa
open Go Go.W Go.Proofs
set_option maxRecDepth 100000
theorem v20 (a : Unit) : MeetsD hd2 (20 : Nat) SK a = (
  true = true ∧ True) := by kernel_rfl
theorem v21 (a : Int) (n : Int) : MeetsD hd2 (21 : Nat) SW (a, n) = (
  branch (!decide (n = (0 : Int)))
  (branch (decide (a.tmod n < (0 : Int))) (wi a n = IntKind.i64.wrap (a.tmod n + n) ∧ True) (wi a n = a.tmod n ∧ True))
  False) := by kernel_rfl
theorem v22 (n : Int) : MeetsD hd2 (22 : Nat) (SN s22) n = (
  branch (decide (n < (1 : Int)))
  (branch (inR n) ((False ∧ (0 : Int) = (1 : Int) ∧ True) ∧ False)
    ((nilpD = D.nilp ∧ (1 : Int) = (1 : Int) ∧ True) ∧ True))
  (branch (decide (n > (16777216 : Int)))
    (branch (inR n) ((False ∧ (0 : Int) = (1 : Int) ∧ True) ∧ False)
      ((nilpD = D.nilp ∧ (1 : Int) = (1 : Int) ∧ True) ∧ True))
    (branch (inR n)
      ((((0 : Nat) = (0 : Nat) ∧ (0 : Nat) = (0 : Nat)) ∧ (0 : Int) = (0 : Int) ∧ True) ∧
        (((0 : Int) = (0 : Int) ∧
              (0 : Int) = (0 : Int) ∧
                (0 : Int) = (0 : Int) ∧ false = false ∧ nilB = [] ∧ (0 : Int) = (0 : Int) ∧ nilB = [] ∧ n = n ∧ True) ∧
            True) ∧
          True)
      ((False ∧ (1 : Int) = (0 : Int) ∧ True) ∧ True)))) := by kernel_rfl
theorem v32 (n : Int) : MeetsD hd2 (32 : Nat) (SN s32) n = (
  branch (decide (n < (1 : Int)))
  (branch (inR n) ((False ∧ (0 : Int) = (1 : Int) ∧ True) ∧ False)
    ((nilpD = D.nilp ∧ (1 : Int) = (1 : Int) ∧ True) ∧ True))
  (branch (decide (n > (16777216 : Int)))
    (branch (inR n) ((False ∧ (0 : Int) = (1 : Int) ∧ True) ∧ False)
      ((nilpD = D.nilp ∧ (1 : Int) = (1 : Int) ∧ True) ∧ True))
    (branch (inR n)
      ((((0 : Nat) = (0 : Nat) ∧ (0 : Nat) = (0 : Nat)) ∧ (0 : Int) = (0 : Int) ∧ True) ∧
        ((n = n ∧
              nilB = [] ∧
                (0 : Int) = (0 : Int) ∧
                  nilB = [] ∧ (0 : Int) = (0 : Int) ∧ false = false ∧ false = false ∧ (0 : Int) = (0 : Int) ∧ True) ∧
            True) ∧
          True)
      ((False ∧ (1 : Int) = (0 : Int) ∧ True) ∧ True)))) := by kernel_rfl
end Go.Proofs.Ytaencddffbmdeaa
