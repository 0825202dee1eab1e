/- The chapter's example, run. No conditions. -/
import Derived.Test.YtebdbhekdadhbaaGreatDoorSc
namespace Go.Proofs.YtebdbhekdadhbaaGreatDoor
open Go Go.W Go.Proofs
set_option maxRecDepth 100000
noncomputable def e1 : Hd regK.T := hdT regK Tryz.prog K0 (fun _ => false) 1000 30
theorem e1_sound : HdSound Tryz.prog e1 := hdT_sound mixed hno K0_ok _ _ _
def SN : Go.W.Spec regK.T := ⟨Unit, fun _ => [], fun _ => [], fun _ => true, fun _ => .ret (kb true, [])⟩
theorem vN (a : Unit) : MeetK e1 5 SN a = (true = true ∧ True) := by kernel_rfl
theorem mN (a : Unit) : MeetsK e1 5 SN a := by
  refine MeetsK.mk ?_
  rw [vN]
  exact ⟨rfl, trivial⟩
theorem kN : SpecOk Tryz.prog 5 SN := spec_leaf e1_sound (by kernel_rfl) (fun a _ => mN a)
def MN : Meet SN where
  find args _ := match args with | [] => some ((), []) | _ => none
  ok args g a ρ h := by
    split at h
    · cases h; exact ⟨trivial, rfl, fun j o' hj => by simp [SN] at hj⟩
    · cases h
theorem aN : RowOK 5 (SN.con MN) := Spec.con_ok kN MN (fun _ => Nat.le_of_ble_eq_true rfl)
end Go.Proofs.YtebdbhekdadhbaaGreatDoor
