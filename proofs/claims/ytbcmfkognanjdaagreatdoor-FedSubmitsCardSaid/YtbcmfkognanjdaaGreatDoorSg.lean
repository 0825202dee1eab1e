/- FedSubmits: for every input its function answers true, and all reads as it did; the card. No conditions. -/
import Derived.Test.YtbcmfkognanjdaaGreatDoorSd
import Derived.Test.YtbcmfkognanjdaaGreatDoorSf
namespace Go.Proofs.YtbcmfkognanjdaaGreatDoor
open Go Go.W Go.Proofs Go.ChangeShapes Go.WideShapes Go.ChangeAt Go.RowKit
set_option maxRecDepth 100000
theorem fs_lifted (os : Os) (started : os.Started) (H : Type) (enc : TypeId × Value → H) :
    ReturnsInHanded {} Tryz.checked os 3 .any (fun w args => (Rows.fedSubmitsSpec.pre enc Tryz.prog Tryz.f3 Rows.fedSubmitsRow.domain false w args ∧ laidMetH Tryz.prog Rows.fedSubmitsRow.laid w) ∧ sizedMet enc Tryz.prog Tryz.f3 (OpenSpec.ofChange Rows.fedSubmitsSpec) false w args)
      (Rows.fedSubmitsSpec.post enc Tryz.prog Tryz.f3 false true false false) := by
  have hp : Tryz.f3.params.toList = [3, 4] := by kernel_rfl
  refine law_row_runK (C := Tryz.checked) (X := fun w _ => laidMetH Tryz.prog Rows.fedSubmitsRow.laid w) (fun _ _ _ hh h => h.of_heap hh) (bt := 4) (reg := reg0) ownK started laidOutK (by kernel_rfl) Tryz.func3 ?_ (by kernel_rfl) (by kernel_rfl) rfl ?_
    (ChangeSpec.witness_shaped (enc := enc) (C := Tryz.checked) (os := os) (X := fun w _ => laidMetH Tryz.prog Rows.fedSubmitsRow.laid w) false (World.laidAll Tryz.prog os Rows.fedSubmitsRow.laid) #[.int .i64 0, .bool false] 8 (World.laidAll_os _ _ _)
      (World.shaped_of_ZipB (by kernel_rfl) (by kernel_rfl)) (by kernel_rfl) (by kernel_rfl) (by kernel_rfl)
      (by rw [MakeChecks.laidMetH_plain _ _ _ (by kernel_rfl)]; exact laidMet_laidAll _ (by kernel_rfl) (by kernel_rfl)))
    6 ?_ tot0 (fun _ _ _ => trivial) mixed hno ?_
  · rw [hp]
    exact of_decide_eq_true (by kernel_rfl)
  · intro ds hd
    have hd : ds.length = 2 := hd
    match ds, hd with
    | [d0, d1], _ => rfl
  · rw [hp]
    exact of_decide_eq_true (by kernel_rfl)
  · intro vs h
    rw [hp] at h
    obtain ⟨x0, r0, rfl, h0, x1, r1, rfl, h1, rfl⟩ := h
    obtain ⟨a0, q0⟩ := argI h0
    obtain ⟨a1, q1⟩ := argB h1
    rw [show Tryz.checked.prog = Tryz.prog from rfl, q0, q1]
    obtain ⟨l, hv⟩ := fs_yes a0 a1
    refine ⟨fsH l, fsH_sound l, 1000, ?_⟩
    exact hv.go
theorem fedSubmits_said : Rows.FedSubmitsSaid :=
  OpenClaim.holds_of_wide 3 Tryz.f3 rfl rfl rfl rfl rfl rfl rfl ⟨rfl, rfl, rfl, rfl, rfl⟩ rfl rfl rfl rfl rfl (by kernel_rfl) Tryz.func3 fs_facts (of_decide_eq_true (by kernel_rfl))
    (by unfold Func.isWrapper; rw [if_neg (of_decide_eq_false (by kernel_rfl))]; exact ⟨rfl, rfl⟩) (fun os started H enc _ => fs_lifted os started H enc)
theorem fedSubmits : Rows.FedSubmitsCardSaid :=
  Claim7.holds_tied_plain_at .later [] _ _ _ _ fedSubmits_said (fun _ h => by cases h) (by kernel_rfl) (fun _ h => by cases h) fedSubmits_row_tie rfl ⟨rfl, rfl⟩ (by kernel_rfl) rfl
    (fun f fn hf hfn => by
      obtain rfl : f = 3 := Option.some.inj ((show Tryz.prog.funcNamed "dispatch/dispatchlaw22.FedSubmits" = some 3 by kernel_rfl).symm.trans hf) |>.symm
      obtain rfl : fn = Tryz.f3 := (Option.some.inj (Tryz.func3.symm.trans hfn)).symm
      exact ⟨by kernel_rfl, fun j t ht => by
        have hp : Tryz.f3.params.toList = [3, 4] := by kernel_rfl
        have hm : t ∈ [3, 4] := by rw [← hp]; simpa using Array.mem_of_getElem? ht
        have hall : ([3, 4].all fun u => !Tryz.prog.wantsStandIn u) = true := by kernel_rfl
        exact (show Tryz.prog.wantsStandIn t = false by simpa using List.all_eq_true.1 hall t hm)⟩)
    (goes_of Tryz.prog still _ rfl)
end Go.Proofs.YtbcmfkognanjdaaGreatDoor
