/- ConfBounds: for every input its function answers true, and all reads as it did; the card. No conditions. -/
import Derived.Test.YtaonjbojhikndaaDoorFg
import Derived.Test.YtaonjbojhikndaaDoorFh
import Derived.Test.YtaonjbojhikndaaDoorTie
import Derived.Test.YtaonjbojhikndaaDoorCards
import Derived.ProofKit
import Derived.OpenShut
import Derived.LaidMore
import Derived.Lay
import Derived.SevenTiedAt
import Derived.Stop.Joined
import Derived.JoinedOf
namespace Go.Proofs.YtaonjbojhikndaaDoor
open Go Go.W Go.Proofs Go.ChangeShapes Go.WideShapes Go.ChangeAt Go.RowKit
set_option maxRecDepth 100000

theorem confBounds_lifted (os : Os) (started : os.Started) (H : Type) (enc : TypeId × Value → H) :
    ReturnsInHanded {} Tryd.checked os 6 .any (fun w args => (Rows.confBoundsSpec.pre enc Tryd.prog Tryd.f6 Rows.confBoundsRow.domain false w args ∧ laidMetH Tryd.prog Rows.confBoundsRow.laid w) ∧ sizedMet enc Tryd.prog Tryd.f6 (OpenSpec.ofChange Rows.confBoundsSpec) false w args)
      (Rows.confBoundsSpec.post enc Tryd.prog Tryd.f6 false true false false) := by
  have hp : Tryd.f6.params.toList = [3, 4] := by kernel_rfl
  refine law_row_and (C := Tryd.checked) (X := fun w _ => laidMetH Tryd.prog Rows.confBoundsRow.laid w) (fun _ _ _ hh h => h.of_heap hh) (bt := 4) (reg := regK) ownK started laidOutK (by kernel_rfl) Tryd.func6 ?_ (by kernel_rfl) (by kernel_rfl) rfl ?_
    (ChangeSpec.witness_shaped (enc := enc) (C := Tryd.checked) (os := os) (X := fun w _ => laidMetH Tryd.prog Rows.confBoundsRow.laid w) false (World.laidAll Tryd.prog os Rows.confBoundsRow.laid) #[.int .i64 0, .bool false] 8 (World.laidAll_os _ _ _)
      (World.shaped_of_ZipB (by kernel_rfl) (by kernel_rfl)) (by kernel_rfl) (by kernel_rfl) (by kernel_rfl)
      (by rw [MakeChecks.laidMetH_plain _ _ _ (by kernel_rfl)]; exact laidMet_laidAll _ (by kernel_rfl) (by kernel_rfl)))
    6 ?_ totK mixed ?_
  · rw [hp]
    exact of_decide_eq_true (by kernel_rfl)
  · intro ds hd
    have hd : ds.length = 2 := hd
    match ds, hd with
    | [d0, d1], _ => rfl
  · rw [hp]
    exact of_decide_eq_true (by kernel_rfl)
  · intro vs h
    rw [hp] at h
    obtain ⟨x0, r0, rfl, h0, x1, r1, rfl, h1, rfl⟩ := h
    obtain ⟨a0, q0⟩ := argk3 h0
    obtain ⟨a1, q1⟩ := argk4 h1
    rw [show Tryd.checked.prog = Tryd.prog from rfl, q0, q1]
    obtain ⟨v, hv⟩ := bounds_yes a0 a1
    obtain ⟨L, hL⟩ := hv.go
    exact ⟨e16 v, e16_sound v, 1000, Unit, (), _, L, _, hL⟩

theorem confBounds_said : Rows.ConfBoundsSaid :=
  OpenClaim.holds_of_wide 6 Tryd.f6 rfl rfl rfl rfl rfl rfl rfl ⟨rfl, rfl, rfl, rfl, rfl⟩ rfl rfl rfl rfl rfl (by kernel_rfl) Tryd.func6 (by kernel_rfl) (of_decide_eq_true (by kernel_rfl))
    (by unfold Func.isWrapper; rw [if_neg (of_decide_eq_false (by kernel_rfl))]; exact ⟨rfl, rfl⟩) (fun os started H enc _ => confBounds_lifted os started H enc)

theorem confBounds : Rows.ConfBoundsCardSaid :=
  Claim7.holds_tied_plain_at .later [] [.data, .data, .data, .data, .sentinel, .sentinel, .pinned] true (true, "3955a4d9c3c06f77ccf7f0c4eeef76df07fd10dd78a7c1068d8528640abb0dd6") true confBounds_said (fun _ h => by cases h) (by kernel_rfl) (fun _ h => by cases h) confBounds_row_tie rfl ⟨rfl, rfl⟩ (by kernel_rfl) rfl
    (fun f fn hf hfn => by
      obtain rfl : f = 6 := Option.some.inj ((show Tryd.prog.funcNamed "dispatch/dispatchlaw5.ConfBounds" = some 6 by kernel_rfl).symm.trans hf) |>.symm
      obtain rfl : fn = Tryd.f6 := (Option.some.inj (Tryd.func6.symm.trans hfn)).symm
      exact ⟨by kernel_rfl, fun j t ht => by
        have hp : Tryd.f6.params.toList = [3, 4] := by kernel_rfl
        have hm : t ∈ [3, 4] := by rw [← hp]; simpa using Array.mem_of_getElem? ht
        have hall : ([3, 4].all fun u => !Tryd.prog.wantsStandIn u) = true := by kernel_rfl
        exact (show Tryd.prog.wantsStandIn t = false by simpa using List.all_eq_true.1 hall t hm)⟩)
    (by kernel_rfl)
end Go.Proofs.YtaonjbojhikndaaDoor
