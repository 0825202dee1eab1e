/- ConfAgain: for every input its function answers true, and all reads as it did; the card. No conditions. -/
import Derived.Test.YtaonjbojhikndaaDoorJg
import Derived.Test.YtaonjbojhikndaaDoorIt
import Derived.Test.YtaonjbojhikndaaDoorFh
import Derived.Test.YtaonjbojhikndaaDoorTie
import Derived.Test.YtaonjbojhikndaaDoorCards
import Derived.ProofKit
import Derived.OpenShut
import Derived.LaidMore
import Derived.Lay
import Derived.SevenTiedAt
import Derived.Stop.Joined
import Derived.JoinedOf
namespace Go.Proofs.YtaonjbojhikndaaDoor
open Go Go.W Go.Proofs Go.ChangeShapes Go.WideShapes Go.ChangeAt Go.RowKit
set_option maxRecDepth 100000

theorem confAgain_lifted (os : Os) (started : os.Started) (H : Type) (enc : TypeId × Value → H) :
    ReturnsInHanded {} Tryd.checked os 8 .any (fun w args => (Rows.confAgainSpec.pre enc Tryd.prog Tryd.f8 Rows.confAgainRow.domain false w args ∧ laidMetH Tryd.prog Rows.confAgainRow.laid w) ∧ sizedMet enc Tryd.prog Tryd.f8 (OpenSpec.ofChange Rows.confAgainSpec) false w args)
      (Rows.confAgainSpec.post enc Tryd.prog Tryd.f8 false true false false) := by
  have hp : Tryd.f8.params.toList = [25, 24, 3] := by kernel_rfl
  refine law_row_and (C := Tryd.checked) (X := fun w _ => laidMetH Tryd.prog Rows.confAgainRow.laid w) (fun _ _ _ hh h => h.of_heap hh) (bt := 4) (reg := regK) ownK started laidOutK (by kernel_rfl) Tryd.func8 ?_ (by kernel_rfl) (by kernel_rfl) rfl ?_
    (ChangeSpec.witness_shaped (enc := enc) (C := Tryd.checked) (os := os) (X := fun w _ => laidMetH Tryd.prog Rows.confAgainRow.laid w) false (World.laidAll Tryd.prog os Rows.confAgainRow.laid) #[.slice none 0 0, .agg #[.int .i64 0, .slice none 0 0], .int .i64 0] 8 (World.laidAll_os _ _ _)
      (World.shaped_of_ZipB (by kernel_rfl) (by kernel_rfl)) (by kernel_rfl) (by kernel_rfl) (by kernel_rfl)
      (by rw [MakeChecks.laidMetH_plain _ _ _ (by kernel_rfl)]; exact laidMet_laidAll _ (by kernel_rfl) (by kernel_rfl)))
    8 ?_ totK (fun w _ h => tab_of h) mixed ?_
  · rw [hp]
    exact of_decide_eq_true (by kernel_rfl)
  · intro ds hd
    have hd : ds.length = 3 := hd
    match ds, hd with
    | [d0, d1, d2], _ => rfl
  · rw [hp]
    exact of_decide_eq_true (by kernel_rfl)
  · intro vs h
    rw [hp] at h
    obtain ⟨x0, r0, rfl, h0, x1, r1, rfl, h1, x2, r2, rfl, h2, rfl⟩ := h
    obtain ⟨a0, q0⟩ := argk25 h0
    obtain ⟨a1, b1, q1⟩ := argk24 h1
    obtain ⟨a2, q2⟩ := argk3 h2
    rw [show Tryd.checked.prog = Tryd.prog from rfl, q0, q1, q2]
    exact ⟨e32, e32_sound, 1000, Nat, _, _, _, _, (again_yes ⟨[], ⟨a1, b1⟩, a2, a0⟩).go⟩

theorem confAgain_said : Rows.ConfAgainSaid :=
  OpenClaim.holds_of_wide 8 Tryd.f8 rfl rfl rfl rfl rfl rfl rfl ⟨rfl, rfl, rfl, rfl, rfl⟩ rfl rfl rfl rfl rfl (by kernel_rfl) Tryd.func8 (by kernel_rfl) (of_decide_eq_true (by kernel_rfl))
    (by unfold Func.isWrapper; rw [if_neg (of_decide_eq_false (by kernel_rfl))]; exact ⟨rfl, rfl⟩) (fun os started H enc _ => confAgain_lifted os started H enc)

theorem confAgain : Rows.ConfAgainCardSaid :=
  Claim7.holds_tied_plain_at .later [] [.data, .data, .data, .data, .sentinel, .sentinel, .pinned] true (true, "3955a4d9c3c06f77ccf7f0c4eeef76df07fd10dd78a7c1068d8528640abb0dd6") true confAgain_said (fun _ h => by cases h) (by kernel_rfl) (fun _ h => by cases h) confAgain_row_tie rfl ⟨rfl, rfl⟩ (by kernel_rfl) rfl
    (fun f fn hf hfn => by
      obtain rfl : f = 8 := Option.some.inj ((show Tryd.prog.funcNamed "dispatch/dispatchlaw5.ConfAgain" = some 8 by kernel_rfl).symm.trans hf) |>.symm
      obtain rfl : fn = Tryd.f8 := (Option.some.inj (Tryd.func8.symm.trans hfn)).symm
      exact ⟨by kernel_rfl, fun j t ht => by
        have hp : Tryd.f8.params.toList = [25, 24, 3] := by kernel_rfl
        have hm : t ∈ [25, 24, 3] := by rw [← hp]; simpa using Array.mem_of_getElem? ht
        have hall : ([25, 24, 3].all fun u => !Tryd.prog.wantsStandIn u) = true := by kernel_rfl
        exact (show Tryd.prog.wantsStandIn t = false by simpa using List.all_eq_true.1 hall t hm)⟩)
    (by kernel_rfl)
end Go.Proofs.YtaonjbojhikndaaDoor
