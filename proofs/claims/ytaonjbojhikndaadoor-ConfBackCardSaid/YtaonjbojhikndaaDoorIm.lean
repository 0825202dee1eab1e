/- ConfBack: for every input its function answers true, and all reads as it did; the card. No conditions. -/
import Derived.Test.YtaonjbojhikndaaDoorIl
import Derived.Test.YtaonjbojhikndaaDoorFh
import Derived.Test.YtaonjbojhikndaaDoorTie
import Derived.Test.YtaonjbojhikndaaDoorCards
import Derived.ProofKit
import Derived.OpenShut
import Derived.LaidMore
import Derived.Lay
import Derived.SevenTiedAt
import Derived.Stop.Joined
import Derived.JoinedOf
namespace Go.Proofs.YtaonjbojhikndaaDoor
open Go Go.W Go.Proofs Go.ChangeShapes Go.WideShapes Go.ChangeAt Go.RowKit
set_option maxRecDepth 100000

theorem confBack_lifted (os : Os) (started : os.Started) (H : Type) (enc : TypeId × Value → H) :
    ReturnsInHanded {} Tryd.checked os 10 .any (fun w args => (Rows.confBackSpec.pre enc Tryd.prog Tryd.f10 Rows.confBackRow.domain false w args ∧ laidMetH Tryd.prog Rows.confBackRow.laid w) ∧ sizedMet enc Tryd.prog Tryd.f10 (OpenSpec.ofChange Rows.confBackSpec) false w args)
      (Rows.confBackSpec.post enc Tryd.prog Tryd.f10 false true false false) := by
  have hp : Tryd.f10.params.toList = [24, 24, 32] := by kernel_rfl
  refine law_row_sized (C := Tryd.checked) (X := fun w _ => laidMetH Tryd.prog Rows.confBackRow.laid w) (fun _ _ _ hh h => h.of_heap hh) (bt := 4) (reg := regK) ownK started laidOutK (by kernel_rfl) Tryd.func10 ?_ (by kernel_rfl) (by kernel_rfl) rfl ?_
    (ChangeSpec.witness_shaped (enc := enc) (C := Tryd.checked) (os := os) (X := fun w _ => laidMetH Tryd.prog Rows.confBackRow.laid w) false (World.laidAll Tryd.prog os Rows.confBackRow.laid) #[.agg #[.int .i64 0, .slice none 0 0], .agg #[.int .i64 0, .slice none 0 0], .agg #[.slice none 0 0, .slice none 0 0]] 8 (World.laidAll_os _ _ _)
      (World.shaped_of_ZipB (by kernel_rfl) (by kernel_rfl)) (by kernel_rfl) (by kernel_rfl) (by kernel_rfl)
      (by rw [MakeChecks.laidMetH_plain _ _ _ (by kernel_rfl)]; exact laidMet_laidAll _ (by kernel_rfl) (by kernel_rfl)))
    8 ?_ totK (fun w _ h => tab_of h) mixed ?_
  · rw [hp]
    exact of_decide_eq_true (by kernel_rfl)
  · intro ds hd
    have hd : ds.length = 3 := hd
    match ds, hd with
    | [d0, d1, d2], _ => rfl
  · rw [hp]
    exact of_decide_eq_true (by kernel_rfl)
  · intro vs h
    rw [hp] at h
    obtain ⟨x0, r0, rfl, h0, x1, r1, rfl, h1, x2, r2, rfl, h2, rfl⟩ := h
    obtain ⟨a0, b0, q0⟩ := argk24 (WTB.weak (by decide) h0)
    obtain ⟨a1, b1, q1⟩ := argk24 (WTB.weak (by decide) h1)
    obtain ⟨x, hz, q2⟩ := argk32 h2
    rw [show Tryd.checked.prog = Tryd.prog from rfl, q0, q1, q2]
    exact ⟨e40, e40_sound, 1000, Nat, _, _, _, _, (back_yes ⟨⟨a0, b0⟩, ⟨a1, b1⟩, x⟩ hz).go⟩

theorem confBack_said : Rows.ConfBackSaid :=
  OpenClaim.holds_of_wide 10 Tryd.f10 rfl rfl rfl rfl rfl rfl rfl ⟨rfl, rfl, rfl, rfl, rfl⟩ rfl rfl rfl rfl rfl (by kernel_rfl) Tryd.func10 (by kernel_rfl) (of_decide_eq_true (by kernel_rfl))
    (by unfold Func.isWrapper; rw [if_neg (of_decide_eq_false (by kernel_rfl))]; exact ⟨rfl, rfl⟩) (fun os started H enc _ => confBack_lifted os started H enc)

theorem confBack : Rows.ConfBackCardSaid :=
  Claim7.holds_tied_plain_at .later [] [.data, .data, .data, .data, .sentinel, .sentinel, .pinned] true (true, "3955a4d9c3c06f77ccf7f0c4eeef76df07fd10dd78a7c1068d8528640abb0dd6") true confBack_said (fun _ h => by cases h) (by kernel_rfl) (fun _ h => by cases h) confBack_row_tie rfl ⟨rfl, rfl⟩ (by kernel_rfl) rfl
    (fun f fn hf hfn => by
      obtain rfl : f = 10 := Option.some.inj ((show Tryd.prog.funcNamed "dispatch/dispatchlaw5.ConfBack" = some 10 by kernel_rfl).symm.trans hf) |>.symm
      obtain rfl : fn = Tryd.f10 := (Option.some.inj (Tryd.func10.symm.trans hfn)).symm
      exact ⟨by kernel_rfl, fun j t ht => by
        have hp : Tryd.f10.params.toList = [24, 24, 32] := by kernel_rfl
        have hm : t ∈ [24, 24, 32] := by rw [← hp]; simpa using Array.mem_of_getElem? ht
        have hall : ([24, 24, 32].all fun u => !Tryd.prog.wantsStandIn u) = true := by kernel_rfl
        exact (show Tryd.prog.wantsStandIn t = false by simpa using List.all_eq_true.1 hall t hm)⟩)
    (by kernel_rfl)
end Go.Proofs.YtaonjbojhikndaaDoor
