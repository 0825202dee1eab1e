/- ConfOrder: for every input its function answers true, and all reads as it did; the card. No conditions. -/
import Derived.Test.YtaonjbojhikndaaDoorGe
import Derived.Test.YtaonjbojhikndaaDoorFh
import Derived.Test.YtaonjbojhikndaaDoorTie
import Derived.Test.YtaonjbojhikndaaDoorCards
import Derived.ProofKit
import Derived.OpenShut
import Derived.LaidMore
import Derived.Lay
import Derived.SevenTiedAt
import Derived.Stop.Joined
import Derived.JoinedOf
namespace Go.Proofs.YtaonjbojhikndaaDoor
open Go Go.W Go.Proofs Go.ChangeShapes Go.WideShapes Go.ChangeAt Go.RowKit
set_option maxRecDepth 100000

theorem wtk25 {n : Nat} {vs : List (D regK.T)} (h : WT regK Tryd.prog n 25 vs) : ∃ xs : List Int, vs = [.sl 3 xs] := by
  cases n with
  | zero => exact h.elim
  | succ n =>
    have hu : Tryd.prog.underlying 25 = some (.slice 3) := by kernel_rfl
    simp only [WT, hu] at h
    obtain ⟨xs, h, _⟩ := h
    exact ⟨xs, h⟩
theorem argk25 {n : Nat} {ds : List (D regK.T)} (h : WT regK Tryd.prog n 25 ds) : ∃ xs : List Int, typV regK Tryd.prog 25 ds = .d (.sl 3 xs) := by
  obtain ⟨xs, rfl⟩ := wtk25 h
  exact ⟨xs, by kernel_rfl⟩
theorem confOrder_lifted (os : Os) (started : os.Started) (H : Type) (enc : TypeId × Value → H) :
    ReturnsInHanded {} Tryd.checked os 4 .any (fun w args => (Rows.confOrderSpec.pre enc Tryd.prog Tryd.f4 Rows.confOrderRow.domain false w args ∧ laidMetH Tryd.prog Rows.confOrderRow.laid w) ∧ sizedMet enc Tryd.prog Tryd.f4 (OpenSpec.ofChange Rows.confOrderSpec) false w args)
      (Rows.confOrderSpec.post enc Tryd.prog Tryd.f4 false true false false) := by
  have hp : Tryd.f4.params.toList = [25, 4] := by kernel_rfl
  refine law_row_and (C := Tryd.checked) (X := fun w _ => laidMetH Tryd.prog Rows.confOrderRow.laid w) (fun _ _ _ hh h => h.of_heap hh) (bt := 4) (reg := regK) ownK started laidOutK (by kernel_rfl) Tryd.func4 ?_ (by kernel_rfl) (by kernel_rfl) rfl ?_
    (ChangeSpec.witness_shaped (enc := enc) (C := Tryd.checked) (os := os) (X := fun w _ => laidMetH Tryd.prog Rows.confOrderRow.laid w) false (World.laidAll Tryd.prog os Rows.confOrderRow.laid) #[.slice none 0 0, .bool false] 8 (World.laidAll_os _ _ _)
      (World.shaped_of_ZipB (by kernel_rfl) (by kernel_rfl)) (by kernel_rfl) (by kernel_rfl) (by kernel_rfl)
      (by rw [MakeChecks.laidMetH_plain _ _ _ (by kernel_rfl)]; exact laidMet_laidAll _ (by kernel_rfl) (by kernel_rfl)))
    4 ?_ totK mixed ?_
  · rw [hp]
    exact of_decide_eq_true (by kernel_rfl)
  · intro ds hd
    have hd : ds.length = 2 := hd
    match ds, hd with
    | [d0, d1], _ => rfl
  · rw [hp]
    exact of_decide_eq_true (by kernel_rfl)
  · intro vs h
    rw [hp] at h
    obtain ⟨x0, r0, rfl, h0, x1, r1, rfl, h1, rfl⟩ := h
    obtain ⟨a0, q0⟩ := argk25 h0
    obtain ⟨a1, q1⟩ := argk4 h1
    rw [show Tryd.checked.prog = Tryd.prog from rfl, q0, q1]
    exact ⟨e17, e17_sound, 1000, GO, _, _, _, _, (order_yes a0 a1).go⟩

theorem confOrder_said : Rows.ConfOrderSaid :=
  OpenClaim.holds_of_wide 4 Tryd.f4 rfl rfl rfl rfl rfl rfl rfl ⟨rfl, rfl, rfl, rfl, rfl⟩ rfl rfl rfl rfl rfl (by kernel_rfl) Tryd.func4 (by kernel_rfl) (of_decide_eq_true (by kernel_rfl))
    (by unfold Func.isWrapper; rw [if_neg (of_decide_eq_false (by kernel_rfl))]; exact ⟨rfl, rfl⟩) (fun os started H enc _ => confOrder_lifted os started H enc)

theorem confOrder : Rows.ConfOrderCardSaid :=
  Claim7.holds_tied_plain_at .later [] [.data, .data, .data, .data, .sentinel, .sentinel, .pinned] true (true, "3955a4d9c3c06f77ccf7f0c4eeef76df07fd10dd78a7c1068d8528640abb0dd6") true confOrder_said (fun _ h => by cases h) (by kernel_rfl) (fun _ h => by cases h) confOrder_row_tie rfl ⟨rfl, rfl⟩ (by kernel_rfl) rfl
    (fun f fn hf hfn => by
      obtain rfl : f = 4 := Option.some.inj ((show Tryd.prog.funcNamed "dispatch/dispatchlaw5.ConfOrder" = some 4 by kernel_rfl).symm.trans hf) |>.symm
      obtain rfl : fn = Tryd.f4 := (Option.some.inj (Tryd.func4.symm.trans hfn)).symm
      exact ⟨by kernel_rfl, fun j t ht => by
        have hp : Tryd.f4.params.toList = [25, 4] := by kernel_rfl
        have hm : t ∈ [25, 4] := by rw [← hp]; simpa using Array.mem_of_getElem? ht
        have hall : ([25, 4].all fun u => !Tryd.prog.wantsStandIn u) = true := by kernel_rfl
        exact (show Tryd.prog.wantsStandIn t = false by simpa using List.all_eq_true.1 hall t hm)⟩)
    (by kernel_rfl)
end Go.Proofs.YtaonjbojhikndaaDoor
