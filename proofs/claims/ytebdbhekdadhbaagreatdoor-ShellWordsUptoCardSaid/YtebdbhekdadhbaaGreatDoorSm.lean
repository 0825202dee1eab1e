/- ShellWords: for every input that holds together at most 1048576 values and letters its function answers true, and all reads as it did; the card. No conditions. -/
import Derived.Test.YtebdbhekdadhbaaGreatDoorSo
namespace Go.Proofs.YtebdbhekdadhbaaGreatDoor
open Go Go.W Go.Proofs Go.ChangeShapes Go.WideShapes Go.ChangeAt Go.RowKit
set_option maxRecDepth 100000
theorem words_met (os : Os) : laidMetH Tryz.prog Rows.shellWordsUptoRow.laid ((World.laidAll Tryz.prog os Rows.shellWordsUptoRow.laid).forCall (fun _ _ => 0) ⟨#[], #[.string ⟨#[]⟩, .slice none 0 0], []⟩).memory := by
  rw [MakeChecks.laidMetH_plain _ _ _ (by kernel_rfl)]
  exact laidMet_laidAll _ (by kernel_rfl) (by kernel_rfl)
theorem words_reads (os : Os) {H : Type} (enc : TypeId × Value → H) : ∃ places, DataW.whole enc Tryz.prog ((World.laidAll Tryz.prog os Rows.shellWordsUptoRow.laid).forCall (fun _ _ => 0) ⟨#[], #[.string ⟨#[]⟩, .slice none 0 0], []⟩).memory Tryz.f3.params.toList Rows.shellWordsSpec.vars false #[Value.string ⟨#[]⟩, Value.slice none 0 0].toList 8 = some ([.lit (.string []), .nil], [], places) :=
  ⟨[], by kernel_rfl⟩
theorem words_lifted (os : Os) (started : os.Started) (H : Type) (enc : TypeId × Value → H) (F : Stop.Interp) :
    ReturnsInHanded {} Tryz.checked os 3 .any ((Rows.OpenSpec.upto Rows.shellWordsSpec).preRow enc Tryz.prog Tryz.f3 Rows.shellWordsUptoRow.domain false Rows.shellWordsUptoRow.laid) (((Rows.OpenSpec.upto Rows.shellWordsSpec).at F).post enc Tryz.prog Tryz.f3 false true false false) := by
  have hp : Tryz.f3.params.toList = [9, 22] := by kernel_rfl
  obtain ⟨places, hx⟩ := words_reads os enc
  refine law_row_upto (C := Tryz.checked) (laid := Rows.shellWordsUptoRow.laid) (bt := 4) (reg := regK) ownK started laidOutK (by kernel_rfl) Tryz.func3 ?_ (by kernel_rfl) (by kernel_rfl) rfl ?_
    ⟨World.laidAll Tryz.prog os Rows.shellWordsUptoRow.laid, fun _ _ => 0, ⟨#[], #[.string ⟨#[]⟩, .slice none 0 0], []⟩, World.laidAll_os _ _ _, World.shaped_of_ZipB (by kernel_rfl) (by kernel_rfl), rfl, (Input.okWide_of_okWideB (by kernel_rfl)).2,
      OpenSpec.preRow_of_cond 8 hx (by kernel_rfl) (fun k hk => by cases hk; kernel_rfl) (by kernel_rfl) (words_met os), by simp [Assume.holds]⟩
    8 ?_ totK (fun _ _ => trivial) mixed ?_
  · rw [hp]
    exact of_decide_eq_true (by kernel_rfl)
  · intro ds hd
    have hd : ds.length = 2 := hd
    match ds, hd with
    | [d0, d1], _ => rfl
  · rw [hp]
    exact of_decide_eq_true (by kernel_rfl)
  · intro vs h
    rw [hp] at h
    obtain ⟨x0, r0, rfl, h0, x1, r1, rfl, h1, rfl⟩ := h
    obtain ⟨s, hs, q0⟩ := argS h0
    obtain ⟨b, hb, q1⟩ := argL (by decide) h1
    rw [show Tryz.checked.prog = Tryz.prog from rfl, q0, q1]
    exact ⟨eL, eL_sound, 1000, Nat, 0, _, _, _, (words_yes s b (by omega) hb).go⟩
theorem shellWordsUpto_said : Rows.ShellWordsUptoSaid :=
  OpenClaim.holds_of_cond 3 Tryz.f3 rfl rfl rfl rfl rfl rfl rfl ⟨rfl, rfl, rfl, rfl, rfl⟩ rfl rfl rfl rfl rfl (by kernel_rfl) Tryz.func3 words_facts (of_decide_eq_true (by kernel_rfl))
    (by unfold Func.isWrapper; rw [if_neg (of_decide_eq_false (by kernel_rfl))]; exact ⟨rfl, rfl⟩) (fun os started H enc _ F => by rw [OpenClaim.pre_eq_preRow]; exact words_lifted os started H enc F)
theorem shellWordsUpto : Rows.ShellWordsUptoCardSaid :=
  Claim7.holds_tied_plain_at .later [] _ _ _ _ shellWordsUpto_said (fun _ h => by cases h) (by kernel_rfl) (fun _ h => by cases h) shellWordsUpto_row_tie rfl ⟨rfl, rfl⟩ (by kernel_rfl) rfl
    (fun f fn hf hfn => by
      obtain rfl : f = 3 := Option.some.inj ((show Tryz.prog.funcNamed "dispatch/dispatchlaw23.ShellWords" = some 3 by kernel_rfl).symm.trans hf) |>.symm
      obtain rfl : fn = Tryz.f3 := (Option.some.inj (Tryz.func3.symm.trans hfn)).symm
      exact ⟨by kernel_rfl, fun j t ht => by
        have hp : Tryz.f3.params.toList = [9, 22] := by kernel_rfl
        have hm : t ∈ [9, 22] := by rw [← hp]; simpa using Array.mem_of_getElem? ht
        have hall : ([9, 22].all fun u => !Tryz.prog.wantsStandIn u) = true := by kernel_rfl
        exact (show Tryz.prog.wantsStandIn t = false by simpa using List.all_eq_true.1 hall t hm)⟩)
    (goes_of Tryz.prog still _ rfl)
end Go.Proofs.YtebdbhekdadhbaaGreatDoor
