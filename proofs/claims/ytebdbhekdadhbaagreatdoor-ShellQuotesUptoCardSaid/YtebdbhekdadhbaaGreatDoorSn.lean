/- ShellQuotes: for every input that holds together at most 1048576 values and letters its function answers true, and all reads as it did; the card. No conditions. -/
import Derived.Test.YtebdbhekdadhbaaGreatDoorSp
namespace Go.Proofs.YtebdbhekdadhbaaGreatDoor
open Go Go.W Go.Proofs Go.ChangeShapes Go.WideShapes Go.ChangeAt Go.RowKit
set_option maxRecDepth 100000
theorem quotes_met (os : Os) : laidMetH Tryz.prog Rows.shellQuotesUptoRow.laid ((World.laidAll Tryz.prog os Rows.shellQuotesUptoRow.laid).forCall (fun _ _ => 0) ⟨#[], #[.slice none 0 0, .string ⟨#[]⟩], []⟩).memory := by
  rw [MakeChecks.laidMetH_plain _ _ _ (by kernel_rfl)]
  exact laidMet_laidAll _ (by kernel_rfl) (by kernel_rfl)
theorem quotes_reads (os : Os) {H : Type} (enc : TypeId × Value → H) : ∃ places, DataW.whole enc Tryz.prog ((World.laidAll Tryz.prog os Rows.shellQuotesUptoRow.laid).forCall (fun _ _ => 0) ⟨#[], #[.slice none 0 0, .string ⟨#[]⟩], []⟩).memory Tryz.f4.params.toList Rows.shellQuotesSpec.vars false #[Value.slice none 0 0, Value.string ⟨#[]⟩].toList 8 = some ([.nil, .lit (.string [])], [], places) :=
  ⟨[], by kernel_rfl⟩
theorem quotes_lifted (os : Os) (started : os.Started) (H : Type) (enc : TypeId × Value → H) (F : Stop.Interp) :
    ReturnsInHanded {} Tryz.checked os 4 .any ((Rows.OpenSpec.upto Rows.shellQuotesSpec).preRow enc Tryz.prog Tryz.f4 Rows.shellQuotesUptoRow.domain false Rows.shellQuotesUptoRow.laid) (((Rows.OpenSpec.upto Rows.shellQuotesSpec).at F).post enc Tryz.prog Tryz.f4 false true false false) := by
  have hp : Tryz.f4.params.toList = [32, 9] := by kernel_rfl
  obtain ⟨places, hx⟩ := quotes_reads os enc
  refine law_row_upto (C := Tryz.checked) (laid := Rows.shellQuotesUptoRow.laid) (bt := 4) (reg := regK) ownK started laidOutK (by kernel_rfl) Tryz.func4 ?_ (by kernel_rfl) (by kernel_rfl) rfl ?_
    ⟨World.laidAll Tryz.prog os Rows.shellQuotesUptoRow.laid, fun _ _ => 0, ⟨#[], #[.slice none 0 0, .string ⟨#[]⟩], []⟩, World.laidAll_os _ _ _, World.shaped_of_ZipB (by kernel_rfl) (by kernel_rfl), rfl, (Input.okWide_of_okWideB (by kernel_rfl)).2,
      OpenSpec.preRow_of_cond 8 hx (by kernel_rfl) (fun k hk => by cases hk; kernel_rfl) (by kernel_rfl) (quotes_met os), by simp [Assume.holds]⟩
    8 ?_ totK (fun _ _ => trivial) mixed ?_
  · rw [hp]
    exact of_decide_eq_true (by kernel_rfl)
  · intro ds hd
    have hd : ds.length = 2 := hd
    match ds, hd with
    | [d0, d1], _ => rfl
  · rw [hp]
    exact of_decide_eq_true (by kernel_rfl)
  · intro vs h
    rw [hp] at h
    obtain ⟨x0, r0, rfl, h0, x1, r1, rfl, h1, rfl⟩ := h
    obtain ⟨l, hl, hll, q0⟩ := argM (by decide) h0
    obtain ⟨t, ht, q1⟩ := argS h1
    rw [show Tryz.checked.prog = Tryz.prog from rfl, q0, q1]
    exact ⟨eL, eL_sound, 1000, Nat, 0, _, _, _, (quotes_yes l t hl (by omega) hll).go⟩
theorem shellQuotesUpto_said : Rows.ShellQuotesUptoSaid :=
  OpenClaim.holds_of_cond 4 Tryz.f4 rfl rfl rfl rfl rfl rfl rfl ⟨rfl, rfl, rfl, rfl, rfl⟩ rfl rfl rfl rfl rfl (by kernel_rfl) Tryz.func4 quotes_facts (of_decide_eq_true (by kernel_rfl))
    (by unfold Func.isWrapper; rw [if_neg (of_decide_eq_false (by kernel_rfl))]; exact ⟨rfl, rfl⟩) (fun os started H enc _ F => by rw [OpenClaim.pre_eq_preRow]; exact quotes_lifted os started H enc F)
theorem shellQuotesUpto : Rows.ShellQuotesUptoCardSaid :=
  Claim7.holds_tied_plain_at .later [] _ _ _ _ shellQuotesUpto_said (fun _ h => by cases h) (by kernel_rfl) (fun _ h => by cases h) shellQuotesUpto_row_tie rfl ⟨rfl, rfl⟩ (by kernel_rfl) rfl
    (fun f fn hf hfn => by
      obtain rfl : f = 4 := Option.some.inj ((show Tryz.prog.funcNamed "dispatch/dispatchlaw23.ShellQuotes" = some 4 by kernel_rfl).symm.trans hf) |>.symm
      obtain rfl : fn = Tryz.f4 := (Option.some.inj (Tryz.func4.symm.trans hfn)).symm
      exact ⟨by kernel_rfl, fun j t ht => by
        have hp : Tryz.f4.params.toList = [32, 9] := by kernel_rfl
        have hm : t ∈ [32, 9] := by rw [← hp]; simpa using Array.mem_of_getElem? ht
        have hall : ([32, 9].all fun u => !Tryz.prog.wantsStandIn u) = true := by kernel_rfl
        exact (show Tryz.prog.wantsStandIn t = false by simpa using List.all_eq_true.1 hall t hm)⟩)
    (goes_of Tryz.prog still _ rfl)
end Go.Proofs.YtebdbhekdadhbaaGreatDoor
