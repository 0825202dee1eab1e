/- ConfParses: for every input its function answers true, and all reads as it did; the card. No conditions. -/
import Derived.Test.YtaonjbojhikndaaDoorHj
import Derived.Test.YtaonjbojhikndaaDoorFh
import Derived.Test.YtaonjbojhikndaaDoorTie
import Derived.Test.YtaonjbojhikndaaDoorCards
import Derived.ProofKit
import Derived.OpenShut
import Derived.LaidMore
import Derived.Lay
import Derived.SevenTiedAt
import Derived.Stop.Joined
import Derived.JoinedOf
namespace Go.Proofs.YtaonjbojhikndaaDoor
open Go Go.W Go.Proofs Go.ChangeShapes Go.WideShapes Go.ChangeAt Go.RowKit
set_option maxRecDepth 100000

theorem wtk25 {n : Nat} {vs : List (D regK.T)} (h : WT regK Tryd.prog n 25 vs) : ∃ xs : List Int, vs = [.sl 3 xs] := by
  cases n with
  | zero => exact h.elim
  | succ n =>
    have hu : Tryd.prog.underlying 25 = some (.slice 3) := by kernel_rfl
    simp only [WT, hu] at h
    obtain ⟨xs, h, _⟩ := h
    exact ⟨xs, h⟩
theorem argk25 {n : Nat} {ds : List (D regK.T)} (h : WT regK Tryd.prog n 25 ds) : ∃ xs : List Int, typV regK Tryd.prog 25 ds = .d (.sl 3 xs) := by
  obtain ⟨xs, rfl⟩ := wtk25 h
  exact ⟨xs, by kernel_rfl⟩
theorem argk9 {n : Nat} {ds : List (D regK.T)} (h : WT regK Tryd.prog n 9 ds) : ∃ s : B, typV regK Tryd.prog 9 ds = ks s := by
  obtain ⟨m, rfl⟩ := wtk9 h
  exact ⟨m, by kernel_rfl⟩
theorem wtk24 {n : Nat} {vs : List (D regK.T)} (h : WT regK Tryd.prog n 24 vs) : ∃ (l : Int) (qs : List Rq), vs = [.int .i64 l, .sl 58 qs] := by
  obtain ⟨k, rfl⟩ := two (t := 24) (k := 1) (by kernel_rfl) ⟨(match Tryd.prog.underlying 24 with | some (.struct fs) => fs | _ => #[]), by kernel_rfl⟩ (by kernel_rfl) h
  have e : shOf Tryd.prog (k + 2) 24 = [.i .i64, .l 58] := by kernel_rfl
  have h := h.flat
  rw [e] at h
  obtain ⟨a, _, rfl, _, c, _, rfl, _, _, rfl⟩ := h
  exact ⟨a, c, rfl⟩
theorem argk24 {n : Nat} {ds : List (D regK.T)} (h : WT regK Tryd.prog n 24 ds) : ∃ (l : Int) (qs : List Rq), typV regK Tryd.prog 24 ds = .agg [ki l, .d (.sl 58 qs)] := by
  obtain ⟨l, qs, rfl⟩ := wtk24 h
  exact ⟨l, qs, by kernel_rfl⟩
theorem confParses_lifted (os : Os) (started : os.Started) (H : Type) (enc : TypeId × Value → H) :
    ReturnsInHanded {} Tryd.checked os 3 .any (fun w args => (Rows.confParsesSpec.pre enc Tryd.prog Tryd.f3 Rows.confParsesRow.domain false w args ∧ laidMetH Tryd.prog Rows.confParsesRow.laid w) ∧ sizedMet enc Tryd.prog Tryd.f3 (OpenSpec.ofChange Rows.confParsesSpec) false w args)
      (Rows.confParsesSpec.post enc Tryd.prog Tryd.f3 false true false false) := by
  have hp : Tryd.f3.params.toList = [9, 24, 3, 25] := by kernel_rfl
  refine law_row_and (C := Tryd.checked) (X := fun w _ => laidMetH Tryd.prog Rows.confParsesRow.laid w) (fun _ _ _ hh h => h.of_heap hh) (bt := 4) (reg := regK) ownK started laidOutK (by kernel_rfl) Tryd.func3 ?_ (by kernel_rfl) (by kernel_rfl) rfl ?_
    (ChangeSpec.witness_shaped (enc := enc) (C := Tryd.checked) (os := os) (X := fun w _ => laidMetH Tryd.prog Rows.confParsesRow.laid w) false (World.laidAll Tryd.prog os Rows.confParsesRow.laid) #[.string ⟨#[]⟩, .agg #[.int .i64 0, .slice none 0 0], .int .i64 0, .slice none 0 0] 8 (World.laidAll_os _ _ _)
      (World.shaped_of_ZipB (by kernel_rfl) (by kernel_rfl)) (by kernel_rfl) (by kernel_rfl) (by kernel_rfl)
      (by rw [MakeChecks.laidMetH_plain _ _ _ (by kernel_rfl)]; exact laidMet_laidAll _ (by kernel_rfl) (by kernel_rfl)))
    8 ?_ totK mixed ?_
  · rw [hp]
    exact of_decide_eq_true (by kernel_rfl)
  · intro ds hd
    have hd : ds.length = 4 := hd
    match ds, hd with
    | [d0, d1, d2, d3], _ => rfl
  · rw [hp]
    exact of_decide_eq_true (by kernel_rfl)
  · intro vs h
    rw [hp] at h
    obtain ⟨x0, r0, rfl, h0, x1, r1, rfl, h1, x2, r2, rfl, h2, x3, r3, rfl, h3, rfl⟩ := h
    obtain ⟨a0, q0⟩ := argk9 h0
    obtain ⟨a1, b1, q1⟩ := argk24 h1
    obtain ⟨a2, q2⟩ := argk3 h2
    obtain ⟨a3, q3⟩ := argk25 h3
    rw [show Tryd.checked.prog = Tryd.prog from rfl, q0, q1, q2, q3]
    exact ⟨e30, e30_sound, 1000, Nat, _, _, _, _, (parses_yes ⟨a0, ⟨a1, b1⟩, a2, a3⟩).go⟩

theorem confParses_said : Rows.ConfParsesSaid :=
  OpenClaim.holds_of_wide 3 Tryd.f3 rfl rfl rfl rfl rfl rfl rfl ⟨rfl, rfl, rfl, rfl, rfl⟩ rfl rfl rfl rfl rfl (by kernel_rfl) Tryd.func3 (by kernel_rfl) (of_decide_eq_true (by kernel_rfl))
    (by unfold Func.isWrapper; rw [if_neg (of_decide_eq_false (by kernel_rfl))]; exact ⟨rfl, rfl⟩) (fun os started H enc _ => confParses_lifted os started H enc)

theorem confParses : Rows.ConfParsesCardSaid :=
  Claim7.holds_tied_plain_at .later [] [.data, .data, .data, .data, .sentinel, .sentinel, .pinned] true (true, "3955a4d9c3c06f77ccf7f0c4eeef76df07fd10dd78a7c1068d8528640abb0dd6") true confParses_said (fun _ h => by cases h) (by kernel_rfl) (fun _ h => by cases h) confParses_row_tie rfl ⟨rfl, rfl⟩ (by kernel_rfl) rfl
    (fun f fn hf hfn => by
      obtain rfl : f = 3 := Option.some.inj ((show Tryd.prog.funcNamed "dispatch/dispatchlaw5.ConfParses" = some 3 by kernel_rfl).symm.trans hf) |>.symm
      obtain rfl : fn = Tryd.f3 := (Option.some.inj (Tryd.func3.symm.trans hfn)).symm
      exact ⟨by kernel_rfl, fun j t ht => by
        have hp : Tryd.f3.params.toList = [9, 24, 3, 25] := by kernel_rfl
        have hm : t ∈ [9, 24, 3, 25] := by rw [← hp]; simpa using Array.mem_of_getElem? ht
        have hall : ([9, 24, 3, 25].all fun u => !Tryd.prog.wantsStandIn u) = true := by kernel_rfl
        exact (show Tryd.prog.wantsStandIn t = false by simpa using List.all_eq_true.1 hall t hm)⟩)
    (by kernel_rfl)
end Go.Proofs.YtaonjbojhikndaaDoor
