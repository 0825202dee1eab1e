/- ConfRows: for every input its function answers true, and all reads as it did; the card. No conditions. -/
import Derived.Test.YtaonjbojhikndaaDoorCh
import Derived.Test.YtaonjbojhikndaaDoorTie
import Derived.Test.YtaonjbojhikndaaDoorCards
import Derived.ProofKit
import Derived.OpenShut
import Derived.LaidMore
import Derived.Lay
import Derived.SevenTiedAt
import Derived.Stop.Joined
import Derived.JoinedOf
namespace Go.Proofs.YtaonjbojhikndaaDoor
open Go Go.W Go.Proofs Go.ChangeShapes Go.WideShapes Go.ChangeAt Go.RowKit
set_option maxRecDepth 100000

/-- As Yes, behind a structure. -/
structure YesF (v : Int) (fn : Func) (args : List V0) : Prop where
  go : Yes v fn args

theorem own : ownKnob Tryd.prog.godebug = none := by kernel_rfl
theorem laidOut : laidOutB Tryd.prog = true := by kernel_rfl
theorem tot0 : ∀ n e vs, reg0.k e = Tryd.prog.cellsOf e → Tryd.prog.cellsOf e ≠ 0 → WT reg0 Tryd.prog n e vs → ∃ x, reg0.enc e x = vs := by
  intro n e vs hk h0 _
  exact (h0 (by rw [← hk]; rfl)).elim
theorem wt3 {n : Nat} {vs : List (D reg0.T)} (h : WT reg0 Tryd.prog n 3 vs) : ∃ m, vs = [.int .i64 m] := by
  cases n with
  | zero => exact h.elim
  | succ n =>
    have hu : Tryd.prog.underlying 3 = some (.int .i64) := by kernel_rfl
    simp only [WT, hu] at h
    obtain ⟨m, h, _⟩ := h
    exact ⟨m, h⟩
theorem arg3 {n : Nat} {ds : List (D reg0.T)} (h : WT reg0 Tryd.prog n 3 ds) : ∃ a : Int, typV reg0 Tryd.prog 3 ds = vi a := by
  obtain ⟨m, rfl⟩ := wt3 h
  exact ⟨m, by kernel_rfl⟩

theorem wi_of (a : Int) {n : Int} (h : 0 < n) (hn : n < 1000) : 0 ≤ wi a n ∧ wi a n < n := by
  unfold wi
  have h1 : a.tmod n < n := Int.tmod_lt_of_pos a h
  have h2 : -n < a.tmod n := Int.lt_tmod_of_pos a h
  by_cases h0 : a.tmod n < 0
  · rw [decide_eq_true h0, cond_true]
    have : IntKind.i64.wrap (a.tmod n + n) = a.tmod n + n := IntWalk.i64_in _ (by omega)
    omega
  · rw [decide_eq_false h0, cond_false]
    omega

theorem must_of {k v : Int} (h : k = v) : must (decide ((0 : Int) < 21) && decide (k = v)) (true = true) := by
  subst h
  rw [decide_eq_true (rfl : k = k)]
  exact rfl
theorem y0 (n : Int) (h : wi n 21 = 0) : YesF 0 Tryd.f5 [vi n] := YesF.mk (Eq.mpr (r0 n) (must_of h))
theorem y1 (n : Int) (h : wi n 21 = 1) : YesF 1 Tryd.f5 [vi n] := YesF.mk (Eq.mpr (r1 n) (must_of h))
theorem y2 (n : Int) (h : wi n 21 = 2) : YesF 2 Tryd.f5 [vi n] := YesF.mk (Eq.mpr (r2 n) (must_of h))
theorem y3 (n : Int) (h : wi n 21 = 3) : YesF 3 Tryd.f5 [vi n] := YesF.mk (Eq.mpr (r3 n) (must_of h))
theorem y4 (n : Int) (h : wi n 21 = 4) : YesF 4 Tryd.f5 [vi n] := YesF.mk (Eq.mpr (r4 n) (must_of h))
theorem y5 (n : Int) (h : wi n 21 = 5) : YesF 5 Tryd.f5 [vi n] := YesF.mk (Eq.mpr (r5 n) (must_of h))
theorem y6 (n : Int) (h : wi n 21 = 6) : YesF 6 Tryd.f5 [vi n] := YesF.mk (Eq.mpr (r6 n) (must_of h))
theorem y7 (n : Int) (h : wi n 21 = 7) : YesF 7 Tryd.f5 [vi n] := YesF.mk (Eq.mpr (r7 n) (must_of h))
theorem y8 (n : Int) (h : wi n 21 = 8) : YesF 8 Tryd.f5 [vi n] := YesF.mk (Eq.mpr (r8 n) (must_of h))
theorem y9 (n : Int) (h : wi n 21 = 9) : YesF 9 Tryd.f5 [vi n] := YesF.mk (Eq.mpr (r9 n) (must_of h))
theorem y10 (n : Int) (h : wi n 21 = 10) : YesF 10 Tryd.f5 [vi n] := YesF.mk (Eq.mpr (r10 n) (must_of h))
theorem y11 (n : Int) (h : wi n 21 = 11) : YesF 11 Tryd.f5 [vi n] := YesF.mk (Eq.mpr (r11 n) (must_of h))
theorem y12 (n : Int) (h : wi n 21 = 12) : YesF 12 Tryd.f5 [vi n] := YesF.mk (Eq.mpr (r12 n) (must_of h))
theorem y13 (n : Int) (h : wi n 21 = 13) : YesF 13 Tryd.f5 [vi n] := YesF.mk (Eq.mpr (r13 n) (must_of h))
theorem y14 (n : Int) (h : wi n 21 = 14) : YesF 14 Tryd.f5 [vi n] := YesF.mk (Eq.mpr (r14 n) (must_of h))
theorem y15 (n : Int) (h : wi n 21 = 15) : YesF 15 Tryd.f5 [vi n] := YesF.mk (Eq.mpr (r15 n) (must_of h))
theorem y16 (n : Int) (h : wi n 21 = 16) : YesF 16 Tryd.f5 [vi n] := YesF.mk (Eq.mpr (r16 n) (must_of h))
theorem y17 (n : Int) (h : wi n 21 = 17) : YesF 17 Tryd.f5 [vi n] := YesF.mk (Eq.mpr (r17 n) (must_of h))
theorem y18 (n : Int) (h : wi n 21 = 18) : YesF 18 Tryd.f5 [vi n] := YesF.mk (Eq.mpr (r18 n) (must_of h))
theorem y19 (n : Int) (h : wi n 21 = 19) : YesF 19 Tryd.f5 [vi n] := YesF.mk (Eq.mpr (r19 n) (must_of h))
theorem y20 (n : Int) (h : wi n 21 = 20) : YesF 20 Tryd.f5 [vi n] := YesF.mk (Eq.mpr (r20 n) (must_of h))
theorem rows_yes (a : Int) : ∃ v, YesF v Tryd.f5 [vi a] := by
  have h := wi_of a (n := 21) (by decide) (by decide)
  have hc : wi a 21 = 0 ∨ wi a 21 = 1 ∨ wi a 21 = 2 ∨ wi a 21 = 3 ∨ wi a 21 = 4 ∨ wi a 21 = 5 ∨ wi a 21 = 6 ∨ wi a 21 = 7 ∨ wi a 21 = 8 ∨ wi a 21 = 9 ∨ wi a 21 = 10 ∨ wi a 21 = 11 ∨ wi a 21 = 12 ∨ wi a 21 = 13 ∨ wi a 21 = 14 ∨ wi a 21 = 15 ∨ wi a 21 = 16 ∨ wi a 21 = 17 ∨ wi a 21 = 18 ∨ wi a 21 = 19 ∨ wi a 21 = 20 := by omega
  rcases hc with h | h | h | h | h | h | h | h | h | h | h | h | h | h | h | h | h | h | h | h | h
  · exact ⟨_, y0 a h⟩
  · exact ⟨_, y1 a h⟩
  · exact ⟨_, y2 a h⟩
  · exact ⟨_, y3 a h⟩
  · exact ⟨_, y4 a h⟩
  · exact ⟨_, y5 a h⟩
  · exact ⟨_, y6 a h⟩
  · exact ⟨_, y7 a h⟩
  · exact ⟨_, y8 a h⟩
  · exact ⟨_, y9 a h⟩
  · exact ⟨_, y10 a h⟩
  · exact ⟨_, y11 a h⟩
  · exact ⟨_, y12 a h⟩
  · exact ⟨_, y13 a h⟩
  · exact ⟨_, y14 a h⟩
  · exact ⟨_, y15 a h⟩
  · exact ⟨_, y16 a h⟩
  · exact ⟨_, y17 a h⟩
  · exact ⟨_, y18 a h⟩
  · exact ⟨_, y19 a h⟩
  · exact ⟨_, y20 a h⟩

theorem confRows_lifted (os : Os) (started : os.Started) (H : Type) (enc : TypeId × Value → H) :
    ReturnsInHanded {} Tryd.checked os 5 .any (fun w args => (Rows.confRowsSpec.pre enc Tryd.prog Tryd.f5 Rows.confRowsRow.domain false w args ∧ laidMetH Tryd.prog Rows.confRowsRow.laid w) ∧ sizedMet enc Tryd.prog Tryd.f5 (OpenSpec.ofChange Rows.confRowsSpec) false w args)
      (Rows.confRowsSpec.post enc Tryd.prog Tryd.f5 false true false false) := by
  have hp : Tryd.f5.params.toList = [3] := by kernel_rfl
  refine law_row_and (C := Tryd.checked) (X := fun w _ => laidMetH Tryd.prog Rows.confRowsRow.laid w) (fun _ _ _ hh h => h.of_heap hh) (bt := 4) (reg := reg0) own started laidOut (by kernel_rfl) Tryd.func5 ?_ (by kernel_rfl) (by kernel_rfl) rfl ?_
    (ChangeSpec.witness_shaped (enc := enc) (C := Tryd.checked) (os := os) (X := fun w _ => laidMetH Tryd.prog Rows.confRowsRow.laid w) false (World.laidAll Tryd.prog os Rows.confRowsRow.laid) #[.int .i64 0] 8 (World.laidAll_os _ _ _)
      (World.shaped_of_ZipB (by kernel_rfl) (by kernel_rfl)) (by kernel_rfl) (by kernel_rfl) (by kernel_rfl)
      (by rw [MakeChecks.laidMetH_plain _ _ _ (by kernel_rfl)]; exact laidMet_laidAll _ (by kernel_rfl) (by kernel_rfl)))
    5 ?_ tot0 mixed ?_
  · rw [hp]
    exact of_decide_eq_true (by kernel_rfl)
  · intro ds hd
    have hd : ds.length = 1 := hd
    match ds, hd with
    | [d0], _ => rfl
  · rw [hp]
    exact of_decide_eq_true (by kernel_rfl)
  · intro vs h
    rw [hp] at h
    obtain ⟨x0, r0, rfl, h0, rfl⟩ := h
    obtain ⟨a0, e0⟩ := arg3 h0
    rw [show Tryd.checked.prog = Tryd.prog from rfl, e0]
    obtain ⟨v, hv⟩ := rows_yes a0
    exact ⟨hd2 v, hd2_sound v, 1000, Unit, (), _, _, _, hv.go⟩

theorem confRows_said : Rows.ConfRowsSaid :=
  OpenClaim.holds_of_wide 5 Tryd.f5 rfl rfl rfl rfl rfl rfl rfl ⟨rfl, rfl, rfl, rfl, rfl⟩ rfl rfl rfl rfl rfl (by kernel_rfl) Tryd.func5 (by kernel_rfl) (of_decide_eq_true (by kernel_rfl))
    (by unfold Func.isWrapper; rw [if_neg (of_decide_eq_false (by kernel_rfl))]; exact ⟨rfl, rfl⟩) (fun os started H enc _ => confRows_lifted os started H enc)

theorem confRows : Rows.ConfRowsCardSaid :=
  Claim7.holds_tied_plain_at .later [] [.data, .data, .data, .data, .sentinel, .sentinel, .pinned] true (true, "3955a4d9c3c06f77ccf7f0c4eeef76df07fd10dd78a7c1068d8528640abb0dd6") true confRows_said (fun _ h => by cases h) (by kernel_rfl) (fun _ h => by cases h) confRows_row_tie rfl ⟨rfl, rfl⟩ (by kernel_rfl) rfl
    (fun f fn hf hfn => by
      obtain rfl : f = 5 := Option.some.inj ((show Tryd.prog.funcNamed "dispatch/dispatchlaw5.ConfRows" = some 5 by kernel_rfl).symm.trans hf) |>.symm
      obtain rfl : fn = Tryd.f5 := (Option.some.inj (Tryd.func5.symm.trans hfn)).symm
      exact ⟨by kernel_rfl, fun j t ht => by
        have hp : Tryd.f5.params.toList = [3] := by kernel_rfl
        have hm : t ∈ [3] := by rw [← hp]; simpa using Array.mem_of_getElem? ht
        have hall : ([3].all fun u => !Tryd.prog.wantsStandIn u) = true := by kernel_rfl
        exact (show Tryd.prog.wantsStandIn t = false by simpa using List.all_eq_true.1 hall t hm)⟩)
    (by kernel_rfl)
end Go.Proofs.YtaonjbojhikndaaDoor
