/- The five statements of local: each law's function answers true, for every input, and all reads as it did. No conditions. -/
import Derived.Test.YtaencddffbmdeaaLocP
import Derived.JoinedOf
namespace Go.Proofs.Ytaencddffbmdeaa
open Go Go.Vs Go.Proofs

theorem own : ownKnob Try.prog.godebug = none := by kernel_rfl
theorem laidOut : laidOutB Try.prog = true := by kernel_rfl

theorem typ25 {ds : List (D reg0.T)} (h : WT reg0 Try.prog 3 25 ds) : ∃ a : Ask, typV reg0 Try.prog 25 ds = a.v := by
  have e : shOf Try.prog 3 25 = [.i .i64, .i .i64, .i .i64, .i .i64, .i .i64, .i .i64, .i .i64, .i .i64] := by kernel_rfl
  have h := h.flat
  rw [e] at h
  obtain ⟨a, _, rfl, _, b, _, rfl, _, c, _, rfl, _, d, _, rfl, _, e, _, rfl, _, f, _, rfl, _, g, _, rfl, _, i, _, rfl, _, rfl⟩ := h
  exact ⟨⟨a, b, c, d, e, f, g, i⟩, by kernel_rfl⟩

theorem typ27 {ds : List (D reg0.T)} (h : WT reg0 Try.prog 3 27 ds) : ∃ a : Node, typV reg0 Try.prog 27 ds = a.v := by
  have e : shOf Try.prog 3 27 = [.i .i64, .i .i64, .i .i64, .i .i64, .i .i64, .i .i64, .i .i64, .b] := by kernel_rfl
  have h := h.flat
  rw [e] at h
  obtain ⟨a, _, rfl, _, b, _, rfl, _, c, _, rfl, _, d, _, rfl, _, e, _, rfl, _, f, _, rfl, _, g, _, rfl, _, i, _, rfl, rfl⟩ := h
  exact ⟨⟨a, b, c, d, e, f, g, i⟩, by kernel_rfl⟩

theorem typ3 {ds : List (D reg0.T)} (h : WT reg0 Try.prog 3 3 ds) : ∃ a : Int, typV reg0 Try.prog 3 ds = .d (.int .i64 a) := by
  have e : shOf Try.prog 3 3 = [.i .i64] := by kernel_rfl
  have h := h.flat
  rw [e] at h
  obtain ⟨a, _, rfl, _, rfl⟩ := h
  exact ⟨a, by kernel_rfl⟩

theorem tot0 : ∀ n e vs, reg0.k e = Try.prog.cellsOf e → Try.prog.cellsOf e ≠ 0 → WT reg0 Try.prog n e vs → ∃ x, reg0.enc e x = vs := fun _ _ _ h h' _ => absurd h.symm h'


theorem localAsks_lifted (os : Os) (started : os.Started) (H : Type) (enc : TypeId × Value → H) :
    ReturnsInHanded {} Try.checked os 3 .any (Rows.localAsksSpec.pre6 enc Try.prog Try.f3 [] false) (Rows.localAsksSpec.post enc Try.prog Try.f3 false true false false) := by
  have hp : Try.f3.params.toList = [25, 27] := by kernel_rfl
  refine law_row (C := Try.checked) (bt := 4) (reg := reg0) own started laidOut (by kernel_rfl) Try.func3 ?_ (by kernel_rfl) (by kernel_rfl) rfl ?_
    (ChangeSpec.witness6 (enc := enc) (C := Try.checked) false ⟨#[], #[.agg #[.int .i64 0, .int .i64 0, .int .i64 0, .int .i64 0, .int .i64 0, .int .i64 0, .int .i64 0, .int .i64 0], .agg #[.int .i64 0, .int .i64 0, .int .i64 0, .int .i64 0, .int .i64 0, .int .i64 0, .int .i64 0, .bool false]], []⟩ 8 (by kernel_rfl) (by kernel_rfl) (by kernel_rfl) (by kernel_rfl))
    3 ?_ tot0 c3 ?_
  · rw [hp]
    exact of_decide_eq_true (by kernel_rfl)
  · intro ds hd
    have hd : ds.length = 2 := hd
    match ds, hd with
    | [d0, d1], _ => rfl
  · rw [hp]
    exact of_decide_eq_true (by kernel_rfl)
  · intro vs h
    rw [hp] at h
    obtain ⟨x0, r0, rfl, h0, x1, r1, rfl, h1, rfl⟩ := h
    obtain ⟨a0, e0⟩ := typ25 h0
    obtain ⟨a1, e1⟩ := typ27 h1
    show ∃ p, _ = some (p, _) ∧ p
    rw [show Try.checked.prog = Try.prog from rfl, e0, e1]
    exact ⟨True, rfl, trivial⟩

theorem localAsks : Rows.LocalAsksSaid :=
  OpenClaim.holds_of_wide 3 Try.f3 rfl rfl rfl rfl rfl rfl rfl ⟨rfl, rfl, rfl, rfl, rfl⟩ rfl rfl rfl rfl rfl (by kernel_rfl) Try.func3 (by kernel_rfl) (of_decide_eq_true (by kernel_rfl))
    (by unfold Func.isWrapper; rw [if_neg (of_decide_eq_false (by kernel_rfl))]; exact ⟨rfl, rfl⟩) (fun os started H enc _ => localAsks_lifted os started H enc)

theorem localWaits_lifted (os : Os) (started : os.Started) (H : Type) (enc : TypeId × Value → H) :
    ReturnsInHanded {} Try.checked os 4 .any (Rows.localWaitsSpec.pre6 enc Try.prog Try.f4 [] false) (Rows.localWaitsSpec.post enc Try.prog Try.f4 false true false false) := by
  have hp : Try.f4.params.toList = [25, 27] := by kernel_rfl
  refine law_row (C := Try.checked) (bt := 4) (reg := reg0) own started laidOut (by kernel_rfl) Try.func4 ?_ (by kernel_rfl) (by kernel_rfl) rfl ?_
    (ChangeSpec.witness6 (enc := enc) (C := Try.checked) false ⟨#[], #[.agg #[.int .i64 0, .int .i64 0, .int .i64 0, .int .i64 0, .int .i64 0, .int .i64 0, .int .i64 0, .int .i64 0], .agg #[.int .i64 0, .int .i64 0, .int .i64 0, .int .i64 0, .int .i64 0, .int .i64 0, .int .i64 0, .bool false]], []⟩ 8 (by kernel_rfl) (by kernel_rfl) (by kernel_rfl) (by kernel_rfl))
    3 ?_ tot0 c4 ?_
  · rw [hp]
    exact of_decide_eq_true (by kernel_rfl)
  · intro ds hd
    have hd : ds.length = 2 := hd
    match ds, hd with
    | [d0, d1], _ => rfl
  · rw [hp]
    exact of_decide_eq_true (by kernel_rfl)
  · intro vs h
    rw [hp] at h
    obtain ⟨x0, r0, rfl, h0, x1, r1, rfl, h1, rfl⟩ := h
    obtain ⟨a0, e0⟩ := typ25 h0
    obtain ⟨a1, e1⟩ := typ27 h1
    show ∃ p, _ = some (p, _) ∧ p
    rw [show Try.checked.prog = Try.prog from rfl, e0, e1]
    exact ⟨True, rfl, trivial⟩

theorem localWaits : Rows.LocalWaitsSaid :=
  OpenClaim.holds_of_wide 4 Try.f4 rfl rfl rfl rfl rfl rfl rfl ⟨rfl, rfl, rfl, rfl, rfl⟩ rfl rfl rfl rfl rfl (by kernel_rfl) Try.func4 (by kernel_rfl) (of_decide_eq_true (by kernel_rfl))
    (by unfold Func.isWrapper; rw [if_neg (of_decide_eq_false (by kernel_rfl))]; exact ⟨rfl, rfl⟩) (fun os started H enc _ => localWaits_lifted os started H enc)

theorem localNear_lifted (os : Os) (started : os.Started) (H : Type) (enc : TypeId × Value → H) :
    ReturnsInHanded {} Try.checked os 5 .any (Rows.localNearSpec.pre6 enc Try.prog Try.f5 [] false) (Rows.localNearSpec.post enc Try.prog Try.f5 false true false false) := by
  have hp : Try.f5.params.toList = [25, 27, 3] := by kernel_rfl
  refine law_row (C := Try.checked) (bt := 4) (reg := reg0) own started laidOut (by kernel_rfl) Try.func5 ?_ (by kernel_rfl) (by kernel_rfl) rfl ?_
    (ChangeSpec.witness6 (enc := enc) (C := Try.checked) false ⟨#[], #[.agg #[.int .i64 0, .int .i64 0, .int .i64 0, .int .i64 0, .int .i64 0, .int .i64 0, .int .i64 0, .int .i64 0], .agg #[.int .i64 0, .int .i64 0, .int .i64 0, .int .i64 0, .int .i64 0, .int .i64 0, .int .i64 0, .bool false], .int .i64 0], []⟩ 8 (by kernel_rfl) (by kernel_rfl) (by kernel_rfl) (by kernel_rfl))
    3 ?_ tot0 c5 ?_
  · rw [hp]
    exact of_decide_eq_true (by kernel_rfl)
  · intro ds hd
    have hd : ds.length = 3 := hd
    match ds, hd with
    | [d0, d1, d2], _ => rfl
  · rw [hp]
    exact of_decide_eq_true (by kernel_rfl)
  · intro vs h
    rw [hp] at h
    obtain ⟨x0, r0, rfl, h0, x1, r1, rfl, h1, x2, r2, rfl, h2, rfl⟩ := h
    obtain ⟨a0, e0⟩ := typ25 h0
    obtain ⟨a1, e1⟩ := typ27 h1
    obtain ⟨a2, e2⟩ := typ3 h2
    show ∃ p, _ = some (p, _) ∧ p
    rw [show Try.checked.prog = Try.prog from rfl, e0, e1, e2]
    exact ⟨True, rfl, trivial⟩

theorem localNear : Rows.LocalNearSaid :=
  OpenClaim.holds_of_wide 5 Try.f5 rfl rfl rfl rfl rfl rfl rfl ⟨rfl, rfl, rfl, rfl, rfl⟩ rfl rfl rfl rfl rfl (by kernel_rfl) Try.func5 (by kernel_rfl) (of_decide_eq_true (by kernel_rfl))
    (by unfold Func.isWrapper; rw [if_neg (of_decide_eq_false (by kernel_rfl))]; exact ⟨rfl, rfl⟩) (fun os started H enc _ => localNear_lifted os started H enc)

theorem localOrder_lifted (os : Os) (started : os.Started) (H : Type) (enc : TypeId × Value → H) :
    ReturnsInHanded {} Try.checked os 6 .any (Rows.localOrderSpec.pre6 enc Try.prog Try.f6 [] false) (Rows.localOrderSpec.post enc Try.prog Try.f6 false true false false) := by
  have hp : Try.f6.params.toList = [25, 27, 27] := by kernel_rfl
  refine law_row (C := Try.checked) (bt := 4) (reg := reg0) own started laidOut (by kernel_rfl) Try.func6 ?_ (by kernel_rfl) (by kernel_rfl) rfl ?_
    (ChangeSpec.witness6 (enc := enc) (C := Try.checked) false ⟨#[], #[.agg #[.int .i64 0, .int .i64 0, .int .i64 0, .int .i64 0, .int .i64 0, .int .i64 0, .int .i64 0, .int .i64 0], .agg #[.int .i64 0, .int .i64 0, .int .i64 0, .int .i64 0, .int .i64 0, .int .i64 0, .int .i64 0, .bool false], .agg #[.int .i64 0, .int .i64 0, .int .i64 0, .int .i64 0, .int .i64 0, .int .i64 0, .int .i64 0, .bool false]], []⟩ 8 (by kernel_rfl) (by kernel_rfl) (by kernel_rfl) (by kernel_rfl))
    3 ?_ tot0 c6 ?_
  · rw [hp]
    exact of_decide_eq_true (by kernel_rfl)
  · intro ds hd
    have hd : ds.length = 3 := hd
    match ds, hd with
    | [d0, d1, d2], _ => rfl
  · rw [hp]
    exact of_decide_eq_true (by kernel_rfl)
  · intro vs h
    rw [hp] at h
    obtain ⟨x0, r0, rfl, h0, x1, r1, rfl, h1, x2, r2, rfl, h2, rfl⟩ := h
    obtain ⟨a0, e0⟩ := typ25 h0
    obtain ⟨a1, e1⟩ := typ27 h1
    obtain ⟨a2, e2⟩ := typ27 h2
    show ∃ p, _ = some (p, _) ∧ p
    rw [show Try.checked.prog = Try.prog from rfl, e0, e1, e2]
    exact ⟨True, rfl, trivial⟩

theorem localOrder : Rows.LocalOrderSaid :=
  OpenClaim.holds_of_wide 6 Try.f6 rfl rfl rfl rfl rfl rfl rfl ⟨rfl, rfl, rfl, rfl, rfl⟩ rfl rfl rfl rfl rfl (by kernel_rfl) Try.func6 (by kernel_rfl) (of_decide_eq_true (by kernel_rfl))
    (by unfold Func.isWrapper; rw [if_neg (of_decide_eq_false (by kernel_rfl))]; exact ⟨rfl, rfl⟩) (fun os started H enc _ => localOrder_lifted os started H enc)

theorem localTwins_lifted (os : Os) (started : os.Started) (H : Type) (enc : TypeId × Value → H) :
    ReturnsInHanded {} Try.checked os 7 .any (Rows.localTwinsSpec.pre6 enc Try.prog Try.f7 [] false) (Rows.localTwinsSpec.post enc Try.prog Try.f7 false true false false) := by
  have hp : Try.f7.params.toList = [25, 27, 25, 27] := by kernel_rfl
  refine law_row (C := Try.checked) (bt := 4) (reg := reg0) own started laidOut (by kernel_rfl) Try.func7 ?_ (by kernel_rfl) (by kernel_rfl) rfl ?_
    (ChangeSpec.witness6 (enc := enc) (C := Try.checked) false ⟨#[], #[.agg #[.int .i64 0, .int .i64 0, .int .i64 0, .int .i64 0, .int .i64 0, .int .i64 0, .int .i64 0, .int .i64 0], .agg #[.int .i64 0, .int .i64 0, .int .i64 0, .int .i64 0, .int .i64 0, .int .i64 0, .int .i64 0, .bool false], .agg #[.int .i64 0, .int .i64 0, .int .i64 0, .int .i64 0, .int .i64 0, .int .i64 0, .int .i64 0, .int .i64 0], .agg #[.int .i64 0, .int .i64 0, .int .i64 0, .int .i64 0, .int .i64 0, .int .i64 0, .int .i64 0, .bool false]], []⟩ 8 (by kernel_rfl) (by kernel_rfl) (by kernel_rfl) (by kernel_rfl))
    3 ?_ tot0 c7 ?_
  · rw [hp]
    exact of_decide_eq_true (by kernel_rfl)
  · intro ds hd
    have hd : ds.length = 4 := hd
    match ds, hd with
    | [d0, d1, d2, d3], _ => rfl
  · rw [hp]
    exact of_decide_eq_true (by kernel_rfl)
  · intro vs h
    rw [hp] at h
    obtain ⟨x0, r0, rfl, h0, x1, r1, rfl, h1, x2, r2, rfl, h2, x3, r3, rfl, h3, rfl⟩ := h
    obtain ⟨a0, e0⟩ := typ25 h0
    obtain ⟨a1, e1⟩ := typ27 h1
    obtain ⟨a2, e2⟩ := typ25 h2
    obtain ⟨a3, e3⟩ := typ27 h3
    show ∃ p, _ = some (p, _) ∧ p
    rw [show Try.checked.prog = Try.prog from rfl, e0, e1, e2, e3]
    exact ⟨True, rfl, trivial⟩

theorem localTwins : Rows.LocalTwinsSaid :=
  OpenClaim.holds_of_wide 7 Try.f7 rfl rfl rfl rfl rfl rfl rfl ⟨rfl, rfl, rfl, rfl, rfl⟩ rfl rfl rfl rfl rfl (by kernel_rfl) Try.func7 (by kernel_rfl) (of_decide_eq_true (by kernel_rfl))
    (by unfold Func.isWrapper; rw [if_neg (of_decide_eq_false (by kernel_rfl))]; exact ⟨rfl, rfl⟩) (fun os started H enc _ => localTwins_lifted os started H enc)

end Go.Proofs.Ytaencddffbmdeaa
