/- The router's scenarios: their arguments, numbers; no function starts a goroutine. No conditions. -/
import Derived.Test.YtbcmfkognanjdaaGreatDoorFa
import Derived.Test.YtbcmfkognanjdaaGreatDoorTie
import Derived.Test.YtbcmfkognanjdaaGreatDoorCards
import Derived.ProofKit
import Derived.OpenShut
import Derived.LaidMore
import Derived.Lay
import Derived.SevenTiedAt
import Derived.Stop.Joined
import Derived.JoinedOf
namespace Go.Proofs.YtbcmfkognanjdaaGreatDoor
open Go Go.W Go.Proofs Go.ChangeShapes Go.WideShapes Go.ChangeAt Go.RowKit
set_option maxRecDepth 100000
theorem ownK : ownKnob Tryz.prog.godebug = none := by kernel_rfl
theorem laidOutK : laidOutB Tryz.prog = true := by kernel_rfl
theorem tot0 : ∀ n e vs, reg0.k e = Tryz.prog.cellsOf e → Tryz.prog.cellsOf e ≠ 0 → WT reg0 Tryz.prog n e vs → ∃ x, reg0.enc e x = vs := by
  intro n e vs hk h0 _
  exact (h0 (by rw [← hk]; rfl)).elim
theorem wtI {n : Nat} {vs : List (D reg0.T)} (h : WT reg0 Tryz.prog n 3 vs) : ∃ m, vs = [.int .i64 m] := by
  cases n with
  | zero => exact h.elim
  | succ n =>
    have hu : Tryz.prog.underlying 3 = some (.int .i64) := by kernel_rfl
    simp only [WT, hu] at h
    obtain ⟨m, h, _⟩ := h
    exact ⟨m, h⟩
theorem argI {n : Nat} {ds : List (D reg0.T)} (h : WT reg0 Tryz.prog n 3 ds) : ∃ a : Int, typV reg0 Tryz.prog 3 ds = vi a := by
  obtain ⟨m, rfl⟩ := wtI h
  exact ⟨m, by kernel_rfl⟩
theorem wtB {n : Nat} {vs : List (D reg0.T)} (h : WT reg0 Tryz.prog n 4 vs) : ∃ b, vs = [.bool b] := by
  cases n with
  | zero => exact h.elim
  | succ n =>
    have hu : Tryz.prog.underlying 4 = some .bool := by kernel_rfl
    simp only [WT, hu] at h
    exact h
theorem argB {n : Nat} {ds : List (D reg0.T)} (h : WT reg0 Tryz.prog n 4 ds) : ∃ b : Bool, typV reg0 Tryz.prog 4 ds = .d (.bool b) := by
  obtain ⟨m, rfl⟩ := wtB h
  exact ⟨m, by kernel_rfl⟩
/-- Where no function starts a goroutine, no call does. -/
theorem goes_of (P : Program) (still : (P.funcs.toList.all fun fn => !fn.goes) = true) (c : OpenClaim) (hc : c.start = .entering) : false = c.goesBy P := by
  have h1 : ∀ fn ∈ P.funcs.toList, fn.goes = false := fun fn h => by simpa using List.all_eq_true.1 still fn h
  have h2 : ∀ g : FuncId, ((P.funcs[g]?).any Func.goes) = false := fun g => by
    cases hg : P.funcs[g]? with
    | none => rfl
    | some fn => exact h1 fn (by rw [Array.mem_toList_iff]; exact Array.mem_of_getElem? hg)
  have h3 : P.funcs.any Func.goes = false := by
    rw [← Bool.not_eq_true, Array.any_eq_true']
    rintro ⟨fn, hm, hg⟩
    rw [h1 fn (by rw [Array.mem_toList_iff]; exact hm)] at hg
    cases hg
  have h4 : ∀ f : FuncId, P.goes f = false := fun f => by
    unfold Program.goes
    rw [h3, Bool.and_false, Bool.or_false, ← Bool.not_eq_true, List.any_eq_true]
    rintro ⟨g, _, hg⟩
    rw [h2 g] at hg; cases hg
  unfold OpenClaim.goesBy Program.goesAt Program.goesFrom
  rw [hc]
  simp only [Bool.or_false]
  cases P.funcNamed c.func with
  | none => rfl
  | some f => exact (h4 f).symm
/-- No function of the program starts a goroutine. -/
theorem still : (Tryz.prog.funcs.toList.all fun fn => !fn.goes) = true := by kernel_rfl
end Go.Proofs.YtbcmfkognanjdaaGreatDoor
