/- ShellWords and ShellQuotes: for every input that is not too great their functions answer true, and all reads as it did. No conditions. -/
import Derived.Test.YtebdbhekdadhbaaGreatDoorSj
import Derived.Test.YtebdbhekdadhbaaGreatDoorTie
import Derived.Test.YtebdbhekdadhbaaGreatDoorCards
import Derived.ProofKit
import Derived.OpenShut
import Derived.LaidMore
import Derived.Lay
import Derived.SevenTiedAt
import Derived.Stop.Joined
import Derived.JoinedOf
import Derived.JoinedCond
import Derived.Deep.DeepHandedRow
namespace Go.Proofs.YtebdbhekdadhbaaGreatDoor
open Go Go.W Go.Proofs Go.ChangeShapes Go.WideShapes Go.ChangeAt Go.RowKit
set_option maxRecDepth 100000
theorem ownK : ownKnob Tryz.prog.godebug = none := by kernel_rfl
theorem laidOutK : laidOutB Tryz.prog = true := by kernel_rfl
theorem k_other {e : Nat} (h1 : e ≠ 5) (h2 : e ≠ 9) (h3 : e ≠ 22) : regK.k e = 0 := by
  show (rowE e).k = 0
  unfold rowE
  split <;> first | contradiction | rfl
theorem uB : Tryz.prog.underlying 5 = some (.int .u8) := by kernel_rfl
theorem uS : Tryz.prog.underlying 9 = some .string := by kernel_rfl
theorem uL : Tryz.prog.underlying 22 = some (.slice 5) := by kernel_rfl
theorem uM : Tryz.prog.underlying 32 = some (.slice 22) := by kernel_rfl
theorem totK : ∀ n e vs, regK.k e = Tryz.prog.cellsOf e → Tryz.prog.cellsOf e ≠ 0 → WT regK Tryz.prog n e vs → ∃ x, regK.enc e x = vs := by
  intro n e vs hk h0 hw
  cases n with
  | zero => exact hw.elim
  | succ n =>
    by_cases h1 : e = 5
    · subst h1; simp only [WT, uB] at hw; obtain ⟨m, rfl, _⟩ := hw; exact ⟨(m : Int), rfl⟩
    by_cases h2 : e = 9
    · subst h2; simp only [WT, uS] at hw; obtain ⟨m, rfl, _⟩ := hw; exact ⟨(m : B), rfl⟩
    by_cases h3 : e = 22
    · subst h3; simp only [WT, uL] at hw; obtain ⟨m, rfl, _⟩ := hw; exact ⟨(m : List Int), rfl⟩
    · rw [k_other h1 h2 h3] at hk; exact (h0 hk.symm).elim
theorem argS {Bd n : Nat} {ds : List (D regK.T)} (h : WTU regK Tryz.prog Bd n 9 ds) : ∃ s : B, s.length ≤ Bd ∧ typV regK Tryz.prog 9 ds = ks s := by
  cases n with
  | zero => exact h.elim
  | succ n =>
    simp only [WTU, uS] at h
    obtain ⟨s, rfl, hs⟩ := h
    exact ⟨s, hs, by kernel_rfl⟩
theorem bytesU {Bd n : Nat} {ds : List (D regK.T)} (hB : Bd ≤ 2000000) (h : WTU regK Tryz.prog Bd n 22 ds) : ∃ b : List Int, ds = [.sl 5 b] ∧ b.length ≤ Bd ∧ smq b = true := by
  cases n with
  | zero => exact h.elim
  | succ n =>
    simp only [WTU, uL] at h
    obtain ⟨(b : List Int), rfl, hl, hall⟩ := h
    refine ⟨b, rfl, hl, ?_⟩
    show (Nat.ble b.length 2000000 && b.all isU8) = true
    rw [Bool.and_eq_true]
    refine ⟨Nat.ble_eq_true_of_le (Nat.le_trans hl hB), List.all_eq_true.2 fun x hx => ?_⟩
    have hx := hall x hx
    cases n with
    | zero => exact hx.elim
    | succ n =>
      simp only [WTU, uB] at hx
      obtain ⟨m, he, hw⟩ := hx
      have he : [D.int (T := TK) IntKind.u8 x] = [D.int IntKind.u8 m] := he
      have he : x = m := by injection he with he; injection he
      subst he
      simp [Lit.wf, IntKind.min, IntKind.max, IntKind.signed, IntKind.bits] at hw
      unfold isU8
      rw [Bool.and_eq_true]
      exact ⟨dT (by omega), dT (by omega)⟩
theorem argL {Bd n : Nat} {ds : List (D regK.T)} (hB : Bd ≤ 2000000) (h : WTU regK Tryz.prog Bd n 22 ds) : ∃ b : List Int, smq b = true ∧ typV regK Tryz.prog 22 ds = .d (.sl 5 b) := by
  obtain ⟨b, rfl, _, hb⟩ := bytesU hB h
  exact ⟨b, hb, by kernel_rfl⟩
theorem argM {Bd n : Nat} {ds : List (D regK.T)} (hB : Bd ≤ 1048576) (h : WTU regK Tryz.prog Bd n 32 ds) : ∃ l : List (List Int), (∀ x ∈ l, smq x = true ∧ x.length ≤ 1048576) ∧ l.length ≤ 2000000 ∧ typV regK Tryz.prog 32 ds = .d (.sl 22 l) := by
  cases n with
  | zero => exact h.elim
  | succ n =>
    simp only [WTU, uM] at h
    obtain ⟨(l : List (List Int)), rfl, hl, hall⟩ := h
    refine ⟨l, fun x hx => ?_, Nat.le_trans hl (by omega), by kernel_rfl⟩
    obtain ⟨b, he, h1, h2⟩ := bytesU (by omega) (hall x hx)
    have he : [D.sl (T := TK) 5 x] = [D.sl 5 b] := he
    have he : x = b := by injection he with he; injection he
    subst he
    exact ⟨h2, Nat.le_trans h1 hB⟩
/-- Where no function starts a goroutine, no call does. -/
theorem goes_of (P : Program) (still : (P.funcs.toList.all fun fn => !fn.goes) = true) (c : OpenClaim) (hc : c.start = .entering) : false = c.goesBy P := by
  have h1 : ∀ fn ∈ P.funcs.toList, fn.goes = false := fun fn h => by simpa using List.all_eq_true.1 still fn h
  have h2 : ∀ g : FuncId, ((P.funcs[g]?).any Func.goes) = false := fun g => by
    cases hg : P.funcs[g]? with
    | none => rfl
    | some fn => exact h1 fn (by rw [Array.mem_toList_iff]; exact Array.mem_of_getElem? hg)
  have h3 : P.funcs.any Func.goes = false := by
    rw [← Bool.not_eq_true, Array.any_eq_true']
    rintro ⟨fn, hm, hg⟩
    rw [h1 fn (by rw [Array.mem_toList_iff]; exact hm)] at hg
    cases hg
  have h4 : ∀ f : FuncId, P.goes f = false := fun f => by
    unfold Program.goes
    rw [h3, Bool.and_false, Bool.or_false, ← Bool.not_eq_true, List.any_eq_true]
    rintro ⟨g, _, hg⟩
    rw [h2 g] at hg; cases hg
  unfold OpenClaim.goesBy Program.goesAt Program.goesFrom
  rw [hc]
  simp only [Bool.or_false]
  cases P.funcNamed c.func with
  | none => rfl
  | some f => exact (h4 f).symm
/-- No function of the program starts a goroutine. -/
theorem still : (Tryz.prog.funcs.toList.all fun fn => !fn.goes) = true := by kernel_rfl
end Go.Proofs.YtebdbhekdadhbaaGreatDoor
