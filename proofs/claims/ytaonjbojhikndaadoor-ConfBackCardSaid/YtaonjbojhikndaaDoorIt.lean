/- The table that the rows list; arguments. No conditions. -/
import Derived.Test.YtaonjbojhikndaaDoorFh
import Derived.Stop.LaidErr
import Derived.MakeChecks
namespace Go.Proofs.YtaonjbojhikndaaDoor
open Go Go.W Go.Proofs Go.RowKit
set_option maxRecDepth 100000
theorem tab_of {w : World} (h : laidMetH Tryd.prog Rows.confAgainRow.laid w) : tabK w := by
  rw [MakeChecks.laidMetH_plain _ _ _ (by kernel_rfl)] at h
  have h2 : laidMet Tryd.prog ((tabN, Lib.tabData .u64 Lib.pow10Tab) :: Rows.confAgainRow.laid.drop 3) w := by
    have e : Rows.confAgainRow.laid = Rows.confAgainRow.laid.getD 0 ("", .agg []) :: Rows.confAgainRow.laid.getD 1 ("", .agg []) :: (tabN, Lib.tabData .u64 Lib.pow10Tab) :: Rows.confAgainRow.laid.drop 3 := by kernel_rfl
    rw [e] at h
    exact h.tail.tail
  exact Lib.tabIs_of_head (g := 1) (t := 118) (e := 103) (n := 20) (by kernel_rfl) (by kernel_rfl) (by kernel_rfl) (by kernel_rfl) (by kernel_rfl) (by kernel_rfl) h2
theorem wtk25 {n : Nat} {vs : List (D regK.T)} (h : WT regK Tryd.prog n 25 vs) : ∃ xs : List Int, vs = [.sl 3 xs] := by
  cases n with
  | zero => exact h.elim
  | succ n =>
    have hu : Tryd.prog.underlying 25 = some (.slice 3) := by kernel_rfl
    simp only [WT, hu] at h
    obtain ⟨xs, h, _⟩ := h
    exact ⟨xs, h⟩
theorem argk25 {n : Nat} {ds : List (D regK.T)} (h : WT regK Tryd.prog n 25 ds) : ∃ xs : List Int, typV regK Tryd.prog 25 ds = .d (.sl 3 xs) := by
  obtain ⟨xs, rfl⟩ := wtk25 h
  exact ⟨xs, by kernel_rfl⟩
theorem wtk24 {n : Nat} {vs : List (D regK.T)} (h : WT regK Tryd.prog n 24 vs) : ∃ (l : Int) (qs : List Rq), vs = [.int .i64 l, .sl 58 qs] := by
  obtain ⟨k, rfl⟩ := two (t := 24) (k := 1) (by kernel_rfl) ⟨(match Tryd.prog.underlying 24 with | some (.struct fs) => fs | _ => #[]), by kernel_rfl⟩ (by kernel_rfl) h
  have e : shOf Tryd.prog (k + 2) 24 = [.i .i64, .l 58] := by kernel_rfl
  have h := h.flat
  rw [e] at h
  obtain ⟨a, _, rfl, _, c, _, rfl, _, _, rfl⟩ := h
  exact ⟨a, c, rfl⟩
theorem argk24 {n : Nat} {ds : List (D regK.T)} (h : WT regK Tryd.prog n 24 ds) : ∃ (l : Int) (qs : List Rq), typV regK Tryd.prog 24 ds = .agg [ki l, .d (.sl 58 qs)] := by
  obtain ⟨l, qs, rfl⟩ := wtk24 h
  exact ⟨l, qs, by kernel_rfl⟩
end Go.Proofs.YtaonjbojhikndaaDoor
