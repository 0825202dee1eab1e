/- The arguments of disk's statements. No conditions. -/
import Derived.Test.YtaencddffbmdeaaDkM
import Derived.JoinedOf
namespace Go.Proofs.Ytaencddffbmdeaa
open Go Go.W Go.Proofs

theorem ownD : ownKnob Try.prog.godebug = none := by kernel_rfl
theorem laidOutD : laidOutB Try.prog = true := by kernel_rfl

theorem k_other {e : Nat} (h3 : e ≠ 3) (h5 : e ≠ 5) (h43 : e ≠ 43) (h62 : e ≠ 62) : regK.k e = 0 := by
  show (rowE e).k = 0
  unfold rowE
  split <;> first | contradiction | rfl

theorem wt3 {n : Nat} {vs : List (D regK.T)} (h : WT regK Try.prog n 3 vs) : ∃ m, vs = [.int .i64 m] := by
  cases n with
  | zero => exact h.elim
  | succ n =>
    have hu : Try.prog.underlying 3 = some (.int .i64) := by kernel_rfl
    simp only [WT, hu] at h
    obtain ⟨m, h, _⟩ := h
    exact ⟨m, h⟩
theorem wt5 {n : Nat} {vs : List (D regK.T)} (h : WT regK Try.prog n 5 vs) : ∃ m, vs = [.int .u8 m] ∧ 0 ≤ m ∧ m ≤ 255 := by
  cases n with
  | zero => exact h.elim
  | succ n =>
    have hu : Try.prog.underlying 5 = some (.int .u8) := by kernel_rfl
    simp only [WT, hu] at h
    obtain ⟨m, h, hw⟩ := h
    refine ⟨m, h, ?_⟩
    simp [Lit.wf, IntKind.min, IntKind.max, IntKind.signed, IntKind.bits] at hw
    omega
theorem wt43 {n : Nat} {vs : List (D regK.T)} (h : WT regK Try.prog n 43 vs) : ∃ xs : List UInt8, vs = [.sl 5 xs] ∧ xs.length ≤ 9223372036854775807 := by
  cases n with
  | zero => exact h.elim
  | succ n =>
    have hu : Try.prog.underlying 43 = some (.slice 5) := by kernel_rfl
    simp only [WT, hu] at h
    obtain ⟨xs, h, hl, _⟩ := h
    exact ⟨xs, h, hl⟩
theorem wt62 {n : Nat} {vs : List (D regK.T)} (h : WT regK Try.prog n 62 vs) : ∃ (a b : Int) (xs : List UInt8), vs = [.int .i64 a, .int .i64 b, .sl 5 xs] ∧ b ≤ 9223372036854775807 := by
  have key : ∀ m, WT regK Try.prog m 62 vs → ∃ k, m = k + 2 := by
    intro m hm
    match m with
    | 0 => exact hm.elim
    | k + 2 => exact ⟨k, rfl⟩
    | 1 =>
      have e1 : shOf Try.prog 1 62 = [] := by kernel_rfl
      have h1 := hm.flat
      rw [e1] at h1
      have h1 : vs = [] := h1
      subst h1
      obtain ⟨fs, hu⟩ : ∃ fs, Try.prog.underlying 62 = some (.struct fs) := ⟨(match Try.prog.underlying 62 with | some (.struct fs) => fs | _ => #[]), by kernel_rfl⟩
      simp only [WT, hu] at hm
      cases hl : fs.toList with
      | nil =>
        have e2 : (match Try.prog.underlying 62 with | some (.struct fs) => fs.toList.length | _ => 0) = 3 := by kernel_rfl
        rw [hu] at e2
        simp only [hl] at e2
        cases e2
      | cons f l =>
        rw [hl] at hm
        obtain ⟨a, b, _, ha, _⟩ := hm
        exact ha.elim
  obtain ⟨k, rfl⟩ := key n h
  have e : shOf Try.prog (k + 2) 62 = [.i .i64, .i .i64, .l 5] := by kernel_rfl
  have h := h.flat
  rw [e] at h
  obtain ⟨a, _, rfl, _, b, _, rfl, hw, c, _, rfl, _, _, rfl⟩ := h
  refine ⟨a, b, c, rfl, ?_⟩
  simp [Lit.wf, IntKind.min, IntKind.max, IntKind.signed, IntKind.bits] at hw
  omega

theorem totD : ∀ n e vs, regK.k e = Try.prog.cellsOf e → Try.prog.cellsOf e ≠ 0 → WT regK Try.prog n e vs → ∃ x, regK.enc e x = vs := by
  intro n e vs hk h0 hw
  by_cases h3 : e = 3
  · subst h3; obtain ⟨m, rfl⟩ := wt3 hw; exact ⟨(m : Int), rfl⟩
  by_cases h5 : e = 5
  · subst h5
    obtain ⟨m, rfl, h1, h2⟩ := wt5 hw
    refine ⟨(UInt8.ofNat m.toNat : UInt8), ?_⟩
    show [D.int IntKind.u8 ((UInt8.ofNat m.toNat).toNat : Int)] = _
    rw [UInt8.toNat_ofNat_of_lt' (by show m.toNat < 256; omega)]
    rw [Int.toNat_of_nonneg h1]
    rfl
  by_cases h43 : e = 43
  · subst h43; obtain ⟨xs, rfl, _⟩ := wt43 hw; exact ⟨(xs : List UInt8), rfl⟩
  by_cases h62 : e = 62
  · subst h62; obtain ⟨a, b, xs, rfl, _⟩ := wt62 hw; exact ⟨(⟨a, b, xs⟩ : Cl), rfl⟩
  · rw [k_other h3 h5 h43 h62] at hk; exact (h0 hk.symm).elim

/-! ### The arguments -/
theorem arg3 {n : Nat} {ds : List (D regK.T)} (h : WT regK Try.prog n 3 ds) : ∃ a : Int, typV regK Try.prog 3 ds = vi a := by
  obtain ⟨m, rfl⟩ := wt3 h
  exact ⟨m, by kernel_rfl⟩
theorem arg43 {n : Nat} {ds : List (D regK.T)} (h : WT regK Try.prog n 43 ds) : ∃ a : List UInt8, typV regK Try.prog 43 ds = .d (.sl 5 a) := by
  obtain ⟨m, rfl, _⟩ := wt43 h
  exact ⟨m, by kernel_rfl⟩
theorem wtSl {n : Nat} {t e : TypeId} {ds : List (D regK.T)} (hu : Try.prog.underlying t = some (.slice e)) (h : WT regK Try.prog n t ds) : ∃ xs : List (regK.T e), ds = [.sl e xs] := by
  cases n with
  | zero => exact h.elim
  | succ n =>
    simp only [WT, hu] at h
    obtain ⟨xs, h, _⟩ := h
    exact ⟨xs, h⟩
theorem arg37 {n : Nat} {ds : List (D regK.T)} (h : WT regK Try.prog n 37 ds) : ∃ a : List Int, typV regK Try.prog 37 ds = .d (.sl 3 a) := by
  obtain ⟨m, rfl⟩ := wtSl (e := 3) (by kernel_rfl) h
  exact ⟨m, by kernel_rfl⟩
theorem arg46 {n : Nat} {ds : List (D regK.T)} (h : WT regK Try.prog n 46 ds) : ∃ a : List (List UInt8), typV regK Try.prog 46 ds = .d (.sl 43 a) := by
  obtain ⟨m, rfl⟩ := wtSl (e := 43) (by kernel_rfl) h
  exact ⟨m, by kernel_rfl⟩
theorem arg57 {n : Nat} {ds : List (D regK.T)} (h : WT regK Try.prog n 57 ds) : ∃ a : List Cl, typV regK Try.prog 57 ds = .d (.sl 62 a) ∧ ∀ c ∈ a, c.n ≤ 9223372036854775807 := by
  have hu : Try.prog.underlying 57 = some (.slice 62) := by kernel_rfl
  cases n with
  | zero => exact h.elim
  | succ n =>
    simp only [WT, hu] at h
    obtain ⟨xs, rfl, _, hall⟩ := h
    refine ⟨(xs : List Cl), by kernel_rfl, fun c hc => ?_⟩
    obtain ⟨a, b, ys, he, hb⟩ := wt62 (hall c hc)
    have he : enc62 c = [.int .i64 a, .int .i64 b, .sl 5 ys] := he
    simp only [enc62, List.cons.injEq, D.int.injEq, true_and] at he
    rw [he.2.1]
    exact hb
end Go.Proofs.Ytaencddffbmdeaa
