/- The arguments of Conf's statements. No conditions. -/
import Derived.Test.YtaonjbojhikndaaDoorFa
import Derived.JoinedOf
namespace Go.Proofs.YtaonjbojhikndaaDoor
open Go Go.W Go.Proofs
set_option maxRecDepth 100000
theorem ownK : ownKnob Tryd.prog.godebug = none := by kernel_rfl
theorem laidOutK : laidOutB Tryd.prog = true := by kernel_rfl
theorem k_other {e : Nat} (h3 : e ≠ 3) (h5 : e ≠ 5) (h9 : e ≠ 9) (h46 : e ≠ 46) (h48 : e ≠ 48) (h58 : e ≠ 58) : regK.k e = 0 := by
  show (rowE e).k = 0
  unfold rowE
  split <;> first | contradiction | rfl
theorem wtk3 {n : Nat} {vs : List (D regK.T)} (h : WT regK Tryd.prog n 3 vs) : ∃ m, vs = [.int .i64 m] := by
  cases n with
  | zero => exact h.elim
  | succ n =>
    have hu : Tryd.prog.underlying 3 = some (.int .i64) := by kernel_rfl
    simp only [WT, hu] at h
    obtain ⟨m, h, _⟩ := h
    exact ⟨m, h⟩
theorem wtk4 {n : Nat} {vs : List (D regK.T)} (h : WT regK Tryd.prog n 4 vs) : ∃ b, vs = [.bool b] := by
  cases n with
  | zero => exact h.elim
  | succ n =>
    have hu : Tryd.prog.underlying 4 = some .bool := by kernel_rfl
    simp only [WT, hu] at h
    obtain ⟨b, h⟩ := h
    exact ⟨b, h⟩
theorem wtk9 {n : Nat} {vs : List (D regK.T)} (h : WT regK Tryd.prog n 9 vs) : ∃ s, vs = [.str s] := by
  cases n with
  | zero => exact h.elim
  | succ n =>
    have hu : Tryd.prog.underlying 9 = some .string := by kernel_rfl
    simp only [WT, hu] at h
    obtain ⟨b, h, _⟩ := h
    exact ⟨b, h⟩
theorem wtk5 {n : Nat} {vs : List (D regK.T)} (h : WT regK Tryd.prog n 5 vs) : ∃ m, vs = [.int .u8 m] ∧ 0 ≤ m ∧ m ≤ 255 := by
  cases n with
  | zero => exact h.elim
  | succ n =>
    have hu : Tryd.prog.underlying 5 = some (.int .u8) := by kernel_rfl
    simp only [WT, hu] at h
    obtain ⟨m, h, hw⟩ := h
    refine ⟨m, h, ?_⟩
    simp [Lit.wf, IntKind.min, IntKind.max, IntKind.signed, IntKind.bits] at hw
    omega
theorem two {t k : Nat} (e1 : shOf Tryd.prog 1 t = []) (hs : ∃ fs, Tryd.prog.underlying t = some (.struct fs)) (e2 : (match Tryd.prog.underlying t with | some (.struct fs) => fs.toList.length | _ => 0) = k + 1) :
    ∀ {m : Nat} {vs : List (D regK.T)}, WT regK Tryd.prog m t vs → ∃ k, m = k + 2 := by
  intro m vs hm
  match m with
  | 0 => exact hm.elim
  | k + 2 => exact ⟨k, rfl⟩
  | 1 =>
    have h1 := hm.flat
    rw [e1] at h1
    have h1 : vs = [] := h1
    subst h1
    obtain ⟨fs, hu⟩ := hs
    simp only [WT, hu] at hm
    cases hl : fs.toList with
    | nil =>
      rw [hu] at e2
      simp only [hl] at e2
      cases e2
    | cons f l =>
      rw [hl] at hm
      obtain ⟨a, b, _, ha, _⟩ := hm
      exact ha.elim
theorem wtk46 {n : Nat} {vs : List (D regK.T)} (h : WT regK Tryd.prog n 46 vs) : ∃ (p : B) (c : List Cp) (u : Int), vs = [.str p, .sl 48 c, .int .i64 u] := by
  obtain ⟨k, rfl⟩ := two (t := 46) (k := 2) (by kernel_rfl) ⟨(match Tryd.prog.underlying 46 with | some (.struct fs) => fs | _ => #[]), by kernel_rfl⟩ (by kernel_rfl) h
  have e : shOf Tryd.prog (k + 2) 46 = [.s, .l 48, .i .i64] := by kernel_rfl
  have h := h.flat
  rw [e] at h
  obtain ⟨a, _, rfl, _, c, _, rfl, _, _, b, _, rfl, _, rfl⟩ := h
  exact ⟨a, c, b, rfl⟩
theorem wtk48 {n : Nat} {vs : List (D regK.T)} (h : WT regK Tryd.prog n 48 vs) : ∃ (a b : Int), vs = [.int .i64 a, .int .i64 b] := by
  obtain ⟨k, rfl⟩ := two (t := 48) (k := 1) (by kernel_rfl) ⟨(match Tryd.prog.underlying 48 with | some (.struct fs) => fs | _ => #[]), by kernel_rfl⟩ (by kernel_rfl) h
  have e : shOf Tryd.prog (k + 2) 48 = [.i .i64, .i .i64] := by kernel_rfl
  have h := h.flat
  rw [e] at h
  obtain ⟨a, _, rfl, _, b, _, rfl, _, rfl⟩ := h
  exact ⟨a, b, rfl⟩
theorem wtk58 {n : Nat} {vs : List (D regK.T)} (h : WT regK Tryd.prog n 58 vs) : ∃ (p : List Int) (c : List Cp) (u : Int), vs = [.sl 3 p, .sl 48 c, .int .i64 u] := by
  obtain ⟨k, rfl⟩ := two (t := 58) (k := 2) (by kernel_rfl) ⟨(match Tryd.prog.underlying 58 with | some (.struct fs) => fs | _ => #[]), by kernel_rfl⟩ (by kernel_rfl) h
  have e : shOf Tryd.prog (k + 2) 58 = [.l 3, .l 48, .i .i64] := by kernel_rfl
  have h := h.flat
  rw [e] at h
  obtain ⟨a, _, rfl, _, _, c, _, rfl, _, _, b, _, rfl, _, rfl⟩ := h
  exact ⟨a, c, b, rfl⟩
theorem totK : ∀ n e vs, regK.k e = Tryd.prog.cellsOf e → Tryd.prog.cellsOf e ≠ 0 → WT regK Tryd.prog n e vs → ∃ x, regK.enc e x = vs := by
  intro n e vs hk h0 hw
  by_cases h3 : e = 3
  · subst h3; obtain ⟨m, rfl⟩ := wtk3 hw; exact ⟨(m : Int), rfl⟩
  by_cases h5 : e = 5
  · subst h5
    obtain ⟨m, rfl, h1, h2⟩ := wtk5 hw
    refine ⟨(UInt8.ofNat m.toNat : UInt8), ?_⟩
    show [D.int IntKind.u8 ((UInt8.ofNat m.toNat).toNat : Int)] = _
    rw [UInt8.toNat_ofNat_of_lt' (by show m.toNat < 256; omega)]
    rw [Int.toNat_of_nonneg h1]
    rfl
  by_cases h9 : e = 9
  · subst h9; obtain ⟨m, rfl⟩ := wtk9 hw; exact ⟨(m : B), rfl⟩
  by_cases h46 : e = 46
  · subst h46; obtain ⟨p, c, u, rfl⟩ := wtk46 hw; exact ⟨(⟨p, c, u⟩ : Qu), rfl⟩
  by_cases h48 : e = 48
  · subst h48; obtain ⟨a, b, rfl⟩ := wtk48 hw; exact ⟨(⟨a, b⟩ : Cp), rfl⟩
  by_cases h58 : e = 58
  · subst h58; obtain ⟨p, c, u, rfl⟩ := wtk58 hw; exact ⟨(⟨p, c, u⟩ : Rq), rfl⟩
  · rw [k_other h3 h5 h9 h46 h48 h58] at hk; exact (h0 hk.symm).elim
theorem argk3 {n : Nat} {ds : List (D regK.T)} (h : WT regK Tryd.prog n 3 ds) : ∃ a : Int, typV regK Tryd.prog 3 ds = ki a := by
  obtain ⟨m, rfl⟩ := wtk3 h
  exact ⟨m, by kernel_rfl⟩
theorem argk4 {n : Nat} {ds : List (D regK.T)} (h : WT regK Tryd.prog n 4 ds) : ∃ b : Bool, typV regK Tryd.prog 4 ds = kb b := by
  obtain ⟨m, rfl⟩ := wtk4 h
  exact ⟨m, by kernel_rfl⟩
end Go.Proofs.YtaonjbojhikndaaDoor
