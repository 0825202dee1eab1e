/- A configuration that is handed in: its texts' sizes, its numbers. No conditions. -/
import Derived.Test.YtaonjbojhikndaaDoorIt
import Derived.Test.YtaonjbojhikndaaDoorIk
import Derived.Test.YtaonjbojhikndaaDoorWN
namespace Go.Proofs.YtaonjbojhikndaaDoor
open Go Go.W Go.Proofs Go.RowKit
set_option maxRecDepth 100000
theorem wtf2 {D : Type} {R : TypeId → List D → Prop} {fs : List Field} {t0 t1 : TypeId} {vs : List D} (h : fs.map (·.type) = [t0, t1]) (hw : wtFields R fs vs) : ∃ a b, vs = a ++ b ∧ R t0 a ∧ R t1 b := by
  match fs, h with
  | [f, g], h =>
    simp only [List.map_cons, List.map_nil, List.cons.injEq, and_true] at h
    obtain ⟨a, x, rfl, h1, b, y, rfl, h2, rfl⟩ := hw
    exact ⟨a, b, by rw [List.append_nil], h.1 ▸ h1, h.2 ▸ h2⟩
theorem wtf3 {D : Type} {R : TypeId → List D → Prop} {fs : List Field} {t0 t1 t2 : TypeId} {vs : List D} (h : fs.map (·.type) = [t0, t1, t2]) (hw : wtFields R fs vs) : ∃ a b c, vs = a ++ (b ++ c) ∧ R t0 a ∧ R t1 b ∧ R t2 c := by
  match fs, h with
  | [f, g, k], h =>
    simp only [List.map_cons, List.map_nil, List.cons.injEq, and_true] at h
    obtain ⟨a, x, rfl, h1, b, y, rfl, h2, c, z, rfl, h3, rfl⟩ := hw
    exact ⟨a, b, c, by rw [List.append_nil], h.1 ▸ h1, h.2.1 ▸ h2, h.2.2 ▸ h3⟩
theorem wtb3 {Bd n : Nat} {vs : List (D regK.T)} (h : WTB regK Tryd.prog Bd n 3 vs) : ∃ m, vs = [.int .i64 m] ∧ okI m = true := by
  cases n with
  | zero => exact h.elim
  | succ n =>
    have hu : Tryd.prog.underlying 3 = some (.int .i64) := by kernel_rfl
    simp only [WTB, hu] at h
    obtain ⟨m, h, hw⟩ := h
    refine ⟨m, h, ?_⟩
    simp [Lit.wf, IntKind.min, IntKind.max, IntKind.signed, IntKind.bits] at hw
    unfold okI
    rw [dT (by omega), dT (by omega)]; rfl
theorem wtb9 {Bd n : Nat} {vs : List (D regK.T)} (h : WTB regK Tryd.prog Bd n 9 vs) : ∃ s : B, vs = [.str s] ∧ s.length ≤ Bd := by
  cases n with
  | zero => exact h.elim
  | succ n =>
    have hu : Tryd.prog.underlying 9 = some .string := by kernel_rfl
    simp only [WTB, hu] at h
    exact h
theorem wtb48 {Bd n : Nat} {c : Cp} (h : WTB regK Tryd.prog Bd n 48 (enc48 c)) : okC c = true := by
  cases n with
  | zero => exact h.elim
  | succ n =>
    obtain ⟨fs, hu, hfs⟩ : ∃ fs, Tryd.prog.underlying 48 = some (.struct fs) ∧ fs.toList.map (·.type) = [3, 3] := ⟨(match Tryd.prog.underlying 48 with | some (.struct fs) => fs | _ => #[]), by kernel_rfl, by kernel_rfl⟩
    simp only [WTB, hu] at h
    obtain ⟨a, b, e, h1, h2⟩ := wtf2 (t0 := 3) (t1 := 3) hfs h
    obtain ⟨m1, rfl, k1⟩ := wtb3 h1
    obtain ⟨m2, rfl, k2⟩ := wtb3 h2
    have e : ([.int .i64 c.least, .int .i64 c.most] : List (D TK)) = [.int .i64 m1, .int .i64 m2] := e
    simp only [List.cons.injEq, D.int.injEq, true_and, and_true] at e
    unfold okC
    rw [e.1, e.2, k1, k2]; rfl
theorem wtb46 {Bd n : Nat} {q : Qu} (h : WTB regK Tryd.prog Bd n 46 (enc46 q)) : okI q.user = true ∧ ∀ c ∈ q.caps, okC c = true := by
  cases n with
  | zero => exact h.elim
  | succ n =>
    obtain ⟨fs, hu, hfs⟩ : ∃ fs, Tryd.prog.underlying 46 = some (.struct fs) ∧ fs.toList.map (·.type) = [9, 44, 3] := ⟨(match Tryd.prog.underlying 46 with | some (.struct fs) => fs | _ => #[]), by kernel_rfl, by kernel_rfl⟩
    simp only [WTB, hu] at h
    obtain ⟨a, b, c, e, h1, h2, h3⟩ := wtf3 (t0 := 9) (t1 := 44) (t2 := 3) hfs h
    obtain ⟨s, rfl, _⟩ := wtb9 h1
    obtain ⟨m, rfl, k3⟩ := wtb3 h3
    cases n with
    | zero => exact h2.elim
    | succ n =>
      have hu2 : Tryd.prog.underlying 44 = some (.slice 48) := by kernel_rfl
      simp only [WTB, hu2] at h2
      obtain ⟨xs, rfl, _, hx⟩ := h2
      have e : ([.str q.path, .sl 48 q.caps, .int .i64 q.user] : List (D TK)) = [.str s, .sl 48 xs, .int .i64 m] := e
      simp only [List.cons.injEq, D.str.injEq, D.int.injEq, D.sl.injEq, heq_eq_eq, true_and, and_true] at e
      obtain ⟨_, e2, e3⟩ := e
      refine ⟨by rw [e3]; exact k3, fun c hc => ?_⟩
      have e2' : q.caps = xs := by injection e2
      rw [e2'] at hc
      exact wtb48 (hx c hc)
theorem argk32 {n : Nat} {ds : List (D regK.T)} (h : WTB regK Tryd.prog reachBytes n 32 ds) : ∃ x : AT, Sized x ∧ typV regK Tryd.prog 32 ds = .agg [.d (.sl 9 x.la), .d (.sl 46 x.qs)] := by
  cases n with
  | zero => exact h.elim
  | succ n =>
    obtain ⟨fs, hu, hfs⟩ : ∃ fs, Tryd.prog.underlying 32 = some (.struct fs) ∧ fs.toList.map (·.type) = [29, 30] := ⟨(match Tryd.prog.underlying 32 with | some (.struct fs) => fs | _ => #[]), by kernel_rfl, by kernel_rfl⟩
    simp only [WTB, hu] at h
    obtain ⟨a, b, rfl, h1, h2⟩ := wtf2 (t0 := 29) (t1 := 30) hfs h
    cases n with
    | zero => exact h1.elim
    | succ n =>
      have hu1 : Tryd.prog.underlying 29 = some (.slice 9) := by kernel_rfl
      have hu2 : Tryd.prog.underlying 30 = some (.slice 46) := by kernel_rfl
      simp only [WTB, hu1] at h1
      simp only [WTB, hu2] at h2
      obtain ⟨xs, rfl, _, hx⟩ := h1
      obtain ⟨ys, rfl, _, hy⟩ := h2
      refine ⟨⟨xs, ys⟩, ⟨fun l hl => ?_, fun q hq => wtb46 (hy q hq)⟩, by kernel_rfl⟩
      obtain ⟨s, e, hs⟩ := wtb9 (hx l hl)
      have e : ([.str l] : List (D TK)) = [.str s] := e
      simp only [List.cons.injEq, D.str.injEq, and_true] at e
      rw [e]
      exact Nat.le_trans hs (by decide)
end Go.Proofs.YtaonjbojhikndaaDoor
