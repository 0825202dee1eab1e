/- ConfOrder: what Parse answers to the texts that are built. No conditions. -/
import Derived.Test.YtaonjbojhikndaaDoorGcV
namespace Go.Proofs.YtaonjbojhikndaaDoor
open Go Go.W
set_option maxRecDepth 100000
theorem ys_is {cs : List Nat} (h8 : ∀ c ∈ cs, c < 8) (hne : cs.Pairwise (· ≠ ·)) : ∃ es : List (Nat × Bool), ysOf cs = es.map f2 ∧ es.length = cs.length ∧ es.Pairwise (fun a b => a.1 < b.1) ∧ ∀ x ∈ es, x.1 < 8 ∧ x.2 = false := by
  let ms : List (Nat × Bool) := cs.map fun c => (c, false)
  have hq : qsOf cs = ms.map f2 := by simp [qsOf, ms]
  have hS : ∀ y ∈ ms, S8 y := by
    intro y hy
    obtain ⟨c, hc, rfl⟩ := List.mem_map.1 hy
    exact h8 c hc
  have hy : ysOf cs = ((sortP ms).reverse).map f2 := by
    show orderM (qsOf cs).length (qsOf cs) = _
    rw [order_all, hq, sortR_map fit2 hS, List.map_reverse]
  refine ⟨(sortP ms).reverse, hy, ?_, ?_, ?_⟩
  · have h1 : (ysOf cs).length = (qsOf cs).length := order_len _ _
    have h2 : (qsOf cs).length = cs.length := by simp [qsOf]
    rw [hy, List.length_map] at h1
    omega
  · rw [List.pairwise_reverse]
    refine sortP_desc List.Pairwise.nil (fun y hy => by cases hy) ?_
    rw [List.pairwise_map]
    exact hne
  · intro x hx
    rw [List.mem_reverse] at hx
    rcases sortP_mem (rs := []) hx with h | h
    · cases h
    · obtain ⟨c, hc, rfl⟩ := List.mem_map.1 h
      exact ⟨h8 c hc, rfl⟩
theorem getD_map {es : List (Nat × Bool)} {j : Nat} (h : j < es.length) : (es.map f2).getD j qd = f2 es[j] := by
  simp [List.getD, h]
theorem ys_asc {cs : List Nat} (h8 : ∀ c ∈ cs, c < 8) (hne : cs.Pairwise (· ≠ ·)) {j : Nat} (h : j + 1 < cs.length) :
    Op.bytesLess ((ysOf cs).getD j qd).path ((ysOf cs).getD (j + 1) qd).path = true ∧ (((ysOf cs).getD j qd).path == ((ysOf cs).getD (j + 1) qd).path) = false := by
  obtain ⟨es, e1, e2, e3, e4⟩ := ys_is h8 hne
  have hj : j < es.length := by omega
  have hj1 : j + 1 < es.length := by omega
  have hlt := (List.pairwise_iff_getElem.1 e3) j (j + 1) hj hj1 (by omega)
  have m0 := (e4 _ (List.getElem_mem hj)).1
  have m1 := (e4 _ (List.getElem_mem hj1)).1
  rw [e1, getD_map hj, getD_map hj1, f2_path, f2_path]
  refine ⟨?_, ?_⟩
  · exact (lt_p ⟨_, m0⟩ ⟨_, m1⟩).trans (decide_eq_true hlt)
  · exact (ne_p ⟨_, m0⟩ ⟨_, m1⟩).trans (decide_eq_false (by show ¬ es[j].1 = es[j + 1].1; omega))
theorem ys_len (cs : List Nat) : (ysOf cs).length = cs.length := by
  have h1 : (ysOf cs).length = (qsOf cs).length := order_len _ _
  rw [h1]; simp [qsOf]
theorem ys_caps {cs : List Nat} (h8 : ∀ c ∈ cs, c < 8) (hne : cs.Pairwise (· ≠ ·)) (h : 0 < cs.length) : ((ysOf cs).getD 0 qd).caps = [⟨2, 3⟩] := by
  obtain ⟨es, e1, e2, _, e4⟩ := ys_is h8 hne
  have hj : 0 < es.length := by omega
  have m := (e4 _ (List.getElem_mem hj)).2
  rw [e1, getD_map hj]
  unfold f2
  rw [m]; rfl
theorem parse_once {cs : List Nat} (h8 : ∀ c ∈ cs, c < 8) (hne : cs.Pairwise (· ≠ ·)) (h12 : cs.length ≤ 12) : parseM (txtM (cs.map pOf) cs.length) = ⟨[[]], ysOf cs, 0⟩ := by
  have hl := txt_len cs cs.length (Nat.le_refl _)
  exact parse_ok (dF (by rw [hl]; omega)) (run_once cs h8 (by omega)) rfl (by
    have : (qsOf cs).length ≤ (ysOf cs).length := by rw [ys_len]; simp [qsOf]
    exact dup_none (fun j hj => (ys_asc h8 hne (by rw [ys_len] at hj; exact hj)).2) _ this)
theorem insP_sub : ∀ {rs : List (Nat × Bool)} {x z : Nat × Bool}, z = x ∨ z ∈ rs → z ∈ insP rs x
  | [], x, z, h => by
    rcases h with h | h
    · subst h; exact List.mem_cons_self
    · cases h
  | y :: rs, x, z, h => by
    show z ∈ (bif decide (x.1 < y.1) then y :: insP rs x else x :: y :: rs)
    cases decide (x.1 < y.1) with
    | true =>
      rcases h with h | h
      · exact List.mem_cons_of_mem _ (insP_sub (.inl h))
      · rcases List.mem_cons.1 h with h | h
        · subst h; exact List.mem_cons_self
        · exact List.mem_cons_of_mem _ (insP_sub (.inr h))
    | false =>
      rcases h with h | h
      · subst h; exact List.mem_cons_self
      · exact List.mem_cons_of_mem _ h
theorem sortP_sub {xs : List (Nat × Bool)} : ∀ {rs : List (Nat × Bool)} {z : Nat × Bool}, z ∈ rs ∨ z ∈ xs → z ∈ xs.foldl insP rs := by
  induction xs with
  | nil => intro rs z h; rcases h with h | h; exact h; cases h
  | cons x xs ih =>
    intro rs z h
    refine ih (rs := insP rs x) ?_
    rcases h with h | h
    · exact .inl (insP_sub (.inr h))
    · rcases List.mem_cons.1 h with h | h
      · exact .inl (insP_sub (.inl h))
      · exact .inr h
theorem parse_twice {cs : List Nat} (h8 : ∀ c ∈ cs, c < 8) (hne : cs.Pairwise (· ≠ ·)) (h12 : cs.length ≤ 12) {c : Nat} (hc : c ∈ cs) : parseM (txtM (cs.map pOf) cs.length ++ qLast (pOf c)) = ⟨[], [], 7⟩ := by
  have hl := txt_len cs cs.length (Nat.le_refl _)
  have hc8 := h8 c hc
  have hrun := run_twice cs h8 (by omega) hc8
  have hlen : (qLast (pOf c)).length = 18 := rfl
  refine parse_dup (dF (by rw [List.length_append, hl, hlen]; omega)) hrun rfl ?_
  let ms : List (Nat × Bool) := cs.map fun c => (c, false)
  have hS : ∀ y ∈ ms, S8 y := by
    intro y hy
    obtain ⟨c, hc, rfl⟩ := List.mem_map.1 hy
    exact h8 c hc
  have hd : (sortP ms).Pairwise (fun a b => b.1 < a.1) := by
    refine sortP_desc List.Pairwise.nil (fun y hy => by cases hy) ?_
    rw [List.pairwise_map]
    exact hne
  have hq : qsOf cs ++ [f2 (c, true)] = (ms ++ [(c, true)]).map f2 := by simp [qsOf, ms]
  have hS' : ∀ y ∈ ms ++ [(c, true)], S8 y := by
    intro y hy
    rcases List.mem_append.1 hy with hy | hy
    · exact hS y hy
    · rw [List.mem_singleton.1 hy]; exact hc8
  have hmem : ∃ y ∈ sortP ms, y.1 = c := by
    exact ⟨(c, false), sortP_sub (rs := []) (.inr (List.mem_map.2 ⟨c, hc, rfl⟩)), rfl⟩
  obtain ⟨u, y, v, he, hy⟩ := insP_twice (x := (c, true)) hd hmem
  have ho : ordM (rdQ (qsOf cs ++ [f2 (c, true)])) = ((u ++ (c, true) :: y :: v).reverse).map f2 := by
    show orderM (qsOf cs ++ [f2 (c, true)]).length (qsOf cs ++ [f2 (c, true)]) = _
    rw [order_all, hq, sortR_map fit2 hS', sortP_snoc, he, List.map_reverse]
  have e : (u ++ (c, true) :: y :: v).reverse = v.reverse ++ y :: (c, true) :: u.reverse := by simp
  have hlen2 : (ordM (rdQ (qsOf cs ++ [f2 (c, true)]))).length = (qsOf cs ++ [f2 (c, true)]).length := order_len _ _
  have hl3 : v.length + 2 ≤ (qsOf cs ++ [f2 (c, true)]).length := by
    rw [← hlen2, ho, e]; simp
  refine dup_mono _ hl3 (dup_at ?_)
  rw [ho, e]
  have g0 : ((v.reverse ++ y :: (c, true) :: u.reverse).map f2).getD v.length qd = f2 y := by simp [List.getD]
  have g1 : ((v.reverse ++ y :: (c, true) :: u.reverse).map f2).getD (v.length + 1) qd = f2 (c, true) := by simp [List.getD]
  rw [g0, g1, f2_path, f2_path, hy]
end Go.Proofs.YtaonjbojhikndaaDoor
