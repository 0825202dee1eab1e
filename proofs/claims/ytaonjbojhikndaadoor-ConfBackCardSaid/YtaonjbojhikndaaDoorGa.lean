/- Insertion sort of queues: plain laws. No conditions. -/
import Derived.Test.YtaonjbojhikndaaDoorFf
namespace Go.Proofs.YtaonjbojhikndaaDoor
open Go Go.W
set_option maxRecDepth 100000
/-- A queue put among others; the others stand from the greatest down. -/
def insR : List Qu → Qu → List Qu
  | [], x => [x]
  | y :: rs, x => bif ltQ x y then y :: insR rs x else x :: y :: rs
theorem insR_len : ∀ (rs : List Qu) (x : Qu), (insR rs x).length = rs.length + 1
  | [], _ => rfl
  | y :: rs, x => by
    unfold insR
    cases ltQ x y with
    | true => simp [insR_len rs x]
    | false => rfl
theorem getD_mid (a b : List Qu) (x : Qu) : (a ++ x :: b).getD a.length qd = x := by
  simp
theorem set_mid (a b : List Qu) (x y : Qu) : (a ++ x :: b).set a.length y = a ++ y :: b := by
  simp
theorem sink_ins : ∀ (rs : List Qu) (x : Qu) (post : List Qu), sinkM rs.length (rs.reverse ++ x :: post) = (insR rs x).reverse ++ post
  | [], _, _ => rfl
  | y :: rs, x, post => by
    have e : (y :: rs).reverse ++ x :: post = rs.reverse ++ y :: x :: post := by simp
    have hl : rs.reverse.length = rs.length := List.length_reverse
    have g0 : (rs.reverse ++ y :: x :: post).getD rs.length qd = y := by rw [← hl]; exact getD_mid _ _ _
    have g1 : (rs.reverse ++ y :: x :: post).getD (rs.length + 1) qd = x := by
      simp
    rw [e]
    show (bif ltQ ((rs.reverse ++ y :: x :: post).getD (rs.length + 1) qd) ((rs.reverse ++ y :: x :: post).getD rs.length qd) then sinkM rs.length (swapM (rs.reverse ++ y :: x :: post) (rs.length + 1)) else (rs.reverse ++ y :: x :: post)) = _
    rw [g0, g1]
    unfold insR
    cases ltQ x y with
    | false => simp
    | true =>
      have hs : swapM (rs.reverse ++ y :: x :: post) (rs.length + 1) = rs.reverse ++ x :: y :: post := by
        unfold swapM
        rw [Nat.add_sub_cancel, g0, g1]
        have s1 : (rs.reverse ++ y :: x :: post).set (rs.length + 1) y = rs.reverse ++ y :: y :: post := by
          simp
        rw [s1]
        have s2 := set_mid rs.reverse (y :: post) y x
        rw [hl] at s2
        exact s2
      rw [cond_true, hs, sink_ins rs x (y :: post), cond_true]
      simp
def sortR (xs : List Qu) : List Qu := xs.foldl insR []
theorem sortR_snoc (xs : List Qu) (x : Qu) : sortR (xs ++ [x]) = insR (sortR xs) x := by
  unfold sortR; rw [List.foldl_append]; rfl
theorem order_sort (xs : List Qu) : ∀ k, k ≤ xs.length → (sortR (xs.take k)).length = k ∧ orderM k xs = (sortR (xs.take k)).reverse ++ xs.drop k
  | 0, _ => ⟨rfl, rfl⟩
  | k + 1, h => by
    obtain ⟨h1, h2⟩ := order_sort xs k (by omega)
    have ht : xs.take (k + 1) = xs.take k ++ [xs.getD k qd] := take_snoc' qd (by omega)
    have hd : xs.drop k = xs.getD k qd :: xs.drop (k + 1) := by
      rw [List.drop_eq_getElem_cons (by omega)]
      simp [List.getD, show k < xs.length by omega]
    refine ⟨?_, ?_⟩
    · rw [ht, sortR_snoc, insR_len, h1]
    · show sinkM k (orderM k xs) = _
      rw [h2, hd, ht, sortR_snoc]
      have := sink_ins (sortR (xs.take k)) (xs.getD k qd) (xs.drop (k + 1))
      rw [h1] at this
      exact this
theorem order_all (xs : List Qu) : orderM xs.length xs = (sortR xs).reverse := by
  have := (order_sort xs xs.length (Nat.le_refl _)).2
  simpa using this
/-! ### By a key -/
/-- The same, of numbers with a mark. -/
def insP : List (Nat × Bool) → Nat × Bool → List (Nat × Bool)
  | [], x => [x]
  | y :: rs, x => bif decide (x.1 < y.1) then y :: insP rs x else x :: y :: rs
def sortP (xs : List (Nat × Bool)) : List (Nat × Bool) := xs.foldl insP []
theorem insP_mem : ∀ {rs : List (Nat × Bool)} {x z : Nat × Bool}, z ∈ insP rs x → z = x ∨ z ∈ rs
  | [], x, z, h => by simp [insP] at h; exact .inl h
  | y :: rs, x, z, h => by
    unfold insP at h
    cases hc : decide (x.1 < y.1) with
    | true =>
      rw [hc, cond_true] at h
      rcases List.mem_cons.1 h with h | h
      · exact .inr (h ▸ List.mem_cons_self)
      · rcases insP_mem h with h | h
        · exact .inl h
        · exact .inr (List.mem_cons_of_mem _ h)
    | false =>
      rw [hc, cond_false] at h
      rcases List.mem_cons.1 h with h | h
      · exact .inl h
      · exact .inr h
theorem sortP_snoc (xs : List (Nat × Bool)) (x : Nat × Bool) : sortP (xs ++ [x]) = insP (sortP xs) x := by
  unfold sortP; rw [List.foldl_append]; rfl
theorem insP_desc : ∀ {rs : List (Nat × Bool)} {x : Nat × Bool}, rs.Pairwise (fun a b => b.1 < a.1) → (∀ y ∈ rs, y.1 ≠ x.1) → (insP rs x).Pairwise (fun a b => b.1 < a.1)
  | [], x, _, _ => by simp [insP]
  | y :: rs, x, h, hne => by
    unfold insP
    have h := List.pairwise_cons.1 h
    cases hc : decide (x.1 < y.1) with
    | true =>
      have hc := of_decide_eq_true hc
      rw [cond_true]
      refine List.pairwise_cons.2 ⟨fun z hz => ?_, insP_desc h.2 (fun z hz => hne z (List.mem_cons_of_mem _ hz))⟩
      rcases insP_mem hz with hz | hz
      · subst hz; exact hc
      · exact h.1 z hz
    | false =>
      have hc := of_decide_eq_false hc
      have hy := hne y List.mem_cons_self
      rw [cond_false]
      refine List.pairwise_cons.2 ⟨fun z hz => ?_, List.pairwise_cons.2 h⟩
      rcases List.mem_cons.1 hz with hz | hz
      · subst hz; omega
      · have := h.1 z hz; omega
/-- A number that is there already comes to stand beside itself. -/
theorem insP_twice : ∀ {rs : List (Nat × Bool)} {x : Nat × Bool}, rs.Pairwise (fun a b => b.1 < a.1) → (∃ y ∈ rs, y.1 = x.1) → ∃ u y v, insP rs x = u ++ x :: y :: v ∧ y.1 = x.1
  | [], x, _, ⟨y, hy, _⟩ => by cases hy
  | y :: rs, x, h, ⟨z, hz, hzx⟩ => by
    unfold insP
    have h := List.pairwise_cons.1 h
    rcases List.mem_cons.1 hz with hz | hz
    · subst hz
      have : decide (x.1 < z.1) = false := decide_eq_false (by omega)
      rw [this, cond_false]
      exact ⟨[], z, rs, rfl, hzx⟩
    · have h1 := h.1 z hz
      have : decide (x.1 < y.1) = true := decide_eq_true (by omega)
      rw [this, cond_true]
      obtain ⟨u, w, v, e, hw⟩ := insP_twice h.2 ⟨z, hz, hzx⟩
      exact ⟨y :: u, w, v, by rw [e]; rfl, hw⟩
/-- What queues are made of here. -/
def FitP (f : Nat × Bool → Qu) (S : Nat × Bool → Prop) : Prop := ∀ x y, S x → S y → ltQ (f x) (f y) = decide (x.1 < y.1)
theorem insR_map {f : Nat × Bool → Qu} {S : Nat × Bool → Prop} (hf : FitP f S) : ∀ {rs : List (Nat × Bool)} {x : Nat × Bool}, (∀ y ∈ rs, S y) → S x → insR (rs.map f) (f x) = (insP rs x).map f
  | [], x, _, _ => rfl
  | y :: rs, x, h, hx => by
    show (bif ltQ (f x) (f y) then f y :: insR (rs.map f) (f x) else f x :: f y :: rs.map f) = _
    rw [hf x y hx (h y List.mem_cons_self), insR_map hf (fun z hz => h z (List.mem_cons_of_mem _ hz)) hx]
    show _ = List.map f (bif decide (x.1 < y.1) then y :: insP rs x else x :: y :: rs)
    cases decide (x.1 < y.1) <;> rfl
theorem sortP_mem {xs : List (Nat × Bool)} : ∀ {rs : List (Nat × Bool)} {z : Nat × Bool}, z ∈ xs.foldl insP rs → z ∈ rs ∨ z ∈ xs := by
  induction xs with
  | nil => intro rs z h; exact .inl h
  | cons x xs ih =>
    intro rs z h
    rcases ih (rs := insP rs x) h with h | h
    · rcases insP_mem h with h | h
      · exact .inr (h ▸ List.mem_cons_self)
      · exact .inl h
    · exact .inr (List.mem_cons_of_mem _ h)
theorem sort_map {f : Nat × Bool → Qu} {S : Nat × Bool → Prop} (hf : FitP f S) : ∀ {xs rs : List (Nat × Bool)}, (∀ y ∈ rs, S y) → (∀ y ∈ xs, S y) → (xs.map f).foldl insR (rs.map f) = (xs.foldl insP rs).map f
  | [], rs, _, _ => rfl
  | x :: xs, rs, hr, hx => by
    show (xs.map f).foldl insR (insR (rs.map f) (f x)) = (xs.foldl insP (insP rs x)).map f
    rw [insR_map hf hr (hx x List.mem_cons_self)]
    refine sort_map hf (fun y hy => ?_) (fun y hy => hx y (List.mem_cons_of_mem _ hy))
    rcases insP_mem hy with hy | hy
    · exact hy ▸ hx x List.mem_cons_self
    · exact hr y hy
theorem sortR_map {f : Nat × Bool → Qu} {S : Nat × Bool → Prop} (hf : FitP f S) {xs : List (Nat × Bool)} (h : ∀ y ∈ xs, S y) : sortR (xs.map f) = (sortP xs).map f :=
  sort_map hf (rs := []) (fun _ hy => by cases hy) h
/-- Distinct numbers: strictly from the greatest down. -/
theorem sortP_desc {xs : List (Nat × Bool)} : ∀ {rs : List (Nat × Bool)}, rs.Pairwise (fun a b => b.1 < a.1) → (∀ y ∈ rs, ∀ x ∈ xs, y.1 ≠ x.1) → xs.Pairwise (fun a b => a.1 ≠ b.1) → (xs.foldl insP rs).Pairwise (fun a b => b.1 < a.1) := by
  induction xs with
  | nil => intro rs h _ _; exact h
  | cons x xs ih =>
    intro rs h hd hp
    have hp := List.pairwise_cons.1 hp
    refine ih (rs := insP rs x) (insP_desc h (fun y hy => hd y hy x List.mem_cons_self)) (fun y hy z hz => ?_) hp.2
    rcases insP_mem hy with hy | hy
    · subst hy; exact hp.1 z hz
    · exact hd y hy z (List.mem_cons_of_mem _ hz)
theorem dup_at {ys : List Qu} {j : Nat} (h : (ys.getD j qd).path = (ys.getD (j + 1) qd).path) : dupTo ys (j + 2) = true := by
  show (dupTo ys (j + 1) || (decide (0 < j + 1) && (ys.getD (j + 1 - 1) qd).path == (ys.getD (j + 1) qd).path)) = true
  rw [Nat.add_sub_cancel, h]
  simp
theorem dup_none {ys : List Qu} (h : ∀ j, j + 1 < ys.length → ((ys.getD j qd).path == (ys.getD (j + 1) qd).path) = false) : ∀ k, k ≤ ys.length → dupTo ys k = false
  | 0, _ => rfl
  | k + 1, hk => by
    show (dupTo ys k || (decide (0 < k) && (ys.getD (k - 1) qd).path == (ys.getD k qd).path)) = false
    rw [dup_none h k (by omega), Bool.false_or]
    cases k with
    | zero => rfl
    | succ k =>
      rw [Nat.add_sub_cancel, h k (by omega)]
      simp
end Go.Proofs.YtaonjbojhikndaaDoor
