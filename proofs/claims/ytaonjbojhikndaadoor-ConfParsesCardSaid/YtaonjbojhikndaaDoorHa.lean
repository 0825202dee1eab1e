/- Queues that are kept in order while they are read: the same as sorted at the end. Plain laws. No conditions. -/
import Derived.Test.YtaonjbojhikndaaDoorGa
namespace Go.Proofs.YtaonjbojhikndaaDoor
open Go Go.W
set_option maxRecDepth 100000
/-! ### Bytes in order -/
theorem bl_irr : ∀ x : B, Op.bytesLess x x = false
  | [] => rfl
  | a :: x => by
    have := bl_irr x
    simp [Op.bytesLess, this]
theorem bl_tri : ∀ x y : B, Op.bytesLess x y = false → Op.bytesLess y x = false → x = y
  | [], [], _, _ => rfl
  | [], _ :: _, h, _ => by cases h
  | _ :: _, [], _, h => by cases h
  | a :: x, b :: y, h1, h2 => by
    simp only [Op.bytesLess, Bool.or_eq_false_iff, decide_eq_false_iff_not, Bool.and_eq_false_iff, UInt8.not_lt] at h1 h2
    have hab : a = b := UInt8.le_antisymm h2.1 h1.1
    subst hab
    have h3 : Op.bytesLess x y = false := by rcases h1.2 with h | h; · simp at h
                                             · exact h
    have h4 : Op.bytesLess y x = false := by rcases h2.2 with h | h; · simp at h
                                             · exact h
    rw [bl_tri x y h3 h4]
theorem bl_trans : ∀ {x y z : B}, Op.bytesLess x y = true → Op.bytesLess y z = true → Op.bytesLess x z = true
  | _, y, [], _, h => by cases y <;> simp [Op.bytesLess] at h
  | [], _, _ :: _, _, _ => rfl
  | _ :: _, [], _ :: _, h, _ => by simp [Op.bytesLess] at h
  | a :: x, b :: y, c :: z, h1, h2 => by
    simp only [Op.bytesLess, Bool.or_eq_true, decide_eq_true_eq, Bool.and_eq_true, beq_iff_eq] at h1 h2 ⊢
    rcases h1 with h1 | ⟨rfl, h1⟩
    · rcases h2 with h2 | ⟨rfl, h2⟩
      · exact .inl (UInt8.lt_trans h1 h2)
      · exact .inl h1
    · rcases h2 with h2 | ⟨rfl, h2⟩
      · exact .inl h2
      · exact .inr ⟨rfl, bl_trans h1 h2⟩
theorem lt_asym {x y : Qu} (h : ltQ x y = true) : ltQ y x = false := by
  cases h' : ltQ y x with
  | false => rfl
  | true =>
    have : Op.bytesLess x.path x.path = true := bl_trans h h'
    rw [bl_irr] at this
    cases this
theorem lt_ne {x y : Qu} (h : ltQ x y = true) : x.path ≠ y.path := fun e => by
  unfold ltQ at h
  rw [e, bl_irr] at h
  cases h
theorem le_tr {x y z : Qu} (h1 : ltQ x y = false) (h2 : ltQ y z = false) : ltQ x z = false := by
  cases h : ltQ x z with
  | false => rfl
  | true =>
    cases h3 : ltQ y x with
    | true =>
      have : ltQ y z = true := bl_trans (x := y.path) h3 h
      rw [h2] at this; cases this
    | false =>
      have e : x.path = y.path := bl_tri _ _ h1 h3
      unfold ltQ at h h2
      rw [e, h2] at h; cases h
theorem lt_le {x y z : Qu} (h1 : ltQ x y = true) (h2 : ltQ z y = false) : ltQ x z = true := by
  cases h : ltQ x z with
  | true => rfl
  | false => rw [le_tr h h2] at h1; cases h1
/-! ### A queue at its place -/
def insF : List Qu → Qu → List Qu
  | [], x => [x]
  | y :: ys, x => bif ltQ y x then y :: insF ys x else x :: y :: ys
def isF : List Qu → Qu → Bool
  | [], _ => false
  | y :: ys, x => bif ltQ y x then isF ys x else y.path == x.path
theorem insF_perm : ∀ (ys : List Qu) (x : Qu), (insF ys x).Perm (x :: ys)
  | [], x => List.Perm.refl _
  | y :: ys, x => by
    unfold insF
    cases ltQ y x with
    | true => exact ((insF_perm ys x).cons y).trans (List.Perm.swap x y ys)
    | false => exact List.Perm.refl _
theorem insF_mem {ys : List Qu} {x z : Qu} (h : z ∈ insF ys x) : z = x ∨ z ∈ ys := by
  have := (insF_perm ys x).mem_iff.1 h
  simpa using this
theorem isF_mem : ∀ {ys : List Qu} {x : Qu}, isF ys x = true → ∃ y ∈ ys, y.path = x.path
  | [], x, h => by cases h
  | y :: ys, x, h => by
    unfold isF at h
    cases hc : ltQ y x with
    | true =>
      rw [hc, cond_true] at h
      obtain ⟨z, hz, e⟩ := isF_mem h
      exact ⟨z, List.mem_cons_of_mem _ hz, e⟩
    | false =>
      rw [hc, cond_false] at h
      exact ⟨y, List.mem_cons_self, by simpa using h⟩
def Strict (l : List Qu) : Prop := l.Pairwise fun a b => ltQ a b = true
theorem insF_strict : ∀ {ys : List Qu} {x : Qu}, Strict ys → isF ys x = false → Strict (insF ys x)
  | [], x, _, _ => List.pairwise_singleton _ _
  | y :: ys, x, h, hn => by
    have h := List.pairwise_cons.1 h
    unfold isF at hn
    unfold insF Strict
    cases hc : ltQ y x with
    | true =>
      rw [hc, cond_true] at hn
      rw [cond_true]
      refine List.pairwise_cons.2 ⟨fun z hz => ?_, insF_strict h.2 hn⟩
      rcases insF_mem hz with rfl | hz
      · exact hc
      · exact h.1 z hz
    | false =>
      rw [hc, cond_false] at hn
      rw [cond_false]
      have hxy : ltQ x y = true := by
        cases h' : ltQ x y with
        | true => rfl
        | false =>
          have : y.path = x.path := bl_tri _ _ hc h'
          rw [this] at hn; simp at hn
      refine List.pairwise_cons.2 ⟨fun z hz => ?_, List.pairwise_cons.2 h⟩
      rcases List.mem_cons.1 hz with rfl | hz
      · exact hxy
      · exact bl_trans (x := x.path) hxy (h.1 z hz)
/-- Put behind those that are less, or ahead of those that are greater: the same, where it is not there. -/
theorem insR_snoc (x : Qu) : ∀ (rs : List Qu) (y : Qu), insR (rs ++ [y]) x = bif (rs ++ [y]).all (fun z => ltQ x z) then rs ++ [y, x] else (bif rs.all (fun z => ltQ x z) then rs ++ [x, y] else insR rs x ++ [y])
  | [], y => by
    show (bif ltQ x y then y :: [x] else x :: y :: []) = bif (ltQ x y && true) then [y, x] else bif true then [x, y] else [x, y]
    cases ltQ x y <;> rfl
  | r :: rs, y => by
    show (bif ltQ x r then r :: insR (rs ++ [y]) x else x :: r :: (rs ++ [y])) = bif ltQ x r && (rs ++ [y]).all (fun z => ltQ x z) then r :: (rs ++ [y, x]) else bif ltQ x r && rs.all (fun z => ltQ x z) then r :: (rs ++ [x, y]) else (bif ltQ x r then r :: insR rs x else x :: r :: rs) ++ [y]
    rw [insR_snoc x rs y]
    cases ltQ x r with
    | false => rfl
    | true =>
      simp only [cond_true, Bool.true_and]
      cases (rs ++ [y]).all (fun z => ltQ x z) with
      | true => rfl
      | false =>
        simp only [cond_false]
        cases rs.all (fun z => ltQ x z) <;> rfl
theorem insR_last {rs : List Qu} {x : Qu} (h : rs.all (fun z => ltQ x z) = true) : insR rs x = rs ++ [x] := by
  induction rs with
  | nil => rfl
  | cons r rs ih =>
    rw [List.all_cons, Bool.and_eq_true] at h
    show (bif ltQ x r then r :: insR rs x else x :: r :: rs) = _
    rw [h.1, cond_true, ih h.2]; rfl
theorem insF_insR : ∀ {ys : List Qu} {x : Qu}, Strict ys → isF ys x = false → insR ys.reverse x = (insF ys x).reverse
  | [], x, _, _ => rfl
  | y :: ys, x, h, hn => by
    have h' := List.pairwise_cons.1 h
    rw [List.reverse_cons, insR_snoc]
    unfold isF at hn
    unfold insF
    cases hc : ltQ y x with
    | true =>
      rw [hc, cond_true] at hn
      have e1 : (ys.reverse ++ [y]).all (fun z => ltQ x z) = false := by
        rw [List.all_append]
        have : ltQ x y = false := lt_asym hc
        simp [this]
      rw [e1, cond_false, cond_true, List.reverse_cons, ← insF_insR h'.2 hn]
      cases ha : ys.reverse.all (fun z => ltQ x z) with
      | false => rfl
      | true => rw [cond_true, insR_last ha]; simp
    | false =>
      rw [hc, cond_false] at hn
      have hxy : ltQ x y = true := by
        cases h' : ltQ x y with
        | true => rfl
        | false =>
          have : y.path = x.path := bl_tri _ _ hc h'
          rw [this] at hn; simp at hn
      have e1 : (ys.reverse ++ [y]).all (fun z => ltQ x z) = true := by
        rw [List.all_eq_true]
        intro z hz
        rcases List.mem_append.1 hz with hz | hz
        · exact bl_trans (x := x.path) hxy (h'.1 z (List.mem_reverse.1 hz))
        · rw [List.mem_singleton.1 hz]; exact hxy
      rw [e1, cond_true, cond_false]
      simp
/-! ### All that were read -/
theorem insR_perm : ∀ (rs : List Qu) (x : Qu), (insR rs x).Perm (x :: rs)
  | [], x => List.Perm.refl _
  | y :: ys, x => by
    unfold insR
    cases ltQ x y with
    | true => exact ((insR_perm ys x).cons y).trans (List.Perm.swap x y ys)
    | false => exact List.Perm.refl _
theorem insR_desc : ∀ {rs : List Qu} {x : Qu}, rs.Pairwise (fun a b => ltQ a b = false) → (insR rs x).Pairwise (fun a b => ltQ a b = false)
  | [], x, _ => List.pairwise_singleton _ _
  | y :: rs, x, h => by
    have h' := List.pairwise_cons.1 h
    unfold insR
    cases hc : ltQ x y with
    | true =>
      rw [cond_true]
      refine List.pairwise_cons.2 ⟨fun z hz => ?_, insR_desc h'.2⟩
      have := (insR_perm rs x).mem_iff.1 hz
      rcases List.mem_cons.1 this with rfl | hz
      · exact lt_asym hc
      · exact h'.1 z hz
    | false =>
      rw [cond_false]
      refine List.pairwise_cons.2 ⟨fun z hz => ?_, h⟩
      rcases List.mem_cons.1 hz with rfl | hz
      · exact hc
      · exact le_tr hc (h'.1 z hz)
theorem foldl_perm : ∀ (xs rs : List Qu), (xs.foldl insR rs).Perm (xs ++ rs)
  | [], rs => List.Perm.refl _
  | x :: xs, rs => by
    refine (foldl_perm xs (insR rs x)).trans ?_
    refine ((List.Perm.append_left xs (insR_perm rs x))).trans ?_
    exact List.perm_middle
theorem sortR_perm (xs : List Qu) : (sortR xs).Perm xs := by
  have := foldl_perm xs []
  rwa [List.append_nil] at this
theorem foldl_desc : ∀ (xs rs : List Qu), rs.Pairwise (fun a b => ltQ a b = false) → (xs.foldl insR rs).Pairwise (fun a b => ltQ a b = false)
  | [], _, h => h
  | x :: xs, rs, h => foldl_desc xs (insR rs x) (insR_desc h)
theorem sortR_desc (xs : List Qu) : (sortR xs).Pairwise (fun a b => ltQ a b = false) := foldl_desc xs [] List.Pairwise.nil
/-- Sorted queues of which two are of one path: two of one path stand side by side. -/
theorem dup_sorted {ys : List Qu} (hs : ys.Pairwise (fun a b => ltQ b a = false)) (hn : ¬ (ys.map (·.path)).Nodup) : dupTo ys ys.length = true := by
  cases hd : dupTo ys ys.length with
  | true => rfl
  | false =>
    refine (hn ?_).elim
    have adj : ∀ j, j + 1 < ys.length → (ys.getD j qd).path ≠ (ys.getD (j + 1) qd).path := fun j hj e => by
      have := dup_mono ys (j := j + 2) (k := ys.length) (by omega) (dup_at e)
      rw [hd] at this; cases this
    have hs := List.pairwise_iff_getElem.1 hs
    have hg : ∀ j (h : j < ys.length), ys.getD j qd = ys[j] := fun j h => by simp [List.getD, h]
    unfold List.Nodup
    rw [List.pairwise_map, List.pairwise_iff_getElem]
    intro i j hi hj hij e
    have a1 := adj i (by omega)
    rw [hg i hi, hg (i + 1) (by omega)] at a1
    have s1 := hs i (i + 1) hi (by omega) (by omega)
    refine a1 (bl_tri _ _ ?_ s1)
    by_cases h : i + 1 = j
    · subst h; rw [e]; exact bl_irr _
    · have s2 := hs (i + 1) j (by omega) hj (by omega)
      show Op.bytesLess ys[i].path ys[i + 1].path = false
      rw [e]; exact s2
/-- What the reference has: its queues in order, whether one came twice. -/
structure Kept (qs xs : List Qu) (tw : Bool) : Prop where
  perm : qs.Perm xs
  once : tw = false → qs = (sortR xs).reverse ∧ Strict qs
  twice : tw = true → ¬ (xs.map (·.path)).Nodup
theorem Kept.nil : Kept [] [] false := ⟨List.Perm.refl _, fun _ => ⟨rfl, List.Pairwise.nil⟩, fun h => by cases h⟩
theorem Kept.add {qs xs : List Qu} {tw : Bool} (h : Kept qs xs tw) (x : Qu) : Kept (insF qs x) (xs ++ [x]) (tw || isF qs x) := by
  refine ⟨(insF_perm qs x).trans ((h.perm.cons x).trans (List.perm_append_singleton x xs).symm), fun ht => ?_, fun ht => ?_⟩
  · rw [Bool.or_eq_false_iff] at ht
    obtain ⟨h1, h2⟩ := h.once ht.1
    refine ⟨?_, insF_strict h2 ht.2⟩
    rw [sortR_snoc]
    have : sortR xs = qs.reverse := by rw [h1, List.reverse_reverse]
    rw [this, insF_insR h2 ht.2, List.reverse_reverse]
  · rw [Bool.or_eq_true] at ht
    intro hn
    rw [List.map_append] at hn
    have hn := List.nodup_append.1 hn
    rcases ht with ht | ht
    · exact h.twice ht hn.1
    · obtain ⟨y, hy, e⟩ := isF_mem ht
      exact hn.2.2 y.path (List.mem_map_of_mem (h.perm.mem_iff.1 hy)) x.path (by simp) e
theorem Kept.len {qs xs : List Qu} {tw : Bool} (h : Kept qs xs tw) : qs.length = xs.length := h.perm.length_eq
theorem Kept.end_once {qs xs : List Qu} (h : Kept qs xs false) : orderM xs.length xs = qs ∧ dupTo (orderM xs.length xs) xs.length = false := by
  obtain ⟨h1, h2⟩ := h.once rfl
  rw [order_all, ← h1]
  refine ⟨rfl, dup_none (fun j hj => ?_) _ (by rw [h.len]; exact Nat.le_refl _)⟩
  have := List.pairwise_iff_getElem.1 h2 j (j + 1) (by omega) hj (by omega)
  have hg : ∀ j (h : j < qs.length), qs.getD j qd = qs[j] := fun j h => by simp [List.getD, h]
  rw [hg j (by omega), hg (j + 1) hj]
  exact beq_eq_false_iff_ne.2 (lt_ne this)
theorem Kept.end_twice {qs xs : List Qu} (h : Kept qs xs true) : dupTo (orderM xs.length xs) xs.length = true := by
  have hn := h.twice rfl
  have hp : (orderM xs.length xs).Perm xs := by rw [order_all]; exact (List.reverse_perm _).trans (sortR_perm xs)
  have hl : xs.length = (orderM xs.length xs).length := (order_len _ _).symm
  have : dupTo (orderM xs.length xs) (orderM xs.length xs).length = true := by
    refine dup_sorted ?_ ?_
    · rw [order_all, List.pairwise_reverse]; exact sortR_desc xs
    · intro h; exact hn (((hp.map _).nodup_iff).1 h)
  rw [← hl] at this
  exact this
end Go.Proofs.YtaonjbojhikndaaDoor
