/- The reference's reader of lines: forms; queues kept in order: plain laws. No conditions. -/
import Derived.Test.YtaonjbojhikndaaDoorGa
namespace Go.Proofs.YtaonjbojhikndaaDoor
open Go Go.W
set_option maxRecDepth 100000
/-! ### Bytes in order -/
theorem bl_irr : ∀ x : B, Op.bytesLess x x = false
  | [] => rfl
  | a :: x => by
    have := bl_irr x
    simp [Op.bytesLess, this]
theorem bl_tri : ∀ x y : B, Op.bytesLess x y = false → Op.bytesLess y x = false → x = y
  | [], [], _, _ => rfl
  | [], _ :: _, h, _ => by cases h
  | _ :: _, [], _, h => by cases h
  | a :: x, b :: y, h1, h2 => by
    simp only [Op.bytesLess, Bool.or_eq_false_iff, decide_eq_false_iff_not, Bool.and_eq_false_iff, UInt8.not_lt] at h1 h2
    have hab : a = b := UInt8.le_antisymm h2.1 h1.1
    subst hab
    have h3 : Op.bytesLess x y = false := by rcases h1.2 with h | h; · simp at h
                                             · exact h
    have h4 : Op.bytesLess y x = false := by rcases h2.2 with h | h; · simp at h
                                             · exact h
    rw [bl_tri x y h3 h4]
theorem bl_trans : ∀ {x y z : B}, Op.bytesLess x y = true → Op.bytesLess y z = true → Op.bytesLess x z = true
  | _, y, [], _, h => by cases y <;> simp [Op.bytesLess] at h
  | [], _, _ :: _, _, _ => rfl
  | _ :: _, [], _ :: _, h, _ => by simp [Op.bytesLess] at h
  | a :: x, b :: y, c :: z, h1, h2 => by
    simp only [Op.bytesLess, Bool.or_eq_true, decide_eq_true_eq, Bool.and_eq_true, beq_iff_eq] at h1 h2 ⊢
    rcases h1 with h1 | ⟨rfl, h1⟩
    · rcases h2 with h2 | ⟨rfl, h2⟩
      · exact .inl (UInt8.lt_trans h1 h2)
      · exact .inl h1
    · rcases h2 with h2 | ⟨rfl, h2⟩
      · exact .inl h2
      · exact .inr ⟨rfl, bl_trans h1 h2⟩
theorem lt_asym {x y : Qu} (h : ltQ x y = true) : ltQ y x = false := by
  cases h' : ltQ y x with
  | false => rfl
  | true =>
    have : Op.bytesLess x.path x.path = true := bl_trans h h'
    rw [bl_irr] at this
    cases this
theorem lt_ne {x y : Qu} (h : ltQ x y = true) : x.path ≠ y.path := fun e => by
  unfold ltQ at h
  rw [e, bl_irr] at h
  cases h
theorem le_tr {x y z : Qu} (h1 : ltQ x y = false) (h2 : ltQ y z = false) : ltQ x z = false := by
  cases h : ltQ x z with
  | false => rfl
  | true =>
    cases h3 : ltQ y x with
    | true =>
      have : ltQ y z = true := bl_trans (x := y.path) h3 h
      rw [h2] at this; cases this
    | false =>
      have e : x.path = y.path := bl_tri _ _ h1 h3
      unfold ltQ at h h2
      rw [e, h2] at h; cases h
theorem lt_le {x y z : Qu} (h1 : ltQ x y = true) (h2 : ltQ z y = false) : ltQ x z = true := by
  cases h : ltQ x z with
  | true => rfl
  | false => rw [le_tr h h2] at h1; cases h1
/-! ### A queue at its place -/
def insF : List Qu → Qu → List Qu
  | [], x => [x]
  | y :: ys, x => bif ltQ y x then y :: insF ys x else x :: y :: ys
def isF : List Qu → Qu → Bool
  | [], _ => false
  | y :: ys, x => bif ltQ y x then isF ys x else y.path == x.path
theorem insF_perm : ∀ (ys : List Qu) (x : Qu), (insF ys x).Perm (x :: ys)
  | [], x => List.Perm.refl _
  | y :: ys, x => by
    unfold insF
    cases ltQ y x with
    | true => exact ((insF_perm ys x).cons y).trans (List.Perm.swap x y ys)
    | false => exact List.Perm.refl _
theorem insF_mem {ys : List Qu} {x z : Qu} (h : z ∈ insF ys x) : z = x ∨ z ∈ ys := by
  have := (insF_perm ys x).mem_iff.1 h
  simpa using this
theorem isF_mem : ∀ {ys : List Qu} {x : Qu}, isF ys x = true → ∃ y ∈ ys, y.path = x.path
  | [], x, h => by cases h
  | y :: ys, x, h => by
    unfold isF at h
    cases hc : ltQ y x with
    | true =>
      rw [hc, cond_true] at h
      obtain ⟨z, hz, e⟩ := isF_mem h
      exact ⟨z, List.mem_cons_of_mem _ hz, e⟩
    | false =>
      rw [hc, cond_false] at h
      exact ⟨y, List.mem_cons_self, by simpa using h⟩
def Strict (l : List Qu) : Prop := l.Pairwise fun a b => ltQ a b = true
theorem insF_strict : ∀ {ys : List Qu} {x : Qu}, Strict ys → isF ys x = false → Strict (insF ys x)
  | [], x, _, _ => List.pairwise_singleton _ _
  | y :: ys, x, h, hn => by
    have h := List.pairwise_cons.1 h
    unfold isF at hn
    unfold insF Strict
    cases hc : ltQ y x with
    | true =>
      rw [hc, cond_true] at hn
      rw [cond_true]
      refine List.pairwise_cons.2 ⟨fun z hz => ?_, insF_strict h.2 hn⟩
      rcases insF_mem hz with rfl | hz
      · exact hc
      · exact h.1 z hz
    | false =>
      rw [hc, cond_false] at hn
      rw [cond_false]
      have hxy : ltQ x y = true := by
        cases h' : ltQ x y with
        | true => rfl
        | false =>
          have : y.path = x.path := bl_tri _ _ hc h'
          rw [this] at hn; simp at hn
      refine List.pairwise_cons.2 ⟨fun z hz => ?_, List.pairwise_cons.2 h⟩
      rcases List.mem_cons.1 hz with rfl | hz
      · exact hxy
      · exact bl_trans (x := x.path) hxy (h.1 z hz)
/-- Put behind those that are less, or ahead of those that are greater: the same, where it is not there. -/
theorem insR_snoc (x : Qu) : ∀ (rs : List Qu) (y : Qu), insR (rs ++ [y]) x = bif (rs ++ [y]).all (fun z => ltQ x z) then rs ++ [y, x] else (bif rs.all (fun z => ltQ x z) then rs ++ [x, y] else insR rs x ++ [y])
  | [], y => by
    show (bif ltQ x y then y :: [x] else x :: y :: []) = bif (ltQ x y && true) then [y, x] else bif true then [x, y] else [x, y]
    cases ltQ x y <;> rfl
  | r :: rs, y => by
    show (bif ltQ x r then r :: insR (rs ++ [y]) x else x :: r :: (rs ++ [y])) = bif ltQ x r && (rs ++ [y]).all (fun z => ltQ x z) then r :: (rs ++ [y, x]) else bif ltQ x r && rs.all (fun z => ltQ x z) then r :: (rs ++ [x, y]) else (bif ltQ x r then r :: insR rs x else x :: r :: rs) ++ [y]
    rw [insR_snoc x rs y]
    cases ltQ x r with
    | false => rfl
    | true =>
      simp only [cond_true, Bool.true_and]
      cases (rs ++ [y]).all (fun z => ltQ x z) with
      | true => rfl
      | false =>
        simp only [cond_false]
        cases rs.all (fun z => ltQ x z) <;> rfl
theorem insR_last {rs : List Qu} {x : Qu} (h : rs.all (fun z => ltQ x z) = true) : insR rs x = rs ++ [x] := by
  induction rs with
  | nil => rfl
  | cons r rs ih =>
    rw [List.all_cons, Bool.and_eq_true] at h
    show (bif ltQ x r then r :: insR rs x else x :: r :: rs) = _
    rw [h.1, cond_true, ih h.2]; rfl
theorem insF_insR : ∀ {ys : List Qu} {x : Qu}, Strict ys → isF ys x = false → insR ys.reverse x = (insF ys x).reverse
  | [], x, _, _ => rfl
  | y :: ys, x, h, hn => by
    have h' := List.pairwise_cons.1 h
    rw [List.reverse_cons, insR_snoc]
    unfold isF at hn
    unfold insF
    cases hc : ltQ y x with
    | true =>
      rw [hc, cond_true] at hn
      have e1 : (ys.reverse ++ [y]).all (fun z => ltQ x z) = false := by
        rw [List.all_append]
        have : ltQ x y = false := lt_asym hc
        simp [this]
      rw [e1, cond_false, cond_true, List.reverse_cons, ← insF_insR h'.2 hn]
      cases ha : ys.reverse.all (fun z => ltQ x z) with
      | false => rfl
      | true => rw [cond_true, insR_last ha]; simp
    | false =>
      rw [hc, cond_false] at hn
      have hxy : ltQ x y = true := by
        cases h' : ltQ x y with
        | true => rfl
        | false =>
          have : y.path = x.path := bl_tri _ _ hc h'
          rw [this] at hn; simp at hn
      have e1 : (ys.reverse ++ [y]).all (fun z => ltQ x z) = true := by
        rw [List.all_eq_true]
        intro z hz
        rcases List.mem_append.1 hz with hz | hz
        · exact bl_trans (x := x.path) hxy (h'.1 z (List.mem_reverse.1 hz))
        · rw [List.mem_singleton.1 hz]; exact hxy
      rw [e1, cond_true, cond_false]
      simp
/-! ### All that were read -/
theorem insR_perm : ∀ (rs : List Qu) (x : Qu), (insR rs x).Perm (x :: rs)
  | [], x => List.Perm.refl _
  | y :: ys, x => by
    unfold insR
    cases ltQ x y with
    | true => exact ((insR_perm ys x).cons y).trans (List.Perm.swap x y ys)
    | false => exact List.Perm.refl _
theorem insR_desc : ∀ {rs : List Qu} {x : Qu}, rs.Pairwise (fun a b => ltQ a b = false) → (insR rs x).Pairwise (fun a b => ltQ a b = false)
  | [], x, _ => List.pairwise_singleton _ _
  | y :: rs, x, h => by
    have h' := List.pairwise_cons.1 h
    unfold insR
    cases hc : ltQ x y with
    | true =>
      rw [cond_true]
      refine List.pairwise_cons.2 ⟨fun z hz => ?_, insR_desc h'.2⟩
      have := (insR_perm rs x).mem_iff.1 hz
      rcases List.mem_cons.1 this with rfl | hz
      · exact lt_asym hc
      · exact h'.1 z hz
    | false =>
      rw [cond_false]
      refine List.pairwise_cons.2 ⟨fun z hz => ?_, h⟩
      rcases List.mem_cons.1 hz with rfl | hz
      · exact hc
      · exact le_tr hc (h'.1 z hz)
theorem foldl_perm : ∀ (xs rs : List Qu), (xs.foldl insR rs).Perm (xs ++ rs)
  | [], rs => List.Perm.refl _
  | x :: xs, rs => by
    refine (foldl_perm xs (insR rs x)).trans ?_
    refine ((List.Perm.append_left xs (insR_perm rs x))).trans ?_
    exact List.perm_middle
theorem sortR_perm (xs : List Qu) : (sortR xs).Perm xs := by
  have := foldl_perm xs []
  rwa [List.append_nil] at this
theorem foldl_desc : ∀ (xs rs : List Qu), rs.Pairwise (fun a b => ltQ a b = false) → (xs.foldl insR rs).Pairwise (fun a b => ltQ a b = false)
  | [], _, h => h
  | x :: xs, rs, h => foldl_desc xs (insR rs x) (insR_desc h)
theorem sortR_desc (xs : List Qu) : (sortR xs).Pairwise (fun a b => ltQ a b = false) := foldl_desc xs [] List.Pairwise.nil
/-- Sorted queues of which two are of one path: two of one path stand side by side. -/
theorem dup_sorted {ys : List Qu} (hs : ys.Pairwise (fun a b => ltQ b a = false)) (hn : ¬ (ys.map (·.path)).Nodup) : dupTo ys ys.length = true := by
  cases hd : dupTo ys ys.length with
  | true => rfl
  | false =>
    refine (hn ?_).elim
    have adj : ∀ j, j + 1 < ys.length → (ys.getD j qd).path ≠ (ys.getD (j + 1) qd).path := fun j hj e => by
      have := dup_mono ys (j := j + 2) (k := ys.length) (by omega) (dup_at e)
      rw [hd] at this; cases this
    have hs := List.pairwise_iff_getElem.1 hs
    have hg : ∀ j (h : j < ys.length), ys.getD j qd = ys[j] := fun j h => by simp [List.getD, h]
    unfold List.Nodup
    rw [List.pairwise_map, List.pairwise_iff_getElem]
    intro i j hi hj hij e
    have a1 := adj i (by omega)
    rw [hg i hi, hg (i + 1) (by omega)] at a1
    have s1 := hs i (i + 1) hi (by omega) (by omega)
    refine a1 (bl_tri _ _ ?_ s1)
    by_cases h : i + 1 = j
    · subst h; rw [e]; exact bl_irr _
    · have s2 := hs (i + 1) j (by omega) hj (by omega)
      show Op.bytesLess ys[i].path ys[i + 1].path = false
      rw [e]; exact s2
/-- What the reference has: its queues in order, whether one came twice. -/
structure Kept (qs xs : List Qu) (tw : Bool) : Prop where
  perm : qs.Perm xs
  once : tw = false → qs = (sortR xs).reverse ∧ Strict qs
  twice : tw = true → ¬ (xs.map (·.path)).Nodup
theorem Kept.nil : Kept [] [] false := ⟨List.Perm.refl _, fun _ => ⟨rfl, List.Pairwise.nil⟩, fun h => by cases h⟩
theorem Kept.add {qs xs : List Qu} {tw : Bool} (h : Kept qs xs tw) (x : Qu) : Kept (insF qs x) (xs ++ [x]) (tw || isF qs x) := by
  refine ⟨(insF_perm qs x).trans ((h.perm.cons x).trans (List.perm_append_singleton x xs).symm), fun ht => ?_, fun ht => ?_⟩
  · rw [Bool.or_eq_false_iff] at ht
    obtain ⟨h1, h2⟩ := h.once ht.1
    refine ⟨?_, insF_strict h2 ht.2⟩
    rw [sortR_snoc]
    have : sortR xs = qs.reverse := by rw [h1, List.reverse_reverse]
    rw [this, insF_insR h2 ht.2, List.reverse_reverse]
  · rw [Bool.or_eq_true] at ht
    intro hn
    rw [List.map_append] at hn
    have hn := List.nodup_append.1 hn
    rcases ht with ht | ht
    · exact h.twice ht hn.1
    · obtain ⟨y, hy, e⟩ := isF_mem ht
      exact hn.2.2 y.path (List.mem_map_of_mem (h.perm.mem_iff.1 hy)) x.path (by simp) e
theorem Kept.len {qs xs : List Qu} {tw : Bool} (h : Kept qs xs tw) : qs.length = xs.length := h.perm.length_eq
theorem Kept.end_once {qs xs : List Qu} (h : Kept qs xs false) : orderM xs.length xs = qs ∧ dupTo (orderM xs.length xs) xs.length = false := by
  obtain ⟨h1, h2⟩ := h.once rfl
  rw [order_all, ← h1]
  refine ⟨rfl, dup_none (fun j hj => ?_) _ (by rw [h.len]; exact Nat.le_refl _)⟩
  have := List.pairwise_iff_getElem.1 h2 j (j + 1) (by omega) hj (by omega)
  have hg : ∀ j (h : j < qs.length), qs.getD j qd = qs[j] := fun j h => by simp [List.getD, h]
  rw [hg j (by omega), hg (j + 1) hj]
  exact beq_eq_false_iff_ne.2 (lt_ne this)
theorem Kept.end_twice {qs xs : List Qu} (h : Kept qs xs true) : dupTo (orderM xs.length xs) xs.length = true := by
  have hn := h.twice rfl
  have hp : (orderM xs.length xs).Perm xs := by rw [order_all]; exact (List.reverse_perm _).trans (sortR_perm xs)
  have hl : xs.length = (orderM xs.length xs).length := (order_len _ _).symm
  have : dupTo (orderM xs.length xs) (orderM xs.length xs).length = true := by
    refine dup_sorted ?_ ?_
    · rw [order_all, List.pairwise_reverse]; exact sortR_desc xs
    · intro h; exact hn (((hp.map _).nodup_iff).1 h)
  rw [← hl] at this
  exact this
end Go.Proofs.YtaonjbojhikndaaDoor

namespace Go.Proofs.YtaonjbojhikndaaDoor
open Go Go.W
set_option maxRecDepth 100000
/-! ### cut -/
def trimE : List B → List B
  | [] => []
  | [p] => bif p == [] then [] else [p]
  | p :: q :: l => p :: trimE (q :: l)
theorem trimE_snoc : ∀ (l : List B) (x : B), trimE (l ++ [x]) = l ++ (bif x == [] then [] else [x])
  | [], x => rfl
  | [p], x => rfl
  | p :: q :: l, x => by
    show p :: trimE ((q :: l) ++ [x]) = _
    rw [trimE_snoc (q :: l) x]; rfl
def cutR (c : UInt8) (s : B) : List B := trimE (splitM c s)
theorem split_first {c : UInt8} : ∀ {l : B} {m : Nat}, m < l.length → l.getD m 0 = c → (∀ j, j < m → l.getD j 0 ≠ c) → splitM c l = l.take m :: splitM c (l.drop (m + 1))
  | [], m, h, _, _ => by simp at h
  | x :: l, 0, _, h, _ => by
    have h : x = c := by simpa using h
    conv => lhs; unfold splitM
    rw [beq_iff_eq.2 h, cond_true]
    rfl
  | x :: l, m + 1, h1, h2, h3 => by
    have hx : (x == c) = false := beq_eq_false_iff_ne.2 (by simpa using h3 0 (by omega))
    conv => lhs; unfold splitM
    rw [hx, split_first (l := l) (m := m) (by simpa using h1) (by simpa using h2) (fun j hj => by simpa using h3 (j + 1) (by omega))]
    rfl
theorem split_last {c : UInt8} : ∀ {l : B}, (∀ j, j < l.length → l.getD j 0 ≠ c) → splitM c l = [l]
  | [], _ => rfl
  | x :: l, h => by
    have hx : (x == c) = false := beq_eq_false_iff_ne.2 (by simpa using h 0 (by simp))
    unfold splitM
    rw [hx, split_last (l := l) (fun j hj => by simpa using h (j + 1) (by simpa using hj))]
    rfl
structure AC where
  s : B
  c : Nat
def AC.fine (a : AC) : Bool := Nat.blt a.c 256 && sm a.s
def S30 : Go.W.Spec regK.T := ⟨AC, fun a => [ks a.s, .d (.int .u8 (a.c : Int))], fun _ => [], AC.fine, fun a => .ret (.d (.sl 9 (cutR (UInt8.ofNat a.c) a.s)), [])⟩
def M30 : Meet S30 where
  find args _ := match args with | [.d (.str s), .d (.int .u8 (.ofNat c))] => some (⟨s, c⟩, []) | _ => none
  ok args g a ρ h := by
    split at h
    · cases h
      exact ⟨⟨cov_s _ _, (must_iff _ _).2 ⟨rfl, rfl⟩, trivial⟩, rfl, fun j o' hj => by simp [S30] at hj⟩
    · cases h
structure R30 where
  l : List B
  p : Nat
  i : Nat
structure P30 (a : AC) (x : R30) : Prop where
  le : x.p ≤ x.i
  i : x.i ≤ a.s.length
  l : x.l.length ≤ x.p
  go : splitM (UInt8.ofNat a.c) a.s = x.l ++ splitM (UInt8.ofNat a.c) (a.s.drop x.p)
  no : ∀ j, x.p ≤ j → j < x.i → a.s.getD j 0 ≠ UInt8.ofNat a.c
def L30 (a : AC) (_ : Unit) (k : Nat) (_ : St regK.T) : Option (LoopI regK.T Unit) := match Nat.beq k 4 with
  | true => some ⟨{ x : R30 // P30 a x }, fun x => ⟨[(0, ks a.s), (1, .d (.int .u8 (a.c : Int))), (5, .sl 0 0 x.1.l.length (.least 0)), (6, ki (x.1.p : Nat)), (7, ki (x.1.i : Nat))], [(0, .trows 9 x.1.l)], 1⟩, fun x => a.s.length - x.1.i, fun _ => ()⟩
  | false => none
def A30 (k : Nat) : List Tgt := (lookN [(3, [.nslot 5 9])] k).getD []
/-! ### words -/
def K21 : Con regK.T := fun f => lookN [(30, S30.con M30)] f
noncomputable def e21 : Hd regK.T := hdT regK Tryd.prog K21 (fun _ => false) 1000 5
def L31 (s : B) (_ : Unit) (k : Nat) (_ : St regK.T) : Option (LoopI regK.T Unit) := match Nat.beq k 4 with
  | true => some ⟨{ i : Nat // i ≤ (cutR 32 s).length }, fun i => ⟨[(0, ks s), (3, .sl 0 0 (keep ((cutR 32 s).take i.1)).length (.least 0)), (4, .d (.sl 9 (cutR 32 s))), (5, ki (i.1 : Nat))], [(0, .trows 9 (keep ((cutR 32 s).take i.1)))], 1⟩, fun i => (cutR 32 s).length - i.1, fun _ => ()⟩
  | false => none
def A31 (k : Nat) : List Tgt := (lookN [(3, [.nslot 3 9])] k).getD []
/-! ### number -/
def L44 (s : B) (_ : Unit) (k : Nat) (_ : St regK.T) : Option (LoopI regK.T Unit) := match Nat.beq k 5 with
  | true => some ⟨{ i : Nat // i ≤ s.length ∧ 1 ≤ s.length ∧ s.length ≤ 7 ∧ zeroLed s = false ∧ allD (s.take i) = true }, fun i => ⟨[(0, ks s), (4, ki (valM (s.take i.1))), (5, ki (i.1 : Nat))], [], 0⟩, fun i => s.length - i.1, fun _ => ()⟩
  | false => none
/-! ### share -/
def K22 : Con regK.T := fun f => lookN [(44, (SB sm s47).con (MB sm s47))] f
noncomputable def e22 : Hd regK.T := hdT regK Tryd.prog K22 (fun _ => false) 1000 5
def shareR (s : B) : Cp × Bool := bif (cutM s).2.2 then shareM s else (⟨0, 0⟩, false)
def s45 (s : B) : QO := .ret (.tup [.agg [ki (shareR s).1.least, ki (shareR s).1.most], kb (shareR s).2], [])
def L45 (s : B) (_ : Unit) (k : Nat) (_ : St regK.T) : Option (LoopI regK.T Unit) := match Nat.beq k 2 with
  | true => some ⟨{ i : Nat // i ≤ s.length ∧ ∀ j, j < i → s.getD j 0 ≠ 47 }, fun i => ⟨[(0, ks s), (2, .ptr 0 0 0), (4, ki (i.1 : Nat))], [(0, .rows 2 [[ki 0, ki 0]])], 1⟩, fun i => s.length - i.1, fun _ => ()⟩
  | false => none
/-! ### queue -/
def K23 : Con regK.T := fun f => lookN [(44, (SB sm s47).con (MB sm s47)), (45, (SB sm s45).con (MB sm s45))] f
noncomputable def e23 : Hd regK.T := hdT regK Tryd.prog K23 (fun _ => false) 1000 5
def capsR : Bool → List B → List Cp × Bool
  | ok, [] => ([], ok)
  | false, _ => ([], false)
  | true, x :: l => ((shareR x).1 :: (capsR (shareR x).2 l).1, (capsR (shareR x).2 l).2)
structure AW where
  w : List B
  n : Int
def AW.fine (a : AW) : Bool := small (a.w.length + 1) && decide (0 ≤ a.n) && decide (a.n ≤ 1000000) && a.w.all sm
def queueR (w : List B) (n : Int) : Qu × Bool :=
  bif decide ((w.length : Int) = 3 + n) && w.getD 0 [] == wQueue then (⟨w.getD 1 [], (capsR (numM (w.getD 2 [])).2 (w.drop 3)).1, (numM (w.getD 2 [])).1⟩, (capsR (numM (w.getD 2 [])).2 (w.drop 3)).2) else (⟨[], [], 0⟩, false)
def S32 : Go.W.Spec regK.T := ⟨AW, fun a => [.d (.sl 9 a.w), ki a.n], fun _ => [], AW.fine, fun a => .ret (.tup [.agg [ks (queueR a.w a.n).1.path, .d (.sl 48 (queueR a.w a.n).1.caps), ki (queueR a.w a.n).1.user], kb (queueR a.w a.n).2], [])⟩
def M32 : Meet S32 where
  find args _ := match args with | [.d (.sl 9 w), .d (.int .i64 n)] => some (⟨w, n⟩, []) | _ => none
  ok args g a ρ h := by
    split at h
    · cases h
      exact ⟨⟨rfl, cov_i' _ _, trivial⟩, rfl, fun j o' hj => by simp [S32] at hj⟩
    · cases h
structure R32 where
  i : Nat
  cs : List Cp
  ok : Bool
structure P32 (a : AW) (x : R32) : Prop where
  lo : 3 ≤ x.i
  hi : x.i ≤ a.w.length
  l : x.cs.length ≤ x.i
  w : (a.w.length : Int) = 3 + a.n
  q : (a.w.getD 0 [] == wQueue) = true
  go : capsR (numM (a.w.getD 2 [])).2 (a.w.drop 3) = (x.cs ++ (capsR x.ok (a.w.drop x.i)).1, (capsR x.ok (a.w.drop x.i)).2)
def row46 : OK := .rows 3 [[ks [], .d .nils, ki 0]]
def L32 (a : AW) (_ : Unit) (k : Nat) (_ : St regK.T) : Option (LoopI regK.T Unit) := match Nat.beq k 6 with
  | true => some ⟨{ x : R32 // P32 a x }, fun x => ⟨[(0, .d (.sl 9 a.w)), (4, .ptr 0 0 0), (7, kb x.1.ok), (8, .ptr 1 0 0), (9, ki (x.1.i : Nat))],
      [(0, .rows 3 [[ks [], .d .nils, ki 0]]), (1, .rows 3 [[ks (a.w.getD 1 []), .sl 2 0 x.1.cs.length (.least 0), ki (numM (a.w.getD 2 [])).1]]), (2, .trows 48 x.1.cs)], 3⟩, fun x => a.w.length - x.1.i, fun _ => ()⟩
  | false => none
def A32 (k : Nat) : List Tgt := (lookN [(5, [.ncell 1 0 1 48])] k).getD []
end Go.Proofs.YtaonjbojhikndaaDoor
