/- How a line is parted into words, and how bytes are quoted: plain laws. No conditions. -/
import Derived.Test.YtebdbhekdadhbaaGreatDoorW
namespace Go.Proofs.YtebdbhekdadhbaaGreatDoor
open Go Go.W
set_option maxRecDepth 100000
/-! ### One byte of a quoted word -/
/-- A digit's number. -/
def hexN (c : UInt8) : Option Nat := bif Nat.ble 48 c.toNat && Nat.ble c.toNat 57 then some (c.toNat - 48) else bif Nat.ble 97 c.toNat && Nat.ble c.toNat 102 then some (c.toNat - 87) else none
/-- What two digits say. -/
def hexE (a b : UInt8) : UInt8 × Nat := match hexN a, hexN b with
  | some x, some y => (UInt8.ofNat (16 * x + y), 4)
  | _, _ => (0, 0)
/-- One byte, and how many it is written with; 0: it is none. -/
def escM : List UInt8 → UInt8 × Nat
  | [] => (0, 0)
  | c :: r => bif c == 92 then (match r with
      | [] => (0, 0)
      | d :: r2 => bif d == 92 || d == 34 then (d, 2) else bif d == 110 then (10, 2) else bif d == 116 then (9, 2) else bif d == 120 then (match r2 with
          | a :: b :: _ => hexE a b
          | _ => (0, 0)) else (0, 0)) else (c, 1)
theorem escM_other {c : UInt8} (r : List UInt8) (h : c ≠ 92) : escM (c :: r) = (c, 1) := by
  show (bif c == 92 then _ else (c, 1)) = (c, 1)
  rw [beq_eq_false_iff_ne.2 h]; rfl
theorem escM_lone : escM [92] = (0, 0) := rfl
theorem escM_le (s : List UInt8) : (escM s).2 ≤ s.length := by
  unfold escM
  cases s with
  | nil => exact Nat.le_refl _
  | cons c r =>
    simp only
    cases c == 92 with
    | false => simp
    | true =>
      cases r with
      | nil => simp
      | cons d r2 =>
        simp only [cond_true]
        cases d == 92 || d == 34 with
        | true => simp
        | false =>
          cases d == 110 with
          | true => simp
          | false =>
            cases d == 116 with
            | true => simp
            | false =>
              cases d == 120 with
              | false => simp
              | true =>
                cases r2 with
                | nil => simp
                | cons a r3 =>
                  cases r3 with
                  | nil => simp
                  | cons b r4 =>
                    simp only [cond_true, cond_false]
                    unfold hexE
                    split <;> simp
/-! ### A quoted word -/
def quotM : Nat → List UInt8 → Nat → List UInt8 → Option (List UInt8 × Nat)
  | 0, _, _, _ => none
  | _ + 1, [], _, _ => none
  | f + 1, c :: r, n, acc => bif c == 34 then some (acc, n + 1) else match escM (c :: r) with
    | (_, 0) => none
    | (b, k + 1) => quotM f (r.drop k) (n + (k + 1)) (acc ++ [b])
theorem quotM_fuel : ∀ (f g : Nat) (s : List UInt8) (n : Nat) (acc : List UInt8), s.length < f → s.length < g → quotM f s n acc = quotM g s n acc
  | 0, _, _, _, _, h, _ => absurd h (Nat.not_lt_zero _)
  | _, 0, _, _, _, _, h => absurd h (Nat.not_lt_zero _)
  | f + 1, g + 1, [], n, acc, _, _ => rfl
  | f + 1, g + 1, c :: r, n, acc, h1, h2 => by
    unfold quotM
    cases c == 34 with
    | true => rfl
    | false =>
      simp only [cond_false]
      split
      · rfl
      · simp at h1 h2
        exact quotM_fuel f g _ _ _ (by simp; omega) (by simp; omega)
/-- The rest of a quoted word: n bytes were read, that say acc. -/
def quotR (s : List UInt8) (n : Nat) (acc : List UInt8) : Option (List UInt8 × Nat) := quotM (s.length + 1) s n acc
theorem quotR_nil (n : Nat) (acc : List UInt8) : quotR [] n acc = none := rfl
theorem quotR_end (r : List UInt8) (n : Nat) (acc : List UInt8) : quotR (34 :: r) n acc = some (acc, n + 1) := rfl
theorem quotR_bad {c : UInt8} {r : List UInt8} (n : Nat) (acc : List UInt8) (hc : c ≠ 34) (h : (escM (c :: r)).2 = 0) : quotR (c :: r) n acc = none := by
  unfold quotR quotM
  rw [beq_eq_false_iff_ne.2 hc]
  simp only [cond_false]
  split
  · rfl
  · rename_i b k he; rw [he] at h; cases h
theorem quotR_step {c : UInt8} {r : List UInt8} (n : Nat) (acc : List UInt8) (hc : c ≠ 34) (h : (escM (c :: r)).2 ≠ 0) :
    quotR (c :: r) n acc = quotR ((c :: r).drop (escM (c :: r)).2) (n + (escM (c :: r)).2) (acc ++ [(escM (c :: r)).1]) := by
  conv => lhs; unfold quotR quotM
  rw [beq_eq_false_iff_ne.2 hc]
  simp only [cond_false]
  split
  · rename_i b he; rw [he] at h; exact absurd rfl h
  · rename_i b k he
    rw [he]
    exact quotM_fuel _ _ _ _ _ (by simp; omega) (by simp)
/-- A quoted word behind its first quote: what it says, how many bytes it has. -/
def quotedM (s : List UInt8) : Option (List UInt8 × Nat) := quotR s 0 []
theorem quotM_le : ∀ (f : Nat) (s : List UInt8) (n : Nat) (acc : List UInt8) (w : List UInt8) (m : Nat), quotM f s n acc = some (w, m) → n + 1 ≤ m ∧ m ≤ n + s.length ∧ w.length + n + 1 ≤ acc.length + m
  | 0, _, _, _, _, _, h => by cases h
  | _ + 1, [], _, _, _, _, h => by cases h
  | f + 1, c :: r, n, acc, w, m, h => by
    unfold quotM at h
    have hl := escM_le (c :: r)
    revert h
    cases c == 34 with
    | true => intro h; cases h; simp; omega
    | false =>
      simp only [cond_false]
      split
      · intro h; cases h
      · rename_i b k he
        intro h
        rw [he] at hl
        have := quotM_le f _ _ _ _ _ h
        simp at this hl ⊢
        omega
theorem quotedM_le {s w : List UInt8} {m : Nat} (h : quotedM s = some (w, m)) : 1 ≤ m ∧ m ≤ s.length ∧ w.length + 1 ≤ m := by
  have := quotM_le _ _ _ _ _ _ h
  simp at this; omega
/-! ### Words -/
def isBl (c : UInt8) : Bool := c == 32 || c == 9
def nonBl (c : UInt8) : Bool := !(c == 32 || c == 9)
def blkd : List UInt8 → Bool
  | [] => true
  | d :: _ => isBl d
def wordM : Nat → List UInt8 → List (List UInt8) → Option (List (List UInt8))
  | 0, _, _ => none
  | _ + 1, [], acc => some acc
  | f + 1, c :: r, acc => bif isBl c then wordM f r acc else bif c == 35 then some acc else bif c == 34 then (match quotedM r with
      | none => none
      | some (w, n) => bif blkd (r.drop n) then wordM f (r.drop n) (acc ++ [w]) else none) else
      bif (c :: r.takeWhile nonBl).contains 34 then none else wordM f (r.dropWhile nonBl) (acc ++ [c :: r.takeWhile nonBl])
theorem dropW_le (p : UInt8 → Bool) : ∀ (r : List UInt8), (r.dropWhile p).length ≤ r.length
  | [] => Nat.le_refl _
  | c :: r => by
    rw [List.dropWhile_cons]
    split
    · exact Nat.le_succ_of_le (dropW_le p r)
    · exact Nat.le_refl _
theorem wordM_fuel : ∀ (f g : Nat) (s : List UInt8) (acc : List (List UInt8)), s.length < f → s.length < g → wordM f s acc = wordM g s acc
  | 0, _, _, _, h, _ => absurd h (Nat.not_lt_zero _)
  | _, 0, _, _, _, h => absurd h (Nat.not_lt_zero _)
  | f + 1, g + 1, [], acc, _, _ => rfl
  | f + 1, g + 1, c :: r, acc, h1, h2 => by
    unfold wordM
    simp at h1 h2
    rw [wordM_fuel f g r acc (by omega) (by omega)]
    have hd := dropW_le nonBl r
    rw [wordM_fuel f g (r.dropWhile nonBl) _ (by omega) (by omega)]
    cases hq : quotedM r with
    | none => rfl
    | some p =>
      simp only
      rw [wordM_fuel f g (r.drop p.2) _ (by simp; omega) (by simp; omega)]
/-- The words of what is left, behind those that were read. -/
def wordR (s : List UInt8) (acc : List (List UInt8)) : Option (List (List UInt8)) := wordM (s.length + 1) s acc
theorem wordR_nil (acc : List (List UInt8)) : wordR [] acc = some acc := rfl
theorem wordR_bl {c : UInt8} (r : List UInt8) (acc : List (List UInt8)) (h : isBl c = true) : wordR (c :: r) acc = wordR r acc := by
  conv => lhs; unfold wordR wordM
  rw [h]; exact wordM_fuel _ _ _ _ (by simp) (by simp)
theorem wordR_hash (r : List UInt8) (acc : List (List UInt8)) : wordR (35 :: r) acc = some acc := rfl
theorem wordR_bad {r : List UInt8} (acc : List (List UInt8)) (h : quotedM r = none) : wordR (34 :: r) acc = none := by
  unfold wordR wordM
  rw [h]; rfl
theorem wordR_glued {r w : List UInt8} {n : Nat} (acc : List (List UInt8)) (h : quotedM r = some (w, n)) (hb : blkd (r.drop n) = false) : wordR (34 :: r) acc = none := by
  unfold wordR wordM
  rw [h]
  show (bif isBl 34 then _ else bif (34 : UInt8) == 35 then _ else bif (34 : UInt8) == 34 then (bif blkd (r.drop n) then _ else _) else _) = none
  rw [hb]; rfl
theorem wordR_quoted {r w : List UInt8} {n : Nat} (acc : List (List UInt8)) (h : quotedM r = some (w, n)) (hb : blkd (r.drop n) = true) : wordR (34 :: r) acc = wordR (r.drop n) (acc ++ [w]) := by
  conv => lhs; unfold wordR wordM
  rw [h]
  show (bif isBl 34 then _ else bif (34 : UInt8) == 35 then _ else bif (34 : UInt8) == 34 then (bif blkd (r.drop n) then _ else _) else _) = _
  rw [hb]
  exact wordM_fuel _ _ _ _ (by simp; omega) (by simp)
theorem plain_iff {c : UInt8} (h1 : isBl c = false) : nonBl c = true := by unfold nonBl; unfold isBl at h1; rw [h1]; rfl
theorem wordR_odd {c : UInt8} {r : List UInt8} (acc : List (List UInt8)) (h1 : isBl c = false) (h2 : c ≠ 35) (h3 : c ≠ 34) (h : (c :: r.takeWhile nonBl).contains 34 = true) : wordR (c :: r) acc = none := by
  unfold wordR wordM
  rw [h1, beq_eq_false_iff_ne.2 h2, beq_eq_false_iff_ne.2 h3, h]; rfl
theorem wordR_word {c : UInt8} {r : List UInt8} (acc : List (List UInt8)) (h1 : isBl c = false) (h2 : c ≠ 35) (h3 : c ≠ 34) (h : (c :: r.takeWhile nonBl).contains 34 = false) :
    wordR (c :: r) acc = wordR (r.dropWhile nonBl) (acc ++ [c :: r.takeWhile nonBl]) := by
  have hd := dropW_le nonBl r
  conv => lhs; unfold wordR wordM
  rw [h1, beq_eq_false_iff_ne.2 h2, beq_eq_false_iff_ne.2 h3, h]
  exact wordM_fuel _ _ _ _ (by simp; omega) (by simp)
/-- A line's words; none: it has none that may be. -/
def lineM (s : List UInt8) : Option (List (List UInt8)) := wordR s []
/-- A word is as long as there is no blank. -/
theorem takeW_at {p : UInt8 → Bool} : ∀ {l : List UInt8} {m : Nat}, m ≤ l.length → (∀ j, j < m → p (l.getD j 0) = true) → (m = l.length ∨ p (l.getD m 0) = false) → l.takeWhile p = l.take m ∧ l.dropWhile p = l.drop m
  | [], m, h, _, _ => by simp at h; subst h; exact ⟨rfl, rfl⟩
  | c :: r, 0, _, _, h => by
    rcases h with h | h
    · simp at h
    · have h : p c = false := h
      rw [List.takeWhile_cons, List.dropWhile_cons, h]; exact ⟨rfl, rfl⟩
  | c :: r, m + 1, h1, h2, h3 => by
    have hc : p c = true := h2 0 (by omega)
    have ih := takeW_at (p := p) (l := r) (m := m) (by simpa using h1) (fun j hj => by simpa using h2 (j + 1) (by omega)) (by simpa using h3)
    rw [List.takeWhile_cons, List.dropWhile_cons, hc, if_pos rfl, if_pos rfl, ih.1, ih.2]; exact ⟨rfl, rfl⟩
/-- A quote that is met ahead of any blank. -/
theorem contains_at {l : List UInt8} {m : Nat} (h1 : m < l.length) (h2 : ∀ j, j < m → nonBl (l.getD j 0) = true) (h3 : l.getD m 0 = 34) : (l.takeWhile nonBl).contains 34 = true := by
  have : ∀ (l : List UInt8) (m : Nat), m < l.length → (∀ j, j < m → nonBl (l.getD j 0) = true) → l.getD m 0 = 34 → 34 ∈ l.takeWhile nonBl := by
    intro l
    induction l with
    | nil => intro m h; simp at h
    | cons c r ih =>
      intro m h1 h2 h3
      cases m with
      | zero => have h3 : c = 34 := h3; subst h3; rw [List.takeWhile_cons, if_pos (by rfl)]; exact List.mem_cons_self ..
      | succ m =>
        rw [List.takeWhile_cons, if_pos (show nonBl c = true from h2 0 (by omega))]
        exact List.mem_cons_of_mem _ (ih m (by simpa using h1) (fun j hj => by simpa using h2 (j + 1) (by omega)) (by simpa using h3))
  exact List.contains_iff_mem.2 (this l m h1 h2 h3)
theorem contains_no {l : List UInt8} (h : ∀ j, j < l.length → l.getD j 0 ≠ 34) : l.contains 34 = false := by
  rw [Bool.eq_false_iff]
  intro hc
  have hm := List.contains_iff_mem.1 hc
  obtain ⟨j, hj, he⟩ := List.getElem_of_mem hm
  exact h j hj (by rw [List.getD_eq_getElem?_getD, List.getElem?_eq_getElem hj]; exact he)
/-! ### Quoting -/
def hexD (n : Nat) : UInt8 := ([48, 49, 50, 51, 52, 53, 54, 55, 56, 57, 97, 98, 99, 100, 101, 102] : List UInt8).getD n 0
def qb (c : UInt8) : List UInt8 := bif c == 92 || c == 34 then [92, c] else bif c == 10 then [92, 110] else bif c == 9 then [92, 116] else
  bif Nat.blt c.toNat 32 || Nat.blt 126 c.toNat then [92, 120, hexD (c.toNat / 16), hexD (c.toNat % 16)] else [c]
def qbs (b : List UInt8) : List UInt8 := b.flatMap qb
def quoteM (b : List UInt8) : List UInt8 := 34 :: qbs b ++ [34]
theorem all_bytes {p : UInt8 → Bool} (h : (List.range 256).all (fun n => p (UInt8.ofNat n)) = true) (c : UInt8) : p c = true := by
  have := List.all_eq_true.1 h c.toNat (List.mem_range.2 (UInt8.toNat_lt c))
  rwa [UInt8.ofNat_toNat] at this
theorem qb_ok (c : UInt8) : (qb c).length ≠ 0 ∧ (qb c).length ≤ 4 ∧ (qb c).getD 0 0 ≠ 34 := by
  have h := all_bytes (p := fun c => !(Nat.beq (qb c).length 0) && (Nat.ble (qb c).length 4 && !((qb c).getD 0 0 == 34))) (by kernel_rfl) c
  simp only [Bool.and_eq_true, Bool.not_eq_true', beq_eq_false_iff_ne] at h
  refine ⟨fun e => ?_, Nat.le_of_ble_eq_true h.2.1, h.2.2⟩
  have h1 := h.1
  rw [e] at h1
  exact absurd h1 (by decide)
theorem hexE_D (c : UInt8) : hexE (hexD (c.toNat / 16)) (hexD (c.toNat % 16)) = (c, 4) := by
  have h := all_bytes (p := fun c => (hexE (hexD (c.toNat / 16)) (hexD (c.toNat % 16))).1 == c && Nat.beq (hexE (hexD (c.toNat / 16)) (hexD (c.toNat % 16))).2 4) (by kernel_rfl) c
  simp only [Bool.and_eq_true] at h
  exact Prod.ext (beq_iff_eq.1 h.1) (Nat.eq_of_beq_eq_true h.2)
theorem escM_qb (c : UInt8) (r : List UInt8) : escM (qb c ++ r) = (c, (qb c).length) := by
  unfold qb
  cases h1 : c == 92 || c == 34 with
  | true =>
    show (bif c == 92 || c == 34 then (c, 2) else _) = (c, 2)
    rw [h1]; rfl
  | false =>
    cases h2 : c == 10 with
    | true => rw [beq_iff_eq.1 h2]; rfl
    | false =>
      cases h3 : c == 9 with
      | true => rw [beq_iff_eq.1 h3]; rfl
      | false =>
        cases h4 : Nat.blt c.toNat 32 || Nat.blt 126 c.toNat with
        | true => exact hexE_D c
        | false =>
          refine escM_other r ?_
          intro e; subst e; cases h1
theorem quotR_qbs : ∀ (b r : List UInt8) (n : Nat) (acc : List UInt8), quotR (qbs b ++ 34 :: r) n acc = some (acc ++ b, n + (qbs b).length + 1)
  | [], r, n, acc => by rw [List.append_nil]; rfl
  | c :: b, r, n, acc => by
    have he := escM_qb c (qbs b ++ 34 :: r)
    have hq := qb_ok c
    have hs : qbs (c :: b) ++ 34 :: r = qb c ++ (qbs b ++ 34 :: r) := by
      show (qb c ++ qbs b) ++ _ = _
      rw [List.append_assoc]
    have hlen : (qbs (c :: b)).length = (qb c).length + (qbs b).length := by
      show (qb c ++ qbs b).length = _
      simp
    rw [hs, hlen]
    cases hc : qb c with
    | nil => rw [hc] at hq; exact absurd rfl hq.1
    | cons x t =>
      rw [hc] at he hq
      have hx : x ≠ 34 := hq.2.2
      show quotR (x :: (t ++ (qbs b ++ 34 :: r))) n acc = _
      have he' : escM (x :: (t ++ (qbs b ++ 34 :: r))) = (c, (x :: t).length) := he
      rw [quotR_step n acc hx (by rw [he']; simp), he']
      have hd : (x :: (t ++ (qbs b ++ 34 :: r))).drop (x :: t).length = qbs b ++ 34 :: r := by
        show ((x :: t) ++ (qbs b ++ 34 :: r)).drop (x :: t).length = _
        rw [List.drop_left]
      show quotR (List.drop (x :: t).length _) (n + (x :: t).length) (acc ++ [c]) = _
      rw [hd, quotR_qbs b r]
      simp [Nat.add_assoc]
theorem quotedM_qbs (b r : List UInt8) : quotedM (qbs b ++ 34 :: r) = some (b, (qbs b).length + 1) := by
  unfold quotedM
  rw [quotR_qbs]; simp
/-- A word that was quoted, between a blank and a tab. -/
theorem wordR_quote (b r : List UInt8) (acc : List (List UInt8)) : wordR (32 :: (quoteM b ++ 9 :: r)) acc = wordR r (acc ++ [b]) := by
  have hs : quoteM b ++ 9 :: r = 34 :: (qbs b ++ 34 :: (9 :: r)) := by
    show (34 :: qbs b ++ [34]) ++ 9 :: r = _
    simp
  rw [wordR_bl _ _ (by rfl), hs]
  have hd : (qbs b ++ 34 :: (9 :: r)).drop ((qbs b).length + 1) = 9 :: r := by
    rw [show (qbs b).length + 1 = (qbs b).length + 1 from rfl, ← List.drop_drop, List.drop_left]; rfl
  rw [wordR_quoted acc (quotedM_qbs b (9 :: r)) (by rw [hd]; rfl), hd, wordR_bl _ _ (by rfl)]
/-- Many of them, up to a '#'. -/
def wordsT (l : List (List UInt8)) : List UInt8 := l.flatMap (fun b => 32 :: (quoteM b ++ [9]))
theorem wordR_words : ∀ (l : List (List UInt8)) (r : List UInt8) (acc : List (List UInt8)), wordR (wordsT l ++ 35 :: r) acc = some (acc ++ l)
  | [], r, acc => by rw [List.append_nil]; rfl
  | b :: l, r, acc => by
    have hs : wordsT (b :: l) ++ 35 :: r = 32 :: (quoteM b ++ 9 :: (wordsT l ++ 35 :: r)) := by
      show ((32 :: (quoteM b ++ [9])) ++ wordsT l) ++ 35 :: r = _
      simp
    rw [hs, wordR_quote, wordR_words l r]; simp
theorem lineM_words (l : List (List UInt8)) (r : List UInt8) : lineM (wordsT l ++ 35 :: r) = some l := wordR_words l r []
theorem qbs_snoc (b : List UInt8) (c : UInt8) : qbs (b ++ [c]) = qbs b ++ qb c := by unfold qbs; simp
theorem qbs_len : ∀ b : List UInt8, (qbs b).length ≤ 4 * b.length
  | [] => Nat.le_refl _
  | c :: b => by
    have h1 := qbs_len b
    have h2 := (qb_ok c).2.1
    show (qb c ++ qbs b).length ≤ _
    simp; omega
end Go.Proofs.YtebdbhekdadhbaaGreatDoor
