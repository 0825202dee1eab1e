/- ConfOrder: the text that is built, as it is read. No conditions. -/
import Derived.Test.YtaonjbojhikndaaDoorGa
import Derived.Test.YtaonjbojhikndaaDoorFg
namespace Go.Proofs.YtaonjbojhikndaaDoor
open Go Go.W
set_option maxRecDepth 100000
/-- "root." and a letter. -/
def pOf (c : Nat) : B := [114, 111, 111, 116, 46, UInt8.ofNat (97 + c)]
def qLine (p : B) : B := [113, 117, 101, 117, 101, 32, 32, 32] ++ p ++ [32, 49, 32, 50, 47, 51]
def qLast (p : B) : B := [113, 117, 101, 117, 101, 32] ++ p ++ [32, 52, 32, 53, 47, 54]
/-- The text, of as many paths. -/
def txtM (l : List B) : Nat → B
  | 0 => [10, 32, 108, 97, 98, 101, 108, 115, 32, 10]
  | k + 1 => txtM l k ++ (qLine (l.getD k []) ++ [10, 10])
def f2 (x : Nat × Bool) : Qu := bif x.2 then ⟨pOf x.1, [⟨5, 6⟩], 4⟩ else ⟨pOf x.1, [⟨2, 3⟩], 1⟩
def S8 (x : Nat × Bool) : Prop := x.1 < 8
theorem lt_p : ∀ c d : Fin 8, Op.bytesLess (pOf c.1) (pOf d.1) = decide (c.1 < d.1) := by decide
theorem f2_path (x : Nat × Bool) : (f2 x).path = pOf x.1 := by unfold f2; cases x.2 <;> rfl
theorem fit2 : FitP f2 S8 := by
  intro x y hx hy
  show Op.bytesLess (f2 x).path (f2 y).path = _
  rw [f2_path, f2_path]
  exact lt_p ⟨x.1, hx⟩ ⟨y.1, hy⟩
theorem ne_p : ∀ c d : Fin 8, (pOf c.1 == pOf d.1) = decide (c.1 = d.1) := by decide
theorem splitM_cons (c x : UInt8) (l : B) : splitM c (x :: l) = bif x == c then [] :: splitM c l else (match splitM c l with | [] => [[x]] | p :: ps => (x :: p) :: ps) := rfl
theorem split_app (c : UInt8) : ∀ s u : B, splitM c (s ++ c :: u) = splitM c s ++ splitM c u
  | [], u => by simp [splitM]
  | x :: l, u => by
    show splitM c (x :: (l ++ c :: u)) = _
    rw [splitM_cons, splitM_cons, split_app c l u]
    cases x == c with
    | true => rfl
    | false =>
      cases h : splitM c l with
      | nil => exact (splitM_ne c l h).elim
      | cons p ps => rfl
theorem run_app : ∀ (ls ms : List B) (r r' : Rd), runM r ls = (r', 0) → runM r (ls ++ ms) = runM r' ms
  | [], ms, r, r', h => by
    have h : (r, (0 : Int)) = (r', 0) := h
    cases h
    rfl
  | l :: ls, ms, r, r', h => by
    have h : (bif (lineM r (wordsM l)).2 == 0 then runM (lineM r (wordsM l)).1 ls else lineM r (wordsM l)) = (r', 0) := h
    show (bif (lineM r (wordsM l)).2 == 0 then runM (lineM r (wordsM l)).1 (ls ++ ms) else lineM r (wordsM l)) = _
    cases hc : (lineM r (wordsM l)).2 == 0 with
    | true =>
      rw [hc, cond_true] at h
      exact run_app ls ms _ _ h
    | false =>
      rw [hc, cond_false] at h
      rw [h] at hc
      cases hc
theorem words_line : ∀ c : Fin 8, splitM 10 (qLine (pOf c.1)) = [qLine (pOf c.1)] ∧ wordsM (qLine (pOf c.1)) = [wQueue, pOf c.1, [49], [50, 47, 51]] ∧ splitM 10 (qLast (pOf c.1)) = [qLast (pOf c.1)] ∧ wordsM (qLast (pOf c.1)) = [wQueue, pOf c.1, [52], [53, 47, 54]] := by decide
theorem new1 (p : B) : newQ [wQueue, p, [49], [50, 47, 51]] = ⟨p, [⟨2, 3⟩], 1⟩ ∧ oksM [wQueue, p, [49], [50, 47, 51]] 1 = true := by
  constructor
  · show (⟨p, capsM [wQueue, p, [49], [50, 47, 51]] 1, (numM [49]).1⟩ : Qu) = _
    have h1 : capsM [wQueue, p, [49], [50, 47, 51]] 1 = [⟨2, 3⟩] := by kernel_rfl
    have h2 : (numM [49]).1 = 1 := by kernel_rfl
    rw [h1, h2]
  · kernel_rfl
theorem new2 (p : B) : newQ [wQueue, p, [52], [53, 47, 54]] = ⟨p, [⟨5, 6⟩], 4⟩ ∧ oksM [wQueue, p, [52], [53, 47, 54]] 1 = true := by
  constructor
  · show (⟨p, capsM [wQueue, p, [52], [53, 47, 54]] 1, (numM [52]).1⟩ : Qu) = _
    have h1 : capsM [wQueue, p, [52], [53, 47, 54]] 1 = [⟨5, 6⟩] := by kernel_rfl
    have h2 : (numM [52]).1 = 4 := by kernel_rfl
    rw [h1, h2]
  · kernel_rfl
def rdQ (qs : List Qu) : Rd := ⟨[[]], qs, true⟩
theorem line_q {w : List B} {qs : List Qu} {p : B} {a b : B} (h : w = [wQueue, p, a, b]) (hq : qs.length < 16) (ho : oksM w 1 = true) : lineM (rdQ qs) w = (rdQ (qs ++ [newQ w]), 0) := by
  subst h
  have h16 : decide (((rdQ qs).qs.length : Int) ≥ 16) = false := dF (by show ¬ ((qs.length : Int) ≥ 16); omega)
  have hl : (decide ([wQueue, p, a, b].length = 3 + (rdQ qs).labels.length) && oksM [wQueue, p, a, b] ([wQueue, p, a, b].length - 3)) = true := by
    show (true && oksM [wQueue, p, a, b] 1) = true
    rw [ho]; rfl
  unfold lineM
  show (bif decide (((rdQ qs).qs.length : Int) ≥ 16) then _ else bif _ then _ else _) = _
  rw [h16, hl]
  rfl
/-- What is read of a line. -/
theorem line_1 {c : Nat} (h : c < 8) {qs : List Qu} (hq : qs.length < 16) : lineM (rdQ qs) (wordsM (qLine (pOf c))) = (rdQ (qs ++ [f2 (c, false)]), 0) := by
  have hw := (words_line ⟨c, h⟩).2.1
  rw [hw, line_q rfl hq (new1 _).2, (new1 _).1]; rfl
theorem line_2 {c : Nat} (h : c < 8) {qs : List Qu} (hq : qs.length < 16) : lineM (rdQ qs) (wordsM (qLast (pOf c))) = (rdQ (qs ++ [f2 (c, true)]), 0) := by
  have hw := (words_line ⟨c, h⟩).2.2.2
  rw [hw, line_q rfl hq (new2 _).2, (new2 _).1]; rfl
theorem run_one {r r' : Rd} {l : B} {ls : List B} (h : lineM r (wordsM l) = (r', 0)) : runM r (l :: ls) = runM r' ls := by
  show (bif (lineM r (wordsM l)).2 == 0 then runM (lineM r (wordsM l)).1 ls else lineM r (wordsM l)) = _
  rw [h]; rfl
theorem run_blank (r : Rd) (ls : List B) : runM r ([] :: ls) = runM r ls := run_one rfl
def qsOf (cs : List Nat) : List Qu := cs.map fun c => f2 (c, false)
theorem run_txt (cs : List Nat) (h8 : ∀ c ∈ cs, c < 8) : ∀ k, k ≤ cs.length → k < 16 → ∃ u, txtM (cs.map pOf) k = u ++ [10] ∧ runM rd0 (splitM 10 u) = (rdQ (qsOf (cs.take k)), 0)
  | 0, _, _ => ⟨[10, 32, 108, 97, 98, 101, 108, 115, 32], rfl, by kernel_rfl⟩
  | k + 1, hk, h16 => by
    obtain ⟨u, hu, ih⟩ := run_txt cs h8 k (by omega) (by omega)
    have hc : cs.getD k 0 < 8 := h8 _ (by simp [List.getD, show k < cs.length by omega])
    have hg : (cs.map pOf).getD k [] = pOf (cs.getD k 0) := by simp [List.getD, show k < cs.length by omega]
    have ht : qsOf (cs.take (k + 1)) = qsOf (cs.take k) ++ [f2 (cs.getD k 0, false)] := by
      rw [take_snoc' 0 (by omega)]; simp [qsOf]
    refine ⟨u ++ 10 :: (qLine (pOf (cs.getD k 0)) ++ [10]), ?_, ?_⟩
    · show txtM (cs.map pOf) k ++ (qLine ((cs.map pOf).getD k []) ++ [10, 10]) = _
      rw [hu, hg]; simp
    · rw [split_app, split_snoc, (words_line ⟨_, hc⟩).1, run_app _ _ _ _ ih]
      have hl : (qsOf (cs.take k)).length < 16 := by simp [qsOf]; omega
      show runM _ (qLine (pOf (cs.getD k 0)) :: [[]]) = _
      rw [run_one (line_1 hc hl), run_blank, ht]
      rfl
theorem run_once (cs : List Nat) (h8 : ∀ c ∈ cs, c < 8) (h16 : cs.length < 16) : runM rd0 (textM (txtM (cs.map pOf) cs.length)) = (rdQ (qsOf cs), 0) := by
  obtain ⟨u, hu, h⟩ := run_txt cs h8 cs.length (Nat.le_refl _) h16
  rw [List.take_length] at h
  show runM rd0 (splitM 10 _) = _
  rw [hu, split_snoc, run_app _ _ _ _ h, run_blank]
  rfl
theorem run_twice (cs : List Nat) (h8 : ∀ c ∈ cs, c < 8) (h16 : cs.length < 16) {c : Nat} (hc : c < 8) : runM rd0 (textM (txtM (cs.map pOf) cs.length ++ qLast (pOf c))) = (rdQ (qsOf cs ++ [f2 (c, true)]), 0) := by
  obtain ⟨u, hu, h⟩ := run_txt cs h8 cs.length (Nat.le_refl _) h16
  rw [List.take_length] at h
  have hl : (qsOf cs).length < 16 := by simp [qsOf]; omega
  show runM rd0 (splitM 10 _) = _
  rw [hu]
  have : u ++ [10] ++ qLast (pOf c) = u ++ 10 :: qLast (pOf c) := by simp
  rw [this, split_app, (words_line ⟨c, hc⟩).2.2.1, run_app _ _ _ _ h, run_one (line_2 hc hl)]
  rfl
theorem txt_len (cs : List Nat) : ∀ k, k ≤ cs.length → (txtM (cs.map pOf) k).length = 10 + 22 * k
  | 0, _ => rfl
  | k + 1, h => by
    have hg : (cs.map pOf).getD k [] = pOf (cs.getD k 0) := by simp [List.getD, show k < cs.length by omega]
    show (txtM (cs.map pOf) k ++ (qLine ((cs.map pOf).getD k []) ++ [10, 10])).length = _
    rw [hg, List.length_append, txt_len cs k (by omega)]
    show 10 + 22 * k + 22 = _
    omega
end Go.Proofs.YtaonjbojhikndaaDoor
