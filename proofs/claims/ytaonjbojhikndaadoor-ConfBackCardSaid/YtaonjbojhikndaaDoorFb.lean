/- Conf's library: words. No conditions. -/
import Derived.Test.YtaonjbojhikndaaDoorFa
namespace Go.Proofs.YtaonjbojhikndaaDoor
open Go Go.W
set_option maxRecDepth 100000

/-- The place of the first empty text. -/
def idxM : List B → Int
  | [] => -1
  | x :: l => bif x == [] then 0 else bif idxM l == -1 then -1 else idxM l + 1
theorem idxM_none : ∀ {xs : List B}, (∀ j, j < xs.length → (xs.getD j [] == []) = false) → idxM xs = -1
  | [], _ => rfl
  | x :: l, h => by
    have h0 : (x == []) = false := h 0 (by simp)
    have h1 := idxM_none (xs := l) (fun j hj => h (j + 1) (by simp; omega))
    simp only [idxM, h0, h1]
    rfl
theorem idxM_some : ∀ {xs : List B} {i : Nat}, i < xs.length → (xs.getD i [] == []) = true → (∀ j, j < i → (xs.getD j [] == []) = false) → idxM xs = i
  | [], i, h, _, _ => by simp at h
  | x :: l, 0, _, h, _ => by
    have h0 : (x == []) = true := h
    simp only [idxM, h0, cond_true]
    rfl
  | x :: l, i + 1, hl, h, hj => by
    have h0 : (x == []) = false := hj 0 (by omega)
    have h1 := idxM_some (xs := l) (i := i) (by simpa using hl) h (fun j hij => hj (j + 1) (by omega))
    simp only [idxM, h0, h1, cond_false]
    have : ((i : Int) == -1) = false := by simp
    rw [this]
    simp
/-- A list of texts, in memory. -/
structure AL where
  xs : List B
  n : Nat
  c : Nat
def AL.fine (a : AL) : Bool := Nat.beq a.n a.xs.length && Nat.beq a.c a.xs.length && small a.xs.length
theorem AL.fine_is {a : AL} (h : a.fine = true) : a.n = a.xs.length ∧ a.c = a.xs.length ∧ a.xs.length ≤ 1000000 := by
  simp only [AL.fine, Bool.and_eq_true] at h
  exact ⟨Nat.eq_of_beq_eq_true h.1.1, Nat.eq_of_beq_eq_true h.1.2, small_le h.2⟩
def S52 : Go.W.Spec regK.T := ⟨AL, fun a => [.sl 0 0 a.n (.exact a.c), .fn 41 [] []], fun a => [.trows 9 a.xs], AL.fine, fun a => .ret (ki (idxM a.xs), [some (.trows 9 a.xs)])⟩
def P52 (xs : List B) (i : Nat) : Prop := i ≤ xs.length ∧ ∀ j, j < i → (xs.getD j [] == []) = false
def L52 (a : AL) (_ : Unit) (k : Nat) (_ : St regK.T) : Option (LoopI regK.T Unit) := match Nat.beq k 2 with
  | true => some ⟨{ i : Nat // P52 a.xs i }, fun i => ⟨[(0, .sl 0 0 a.n (.exact a.c)), (1, .fn 41 [] []), (7, ki (a.n : Nat)), (8, ki (i.1 : Nat))], [(0, .trows 9 a.xs)], 1⟩, fun i => a.xs.length - i.1, fun _ => ()⟩
  | false => none
def readL (args : List VK) (g : Nat → Option OK) : Option (AL × Nat) := match args with
  | [.sl i 0 n (.exact c), .fn 41 [] []] => (match g i with
    | some (.trows 9 xs) => some (⟨xs, n, c⟩, i)
    | _ => none)
  | _ => none
theorem readL_ok {args : List VK} {g : Nat → Option OK} {a : AL} {i : Nat} (h : readL args g = some (a, i)) : args = [.sl i 0 a.n (.exact a.c), .fn 41 [] []] ∧ g i = some (.trows 9 a.xs) := by
  unfold readL at h
  split at h
  · split at h
    · rename_i ys hg
      cases h
      exact ⟨rfl, hg⟩
    · cases h
  · cases h
theorem meet_L {args : List VK} {g : Nat → Option OK} {a : AL} {i : Nat} (h : readL args g = some (a, i)) :
    covV.goL (at0 0 [i]) [.sl 0 0 a.n (.exact a.c), .fn 41 [] []] args ∧ [i].length = 1 ∧ ∀ (j : Nat) (o' : OK), ([.trows 9 a.xs] : List OK)[j]? = some o' → ∃ (k : Nat) (u : OK), ([i] : List Nat)[j]? = some k ∧ g k = some u ∧ covO (at0 0 [i]) o' u := by
  obtain ⟨rfl, hg⟩ := readL_ok h
  refine ⟨⟨(must_iff _ _).2 ⟨Nat.beq_refl i, rfl, rfl, rfl⟩, (must_iff _ _).2 ⟨rfl, trivial, trivial⟩, trivial⟩, rfl, fun j o' hj => ?_⟩
  cases j with
  | zero => simp only [List.getElem?_cons_zero, Option.some.injEq] at hj; subst hj; exact ⟨i, _, rfl, hg, rfl⟩
  | succ j => simp at hj
def M52 : Meet S52 where
  find args g := match readL args g with | some (a, i) => some (a, [i]) | none => none
  ok args g a ρ h := by
    split at h
    · rename_i a i hr
      cases h
      exact meet_L hr
    · cases h

/-- The words. -/
def keep (xs : List B) : List B := xs.filter fun x => !(x == [])
def S40 : Go.W.Spec regK.T := ⟨AL, fun a => [.sl 0 0 a.n (.exact a.c), .fn 41 [] []], fun a => [.trows 9 a.xs], AL.fine,
  fun a => .ret (.sl 0 0 (keep a.xs).length (.exact a.xs.length), [some (.trows 9 (keep a.xs ++ List.replicate (a.xs.length - (keep a.xs).length) []))])⟩
structure R40 where
  rows : List B
  j : Nat
structure P40 (xs : List B) (x : R40) : Prop where
  le : x.j ≤ xs.length
  len : x.rows.length = xs.length
  front : x.rows.take (keep (xs.take x.j)).length = keep (xs.take x.j)
  back : x.rows.drop x.j = xs.drop x.j
def L40 (a : AL) (_ : Unit) (k : Nat) (_ : St regK.T) : Option (LoopI regK.T Unit) := match Nat.beq k 5 with
  | true => some ⟨{ x : R40 // P40 a.xs x }, fun x => ⟨[(0, .sl 0 0 a.n (.exact a.c)), (1, .fn 41 [] []), (5, ki ((keep (a.xs.take x.1.j)).length : Nat)), (6, ki (x.1.j : Nat))], [(0, .trows 9 x.1.rows)], 1⟩, fun x => a.xs.length - x.1.j, fun _ => ()⟩
  | false => none
def M40 : Meet S40 where
  find args g := match readL args g with | some (a, i) => some (a, [i]) | none => none
  ok args g a ρ h := by
    split at h
    · rename_i a i hr
      cases h
      exact meet_L hr
    · cases h
end Go.Proofs.YtaonjbojhikndaaDoor

namespace Go.Proofs.YtaonjbojhikndaaDoor
open Go Go.W Go.Proofs
set_option maxRecDepth 100000
theorem v52 (a : AL) : (OwesDN e1 (52 : Nat) S52 (fun (_ : Nat) => []) (L52 a) noJ () a) = (
  (∃ (x : { i : Nat // P52 a.xs i }),
  (((0 : Nat) = (0 : Nat) ∧ a.n = a.n ∧ a.c = a.c) ∧
    (True ∧ True) ∧ (↑a.n : Int) = (↑a.n : Int) ∧ (↑x.val : Int) = (0 : Int) ∧ True) ∧
   o9 a.xs = o9 a.xs ∧ True) ∧
 ∀ (x : { i : Nat // P52 a.xs i }),
  branch (decide ((↑x.val : Int) < (↑a.n : Int)))
   (branch (decide ((↑x.val : Int) < (↑a.n : Int)))
    (branch (((0 : Nat) + (↑x.val : Int).toNat).blt a.xs.length)
     (branch (a.xs.getD ((0 : Nat) + (↑x.val : Int).toNat) [] == [])
      (idxM a.xs = (↑x.val : Int) ∧ o9 a.xs = o9 a.xs ∧ True)
      (∃ (x' : { i : Nat // P52 a.xs i }),
       a.xs.length - x'.val < a.xs.length - x.val ∧
        (((0 : Nat) = (0 : Nat) ∧ a.n = a.n ∧ a.c = a.c) ∧
          (True ∧ True) ∧
           (↑a.n : Int) = (↑a.n : Int) ∧ (↑x'.val : Int) = IntKind.i64.wrap ((↑x.val : Int) + (1 : Int)) ∧ True) ∧
         o9 a.xs = o9 a.xs ∧ True))
     False)
    False)
   (idxM a.xs = (-1 : Int) ∧ o9 a.xs = o9 a.xs ∧ True)) := by kernel_rfl
end Go.Proofs.YtaonjbojhikndaaDoor

namespace Go.Proofs.YtaonjbojhikndaaDoor
open Go Go.W
set_option maxRecDepth 100000

theorem dT {p : Prop} [Decidable p] (h : p) : decide p = true := decide_eq_true h
theorem ok52 (a : AL) (hp : S52.pre a = true) : OwesN e1 52 S52 (fun _ => []) (L52 a) noJ () a := by
  refine OwesN.mk ?_
  rw [v52]
  obtain ⟨hn, hc, hs⟩ := AL.fine_is hp
  refine ⟨⟨⟨0, Nat.zero_le _, fun j hj => by omega⟩, ⟨⟨rfl, rfl, rfl⟩, ⟨trivial, trivial⟩, rfl, rfl, trivial⟩, rfl, trivial⟩, fun x => ?_⟩
  have hi := x.2.1
  have hj := x.2.2
  refine br (fun h1 => ?_) (fun h1 => ?_)
  · have h1 : x.1 < a.n := by simpa using h1
    refine brT (dT (by omega)) (brT (by simp; omega) ?_)
    have e : 0 + ((x.1 : Int)).toNat = x.1 := by simp
    rw [e]
    refine br (fun h2 => ?_) (fun h2 => ?_)
    · exact ⟨idxM_some (by omega) h2 hj, rfl, trivial⟩
    · refine ⟨⟨x.1 + 1, by omega, fun j hj' => ?_⟩, ?_, ⟨⟨rfl, rfl, rfl⟩, ⟨trivial, trivial⟩, rfl, ?_, trivial⟩, rfl, trivial⟩
      · rcases Nat.lt_or_ge j x.1 with h | h
        · exact hj j h
        · rw [show j = x.1 by omega]; exact h2
      · show a.xs.length - (x.1 + 1) < _; omega
      · show ((x.1 + 1 : Nat) : Int) = _; rw [wrap_id] <;> omega
  · have h1 : a.n ≤ x.1 := by simpa using h1
    exact ⟨idxM_none (fun j hj' => hj j (by omega)), rfl, trivial⟩
theorem k52 : SpecOk Tryd.prog 52 S52 := spec_loopN e1_sound (by kernel_rfl) (fun _ _ => []) L52 (fun _ => noJ) (fun _ => ()) ok52
theorem a52 : RowOK 52 (S52.con M52) := Spec.con_ok k52 M52 (fun _ => Nat.le_of_ble_eq_true rfl)
def K2 : Con regK.T := fun f => lookN [(52, S52.con M52)] f
theorem K2_ok : ConOk Tryd.prog K2 := con_cons a52 con_nil
noncomputable def e2 : Hd regK.T := hdT regK Tryd.prog K2 (fun _ => false) 1000 5
theorem e2_sound : HdSound Tryd.prog e2 := hdT_sound mixed hno K2_ok _ _ _
end Go.Proofs.YtaonjbojhikndaaDoor

namespace Go.Proofs.YtaonjbojhikndaaDoor
open Go Go.W Go.Proofs
set_option maxRecDepth 100000
theorem v40 (a : AL) : (OwesDN e2 (40 : Nat) S40 (fun (_ : Nat) => []) (L40 a) noJ () a) = (
  branch (S52.pre a)
 (branch (idxM a.xs == (-1 : Int))
  (((0 : Nat) = (0 : Nat) ∧ (keep a.xs).length = a.n ∧ a.xs.length = a.c) ∧
   o9 (keep a.xs ++ List.replicate (a.xs.length - (keep a.xs).length) []) = o9 a.xs ∧ True)
  ((∃ (x : { x : R40 // P40 a.xs x }),
    (((0 : Nat) = (0 : Nat) ∧ a.n = a.n ∧ a.c = a.c) ∧
      (True ∧ True) ∧
       (↑(keep (List.take x.val.j a.xs)).length : Int) = idxM a.xs ∧
        (↑x.val.j : Int) = IntKind.i64.wrap (idxM a.xs + (1 : Int)) ∧ True) ∧
     o9 x.val.rows = o9 a.xs ∧ True) ∧
   ∀ (x : { x : R40 // P40 a.xs x }),
    branch (decide ((↑x.val.j : Int) < (↑a.n : Int)))
     (branch (decide ((↑x.val.j : Int) < (↑a.n : Int)))
      (branch (((0 : Nat) + (↑x.val.j : Int).toNat).blt x.val.rows.length)
       (branch (!x.val.rows.getD ((0 : Nat) + (↑x.val.j : Int).toNat) [] == [])
        (branch (decide ((↑(keep (List.take x.val.j a.xs)).length : Int) < (↑a.n : Int)))
         (branch (((0 : Nat) + (↑(keep (List.take x.val.j a.xs)).length : Int).toNat).blt x.val.rows.length && true)
          (∃ (x' : { x : R40 // P40 a.xs x }),
           a.xs.length - x'.val.j < a.xs.length - x.val.j ∧
            (((0 : Nat) = (0 : Nat) ∧ a.n = a.n ∧ a.c = a.c) ∧
              (True ∧ True) ∧
               (↑(keep (List.take x'.val.j a.xs)).length : Int) =
                 IntKind.i64.wrap ((↑(keep (List.take x.val.j a.xs)).length : Int) + (1 : Int)) ∧
                (↑x'.val.j : Int) = IntKind.i64.wrap ((↑x.val.j : Int) + (1 : Int)) ∧ True) ∧
             o9 x'.val.rows =
               o9
                (x.val.rows.set ((0 : Nat) + (↑(keep (List.take x.val.j a.xs)).length : Int).toNat)
                 (x.val.rows.getD ((0 : Nat) + (↑x.val.j : Int).toNat) [])) ∧
              True)
          False)
         False)
        (∃ (x' : { x : R40 // P40 a.xs x }),
         a.xs.length - x'.val.j < a.xs.length - x.val.j ∧
          (((0 : Nat) = (0 : Nat) ∧ a.n = a.n ∧ a.c = a.c) ∧
            (True ∧ True) ∧
             (↑(keep (List.take x'.val.j a.xs)).length : Int) = (↑(keep (List.take x.val.j a.xs)).length : Int) ∧
              (↑x'.val.j : Int) = IntKind.i64.wrap ((↑x.val.j : Int) + (1 : Int)) ∧ True) ∧
           o9 x'.val.rows = o9 x.val.rows ∧ True))
       False)
      False)
     (branch
      (decide ((↑(keep (List.take x.val.j a.xs)).length : Int) ≤ (↑a.n : Int)) && decide ((↑a.n : Int) ≤ (↑a.c : Int)))
      (branch
       (((0 : Nat) + (↑(keep (List.take x.val.j a.xs)).length : Int).toNat +
             ((↑a.n : Int) - (↑(keep (List.take x.val.j a.xs)).length : Int)).toNat).ble
           x.val.rows.length &&
          true &&
         true &&
        true)
       (branch (decide ((↑(keep (List.take x.val.j a.xs)).length : Int) ≤ (↑a.c : Int)))
        (((0 : Nat) = (0 : Nat) ∧
          (keep a.xs).length = ((↑(keep (List.take x.val.j a.xs)).length : Int) - (0 : Int)).toNat ∧
           a.xs.length = a.c - (0 : Nat)) ∧
         o9 (keep a.xs ++ List.replicate (a.xs.length - (keep a.xs).length) []) =
           o9
            (setRange x.val.rows ((0 : Nat) + (↑(keep (List.take x.val.j a.xs)).length : Int).toNat)
             (List.take ((↑a.n : Int) - (↑(keep (List.take x.val.j a.xs)).length : Int)).toNat
              (List.drop (0 : Nat)
               (List.replicate ((↑a.n : Int) - (↑(keep (List.take x.val.j a.xs)).length : Int)).toNat [])))) ∧
          True)
        False)
       False)
      False)))
 False) := by kernel_rfl
end Go.Proofs.YtaonjbojhikndaaDoor

namespace Go.Proofs.YtaonjbojhikndaaDoor
open Go Go.W
set_option maxRecDepth 100000

theorem keep_le (xs : List B) : (keep xs).length ≤ xs.length := List.length_filter_le _ _
theorem take_one {xs : List B} {j : Nat} (h : j < xs.length) : xs.take (j + 1) = xs.take j ++ [xs.getD j []] := by
  rw [List.take_succ_eq_append_getElem h]
  simp [List.getD, h]
theorem keep_succ {xs : List B} {j : Nat} (h : j < xs.length) : keep (xs.take (j + 1)) = keep (xs.take j) ++ (bif xs.getD j [] == [] then [] else [xs.getD j []]) := by
  rw [take_one h]
  unfold keep
  rw [List.filter_append]
  congr 1
  generalize xs.getD j [] = y
  cases hx : y == [] <;> simp only [List.filter_cons, List.filter_nil, hx, Bool.not_true, Bool.not_false, if_true, Bool.false_eq_true, if_false, cond_true, cond_false]
theorem keep_take_le (xs : List B) (j : Nat) : (keep (xs.take j)).length ≤ j := by
  have := keep_le (xs.take j)
  simp only [List.length_take] at this
  omega
theorem idx_keep : ∀ xs : List B, (idxM xs = -1 ∧ keep xs = xs) ∨ ∃ i : Nat, idxM xs = i ∧ i < xs.length ∧ keep (xs.take (i + 1)) = xs.take i
  | [] => .inl ⟨rfl, rfl⟩
  | x :: l => by
    cases hx : x == [] with
    | true =>
      refine .inr ⟨0, ?_, by simp, ?_⟩
      · simp only [idxM, hx, cond_true]; rfl
      · have : x = [] := by simpa using hx
        subst this
        simp [keep]
    | false =>
      rcases idx_keep l with ⟨h1, h2⟩ | ⟨i, h1, h2, h3⟩
      · refine .inl ⟨?_, ?_⟩
        · simp only [idxM, hx, h1]; rfl
        · have : keep (x :: l) = x :: keep l := by unfold keep; rw [List.filter_cons, hx]; rfl
          rw [this, h2]
      · refine .inr ⟨i + 1, ?_, by simpa using h2, ?_⟩
        · have h4 : ((i : Int) == -1) = false := by simp
          simp only [idxM, hx, h1, h4, cond_false]; omega
        · have : keep (x :: l.take (i + 1)) = x :: keep (l.take (i + 1)) := by unfold keep; rw [List.filter_cons, hx]; rfl
          rw [List.take_succ_cons, this, h3, List.take_succ_cons]
theorem getD_of_drop {xs ys : List B} {j : Nat} (h : ys.drop j = xs.drop j) : ys.getD j [] = xs.getD j [] := by
  have := congrArg (fun l => l.getD 0 []) h
  simpa [List.getD] using this

theorem ok40 (a : AL) (hp : S40.pre a = true) : OwesN e2 40 S40 (fun _ => []) (L40 a) noJ () a := by
  refine OwesN.mk ?_
  rw [v40]
  obtain ⟨hn, hc, hs⟩ := AL.fine_is hp
  have hk := keep_le a.xs
  refine brT hp (br (fun h => ?_) (fun h => ?_))
  · rcases idx_keep a.xs with ⟨h1, h2⟩ | ⟨i, h1, h2, h3⟩
    · rw [h2]
      exact ⟨⟨rfl, hn.symm, hc.symm⟩, by simp, trivial⟩
    · rw [h1] at h; simp at h
  · rcases idx_keep a.xs with ⟨h1, h2⟩ | ⟨i, h1, h2, h3⟩
    · rw [h1] at h; simp at h
    · have w1 : IntKind.i64.wrap ((i : Int) + 1) = ((i + 1 : Nat) : Int) := by rw [wrap_id] <;> omega
      rw [h1, w1]
      have hl : (a.xs.take i).length = i := by simp; omega
      refine ⟨⟨⟨⟨a.xs, i + 1⟩, by show i + 1 ≤ _; omega, rfl, ?_, rfl⟩, ⟨⟨rfl, rfl, rfl⟩, ⟨trivial, trivial⟩, ?_, rfl, trivial⟩, rfl, trivial⟩, fun x => ?_⟩
      · show a.xs.take (keep (a.xs.take (i + 1))).length = keep (a.xs.take (i + 1))
        rw [h3, hl]
      · show ((keep (a.xs.take (i + 1))).length : Int) = i
        rw [h3, hl]
      · have p := x.2
        have p1 := p.le
        have p2 := p.len
        have p3 := keep_take_le a.xs x.1.j
        refine br (fun hj => ?_) (fun hj => ?_)
        · have hj : x.1.j < a.n := by simpa using hj
          have e : 0 + ((x.1.j : Int)).toNat = x.1.j := by simp
          have e' : 0 + (((keep (a.xs.take x.1.j)).length : Int)).toNat = (keep (a.xs.take x.1.j)).length := by simp
          have hg := getD_of_drop p.back
          have hks := keep_succ (xs := a.xs) (j := x.1.j) (by omega)
          have w2 : IntKind.i64.wrap ((x.1.j : Int) + 1) = ((x.1.j + 1 : Nat) : Int) := by rw [wrap_id] <;> omega
          have w3 : IntKind.i64.wrap (((keep (a.xs.take x.1.j)).length : Int) + 1) = (((keep (a.xs.take x.1.j)).length + 1 : Nat) : Int) := by rw [wrap_id] <;> omega
          rw [e, e', hg, w2, w3]
          refine brT (dT (by omega)) (brT (by simp; omega) (br (fun hb => ?_) (fun hb => ?_)))
          · have hb : (a.xs.getD x.1.j [] == []) = false := by simpa using hb
            rw [hb, cond_false] at hks
            refine brT (dT (by omega)) (brT (by simp; omega) ⟨⟨⟨x.1.rows.set (keep (a.xs.take x.1.j)).length (a.xs.getD x.1.j []), x.1.j + 1⟩, ?_, ?_, ?_, ?_⟩, ?_, ⟨⟨rfl, rfl, rfl⟩, ⟨trivial, trivial⟩, ?_, rfl, trivial⟩, rfl, trivial⟩)
            · show x.1.j + 1 ≤ _; omega
            · show (x.1.rows.set _ _).length = _; rw [List.length_set, p2]
            · show (x.1.rows.set (keep (a.xs.take x.1.j)).length (a.xs.getD x.1.j [])).take (keep (a.xs.take (x.1.j + 1))).length = keep (a.xs.take (x.1.j + 1))
              rw [hks, List.length_append, List.length_singleton, take_one (by rw [List.length_set]; omega)]
              congr 1
              · rw [List.take_set_of_le (Nat.le_refl _), p.front]
              · have hlt : (keep (a.xs.take x.1.j)).length < x.1.rows.length := by omega
                simp [List.getD, hlt]
            · show (x.1.rows.set (keep (a.xs.take x.1.j)).length (a.xs.getD x.1.j [])).drop (x.1.j + 1) = a.xs.drop (x.1.j + 1)
              rw [List.drop_set_of_lt (by omega), ← List.drop_drop, ← List.drop_drop, p.back]
            · show a.xs.length - (x.1.j + 1) < _; omega
            · show ((keep (a.xs.take (x.1.j + 1))).length : Int) = _
              rw [hks, List.length_append, List.length_singleton]
          · have hb : (a.xs.getD x.1.j [] == []) = true := by simpa using hb
            rw [hb, cond_true, List.append_nil] at hks
            refine ⟨⟨⟨x.1.rows, x.1.j + 1⟩, ?_, p2, ?_, ?_⟩, ?_, ⟨⟨rfl, rfl, rfl⟩, ⟨trivial, trivial⟩, ?_, rfl, trivial⟩, rfl, trivial⟩
            · show x.1.j + 1 ≤ _; omega
            · show x.1.rows.take (keep (a.xs.take (x.1.j + 1))).length = keep (a.xs.take (x.1.j + 1))
              rw [hks, p.front]
            · show x.1.rows.drop (x.1.j + 1) = a.xs.drop (x.1.j + 1)
              rw [← List.drop_drop, ← List.drop_drop, p.back]
            · show a.xs.length - (x.1.j + 1) < _; omega
            · show ((keep (a.xs.take (x.1.j + 1))).length : Int) = _
              rw [hks]
        · have hj : a.n ≤ x.1.j := by simpa using hj
          have ht : a.xs.take x.1.j = a.xs := List.take_of_length_le (by omega)
          rw [ht] at p3 ⊢
          have pf := p.front
          rw [ht] at pf
          have e1 : ((a.n : Int) - ((keep a.xs).length : Int)).toNat = a.xs.length - (keep a.xs).length := by omega
          have e2 : 0 + (((keep a.xs).length : Int)).toNat = (keep a.xs).length := by simp
          rw [e1, e2]
          refine brT (by simp; omega) (brT (by simp; omega) (brT (dT (by omega)) ⟨⟨rfl, by omega, by omega⟩, ?_, trivial⟩))
          congr 1
          rw [List.drop_zero, List.take_of_length_le (by simp)]
          unfold setRange
          rw [pf, List.length_replicate, List.drop_of_length_le (by omega), List.append_nil]
theorem k40 : SpecOk Tryd.prog 40 S40 := spec_loopN e2_sound (by kernel_rfl) (fun _ _ => []) L40 (fun _ => noJ) (fun _ => ()) ok40
theorem a40 : RowOK 40 (S40.con M40) := Spec.con_ok k40 M40 (fun _ => Nat.le_of_ble_eq_true rfl)
end Go.Proofs.YtaonjbojhikndaaDoor

namespace Go.Proofs.YtaonjbojhikndaaDoor
open Go Go.RowKit

set_option maxHeartbeats 1000000 in
set_option maxRecDepth 100000 in
theorem c89 (b o c : Nat) (v : Bool) (w : World) (hc : c < 256) (h : w.cell? ⟨b, o + c, none⟩ = some (.bool v)) :
    Calls Tryd.prog 89 #[.pointer (some ⟨b, o, none⟩), .int .u8 c] w fun e w' => e = .returned (.bool v) ∧ w' = w := by
  go_enter Tryd.func89, Tryd.ntmps89
  have h1 : (0 : Int) ≤ (c : Int) := by omega
  have h2 : (c : Int) < 256 := by omega
  go_wp2
  go_ret
  exact ⟨rfl, rfl⟩
end Go.Proofs.YtaonjbojhikndaaDoor

namespace Go.Proofs.YtaonjbojhikndaaDoor
open Go Go.W Go.RowKit
set_option maxRecDepth 100000

def digI (c : Int) : Bool := decide (48 ≤ c) && decide (c ≤ 57)
def isDigRow : List VK → Nat → Bool
  | [], i => Nat.beq i 256
  | .d (.bool b) :: l, i => (b == digI (i : Int)) && isDigRow l (i + 1)
  | _ :: _, _ => false
theorem isDigRow_get : ∀ {l : List VK} {i : Nat}, isDigRow l i = true → l.length + i = 256 ∧ ∀ j, j < l.length → l.getD j .any = .d (.bool (digI ((i + j : Nat) : Int)))
  | [], i, h => ⟨by have : i = 256 := Nat.eq_of_beq_eq_true h; simp [this], fun j hj => by simp at hj⟩
  | .d (.bool b) :: l, i, h => by
    simp only [isDigRow, Bool.and_eq_true, beq_iff_eq] at h
    obtain ⟨h1, h2⟩ := isDigRow_get h.2
    refine ⟨by simp; omega, fun j hj => ?_⟩
    cases j with
    | zero => simp [h.1]
    | succ j =>
      have := h2 j (by simpa using hj)
      rw [show i + (j + 1) = i + 1 + j by omega]
      simpa using this
def u89 : TB := fun args h => match args with
  | [.ptr i r o, .d (.int .u8 c)] => (match Nat.beq r 0 && Nat.beq o 0, h.get i with
    | true, some (.rows k [row]) => Out.ask (Nat.beq k 256 && isDigRow row 0) (.need (decide (0 ≤ c) && decide (c ≤ 255)) (.ret (kb (digI c), h)))
    | _, _ => .bad)
  | _ => .bad
theorem a89 : RowOK 89 u89 := by
  intro args h Q hq
  unfold u89 at hq
  split at hq
  · rename_i i r o c
    split at hq
    · rename_i k row hro hget
      simp only [Bool.and_eq_true] at hro
      have h1 := Nat.eq_of_beq_eq_true hro.1
      have h2 := Nat.eq_of_beq_eq_true hro.2
      subst h1 h2
      have hA := Out.K_ask.1 hq
      clear hq
      obtain ⟨hk, hq⟩ := hA
      simp only [Bool.and_eq_true] at hk
      have hk1 := Nat.eq_of_beq_eq_true hk.1
      subst hk1
      obtain ⟨hc, hq⟩ := Out.K_need.1 hq
      simp only [Bool.and_eq_true, decide_eq_true_eq] at hc
      refine ⟨there 89 (by kernel_rfl), fun N F φ w cargs _ hH hl => ?_⟩
      obtain ⟨x, y, rfl, hx, hy⟩ := args2 hl
      rw [hy.int_inv]
      obtain ⟨b, s, k', z, hp, rfl⟩ := hx.ptr_inv
      obtain ⟨_, rfl, _, _, C, t, fz, g1, _, g2, g3⟩ := row_at hH hget hp rfl
      obtain ⟨m, rfl⟩ : ∃ m : Nat, c = m := ⟨c.toNat, by omega⟩
      obtain ⟨d1, d2⟩ := isDigRow_get hk.2
      have hw : ((O.rows 256 [row] : OK).row regK 0).length = 256 := g2.at_.wid 0 (by simp [O.len])
      have hrow : (O.rows 256 [row] : OK).row regK 0 = row := rfl
      have hm : m < row.length := by rw [← hrow, hw]; omega
      have hrel := g2.at_.rel 0 m (by simp [O.len]) (by show m < 256; omega)
      rw [hrow, d2 m hm, Nat.zero_add] at hrel
      have hb := hrel.bool_inv
      have hsz := g2.size
      have hsz : s + 1 * 256 ≤ C.size := hsz
      have hcell : w.cell? ⟨b, s + m, none⟩ = some (.bool (digI (m : Int))) := by
        have e : C.getD (s + (0 * 256 + m)) undef = .bool (digI (m : Int)) := hb
        rw [show s + (0 * 256 + m) = s + m by omega] at e
        have hlt : s + m < C.size := by omega
        have : C[s + m]? = some (.bool (digI (m : Int))) := by
          rw [Array.getElem?_eq_getElem hlt, ← e]
          simp [Array.getD, hlt]
        simp [World.cell?, g1, this]
      have e0 : s + 0 * (O.rows 256 [row] : OK).k regK + 0 = s := by simp
      rw [e0]
      refine (c89 b s m _ w (by omega) hcell).mono fun e w' ⟨he, hw⟩ => ?_
      subst hw
      exact ⟨_, he, Res.pure hH hq (.d _ _ (.bool _))⟩
    · exact hq.elim
  · exact hq.elim
def K3 : Con regK.T := fun f => lookN [(89, u89)] f
theorem K3_ok : ConOk Tryd.prog K3 := con_cons a89 con_nil
noncomputable def e3 : Hd regK.T := hdT regK Tryd.prog K3 (fun _ => false) 1000 5
theorem e3_sound : HdSound Tryd.prog e3 := hdT_sound mixed hno K3_ok _ _ _
end Go.Proofs.YtaonjbojhikndaaDoor
