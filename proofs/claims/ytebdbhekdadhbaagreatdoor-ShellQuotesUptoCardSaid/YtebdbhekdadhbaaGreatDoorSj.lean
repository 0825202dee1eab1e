/- ShellWords and ShellQuotes: their functions answer yes. No conditions. -/
import Derived.Test.YtebdbhekdadhbaaGreatDoorSiV
namespace Go.Proofs.YtebdbhekdadhbaaGreatDoor
open Go Go.W
set_option maxRecDepth 100000
theorem wordM_len : ∀ (f : Nat) (s : B) (acc l : List B), wordM f s acc = some l → l.length ≤ acc.length + s.length
  | 0, _, _, _, h => by cases h
  | f + 1, [], acc, l, h => by cases h; simp
  | f + 1, c :: r, acc, l, h => by
    unfold wordM at h
    revert h
    cases isBl c with
    | true =>
      intro h
      have := wordM_len f r acc l h
      simp; omega
    | false =>
      cases c == 35 with
      | true => intro h; cases h; simp
      | false =>
        cases c == 34 with
        | true =>
          cases hq : quotedM r with
          | none => intro h; cases h
          | some p =>
            obtain ⟨w, n⟩ := p
            cases hb : blkd (r.drop n) with
            | true =>
              intro h
              have h : wordM f (r.drop n) (acc ++ [w]) = some l := by simpa [hb] using h
              have := wordM_len f _ _ l h
              simp at this ⊢; omega
            | false => intro h; simp [hb] at h
        | false =>
          cases (c :: r.takeWhile nonBl).contains 34 with
          | true => intro h; cases h
          | false =>
            intro h
            have h : wordM f (r.dropWhile nonBl) (acc ++ [c :: r.takeWhile nonBl]) = some l := h
            have := wordM_len f _ _ l h
            have hd := dropW_le nonBl r
            simp at this ⊢; omega
theorem lineM_len {s : B} {l : List B} (h : lineM s = some l) : l.length ≤ s.length := by
  have := wordM_len _ _ _ _ h
  simpa using this
theorem tail_yes (b : List Int) (hb : smq b = true) : branch ((0 + b.length).ble 0) (branch ((0 + b.length).ble 0) (branch ((0 + (0 + b.length)).ble (setRange [] 0 b).length) (branch ((SD smq sU).pre (List.drop 0 (List.take (0 + (0 + b.length)) (setRange [] 0 b)))) (branch ((SD smq sU).pre b) (branch (quoteT (dn (List.drop 0 (List.take (0 + (0 + b.length)) (setRange [] 0 b)))) == quoteT (dn b)) ((dn (List.drop 0 (List.take (0 + (0 + b.length)) (setRange [] 0 b))) == dn b) = true) (false = true)) False) False) False) False)
    (branch (((0 + b.length) * 1).ble 140737488355328 && (0 + b.length).ble 9223372036854775807 && true && true && true) (branch ((0 + (0 + b.length)).ble ([] ++ b).length) (branch ((SD smq sU).pre (List.drop 0 (List.take (0 + (0 + b.length)) ([] ++ b)))) (branch ((SD smq sU).pre b) (branch (quoteT (dn (List.drop 0 (List.take (0 + (0 + b.length)) ([] ++ b)))) == quoteT (dn b)) ((dn (List.drop 0 (List.take (0 + (0 + b.length)) ([] ++ b))) == dn b) = true) (false = true)) False) False) False) False) := by
  have hs : setRange [] 0 b = b := by unfold setRange; simp
  have hl := (smq_le hb).1
  have e : List.drop 0 (List.take (0 + (0 + b.length)) b) = b := by rw [Nat.zero_add, Nat.zero_add, List.take_length, List.drop_zero]
  rw [hs, List.nil_append, e]
  have le_ : (0 + (0 + b.length)).ble b.length = true := by rw [Nat.zero_add, Nat.zero_add]; exact Nat.ble_eq_true_of_le (Nat.le_refl _)
  have q : (quoteT (dn b) == quoteT (dn b)) = true := beq_iff_eq.2 rfl
  have d : (dn b == dn b) = true := beq_iff_eq.2 rfl
  refine br (fun h => ?_) (fun _ => ?_)
  · exact brT h (brT le_ (brT hb (brT hb (brT q d))))
  · refine brT ?_ (brT le_ (brT hb (brT hb (brT q d))))
    rw [Nat.zero_add]
    simp only [Bool.and_eq_true]
    exact ⟨⟨⟨⟨Nat.ble_eq_true_of_le (by omega), Nat.ble_eq_true_of_le (by omega)⟩, trivial⟩, trivial⟩, trivial⟩
theorem words_yes (s : B) (b : List Int) (hs : s.length ≤ 2000000) (hb : smq b = true) : YesS AA3 (LL3 s b) Tryz.f3 [ks s, .d (.sl 5 b)] := by
  refine YesS.mk ?_
  rw [vL3]
  have hp : (SB sm sW).pre s = true := Nat.ble_eq_true_of_le (by omega)
  cases hl : lineM s with
  | none => exact brT hp (brF rfl (brT hp (brF rfl (tail_yes b hb))))
  | some ws =>
    have hw : wordsL s = ws := by unfold wordsL; rw [hl]; rfl
    have hlen := lineM_len hl
    rw [hw]
    refine brT hp (brT rfl (brT hp (brT rfl (brF (by simp) ⟨⟨⟨0, Nat.zero_le _⟩, ⟨rfl, rfl, rfl, rfl, trivial⟩, trivial⟩, fun x => ?_⟩))))
    have x1 := x.2
    have w1 : IntKind.i64.wrap ((x.1 : Int) + 1) = ((x.1 + 1 : Nat) : Int) := by rw [wrap_id] <;> omega
    rw [w1]
    refine br (fun hlt => ?_) (fun _ => tail_yes b hb)
    have hlt : x.1 < ws.length := by simpa using hlt
    refine brT (by simp; omega) (brT (by simp; omega) (brF ?_ ⟨⟨x.1 + 1, hlt⟩, by show ws.length - (x.1 + 1) < _; omega, ⟨rfl, rfl, rfl, rfl, trivial⟩, trivial⟩))
    rw [Bool.not_eq_false']; exact beq_iff_eq.2 rfl
/-! ### Quotes -/
theorem txt_succ {l : List (List Int)} {i : Nat} (h : i < l.length) : txt l (i + 1) = txt l i ++ [32] ++ quoteT (dn (l.getD i [])) ++ [9] := by
  unfold txt
  have e : l[i] = l.getD i [] := by simp [List.getD, h]
  rw [List.take_succ_eq_append_getElem h, List.map_append, e, quoteT_eq]
  unfold wordsT
  rw [List.flatMap_append]
  simp
theorem quoteT_len (b : B) : (quoteT b).length ≤ 4 * b.length + 2 := by
  rw [quoteT_eq]
  have := qbs_len b
  unfold quoteM
  simp; omega
theorem line_txt (l : List (List Int)) (i : Nat) (t : B) : lineM (txt l i ++ #[(35 : UInt8)].toList ++ t) = some (firstW l i) := by
  have e : txt l i ++ #[(35 : UInt8)].toList ++ t = txt l i ++ 35 :: t := by simp
  rw [e]; exact lineM_words _ t
theorem firstW_len {l : List (List Int)} {n : Nat} (h : n ≤ l.length) : (firstW l n).length = n := by unfold firstW; simp; omega
theorem firstW_get {l : List (List Int)} {n j : Nat} (h : n ≤ l.length) (hj : j < n) : (firstW l n).getD j [] = dn (l.getD j []) := by
  unfold firstW
  have h2 : j < l.length := by omega
  simp [List.getD, hj, h2]
theorem end_yes (l : List (List Int)) (t : B) (ht : t.length ≤ 2000000) (hll : l.length ≤ 2000000) (i : Nat) (hi : i ≤ l.length) (hx : (txt l i).length ≤ 6000000) :
    branch (((txt l i).length + 1).ble 9223372036854775807) (branch (((txt l i ++ [OfNat.ofNat 35]).length + t.length).ble 9223372036854775807) (branch ((SB sm sW).pre (txt l i ++ [OfNat.ofNat 35] ++ t)) (branch (match lineM (txt l i ++ #[(35 : UInt8)].toList ++ t) with | some _ => true | none => false)
      (branch (((match lineM (txt l i ++ #[(35 : UInt8)].toList ++ t) with | some x => x | none => []).length : Int) != (i : Int)) (false = true)
        ((∃ x : { x : Nat × Nat // x.1 ≤ l.length ∧ x.2 ≤ x.1 }, (dL l = dL l ∧ (x.1.1 : Int) = (i : Int) ∧ dS (firstW l x.1.1) = dS (match lineM (txt l i ++ #[(35 : UInt8)].toList ++ t) with | some x => x | none => []) ∧ (x.1.2 : Int) = 0 ∧ True) ∧ True) ∧
          ∀ x : { x : Nat × Nat // x.1 ≤ l.length ∧ x.2 ≤ x.1 }, branch (decide ((x.1.2 : Int) < (x.1.1 : Int))) (branch (decide ((x.1.2 : Int) < ((firstW l x.1.1).length : Int)) && true && true) (branch (decide ((x.1.2 : Int) < (l.length : Int)) && true && true) (branch (!((firstW l x.1.1).getD ((x.1.2 : Int)).toNat [] == dn (l.getD ((x.1.2 : Int)).toNat []))) (false = true)
            (∃ x' : { x : Nat × Nat // x.1 ≤ l.length ∧ x.2 ≤ x.1 }, x'.1.1 - x'.1.2 < x.1.1 - x.1.2 ∧ (dL l = dL l ∧ (x'.1.1 : Int) = (x.1.1 : Int) ∧ dS (firstW l x'.1.1) = dS (firstW l x.1.1) ∧ (x'.1.2 : Int) = IntKind.i64.wrap ((x.1.2 : Int) + 1) ∧ True) ∧ True)) False) False) (true = true))) (false = true)) False) False) False := by
  rw [line_txt]
  refine brT (Nat.ble_eq_true_of_le (by omega)) (brT (Nat.ble_eq_true_of_le (by simp only [List.length_append, List.length_cons, List.length_nil]; omega)) (brT (show sm (txt l i ++ [OfNat.ofNat 35] ++ t) = true from Nat.ble_eq_true_of_le (by simp only [List.length_append, List.length_cons, List.length_nil]; omega)) (brT rfl (brF ?_ ⟨⟨⟨(i, 0), hi, Nat.zero_le _⟩, ⟨rfl, rfl, rfl, rfl, trivial⟩, trivial⟩, fun x => ?_⟩))))
  · show (((firstW l i).length : Int) != (i : Int)) = false
    rw [firstW_len hi]; simp
  · have x1 := x.2.1
    have x2 := x.2.2
    rw [firstW_len x1]
    refine br (fun hlt => ?_) (fun _ => rfl)
    have hlt : x.1.2 < x.1.1 := by simpa using hlt
    have e1 : ((x.1.2 : Int)).toNat = x.1.2 := by simp
    rw [e1]
    refine brT (by simp; omega) (brT (by simp; omega) (brF ?_ ?_))
    · rw [firstW_get x1 hlt, Bool.not_eq_false']; exact beq_iff_eq.2 rfl
    · exact ⟨⟨(x.1.1, x.1.2 + 1), x1, hlt⟩, by show x.1.1 - (x.1.2 + 1) < _; omega, ⟨rfl, rfl, rfl, by rw [wrap_id (by omega) (by omega)]; rfl, trivial⟩, trivial⟩
theorem quotes_yes (l : List (List Int)) (t : B) (hl : ∀ x ∈ l, smq x = true ∧ x.length ≤ 1048576) (ht : t.length ≤ 2000000) (hll : l.length ≤ 2000000) : YesS noA (LL4 l t) Tryz.f4 [.d (.sl 22 l), ks t] := by
  refine YesS.mk ?_
  rw [vL4]
  refine ⟨⟨⟨0, Nat.zero_le _, Nat.zero_le _⟩, ⟨rfl, rfl, rfl, rfl, rfl, trivial⟩, trivial⟩, fun x => ?_⟩
  have x1 := x.2.1
  have x2 := x.2.2
  have fin := end_yes l t ht hll x.1 x1 x2
  have e1 : ((x.1 : Int)).toNat = x.1 := by simp
  have w1 : IntKind.i64.wrap ((x.1 : Int) + 1) = ((x.1 + 1 : Nat) : Int) := by rw [wrap_id] <;> omega
  rw [e1, w1]
  refine br (fun hlt => ?_) (fun _ => fin)
  have hlt : x.1 < l.length := by simpa using hlt
  refine br (fun _ => ?_) (fun _ => fin)
  refine br (fun h3 => ?_) (fun _ => fin)
  have h3 : (txt l x.1).length < 16384 := by have := of_decide_eq_true h3; omega
  have hm : l.getD x.1 [] ∈ l := by
    have : l.getD x.1 [] = l[x.1] := by simp [List.getD, hlt]
    rw [this]; exact List.getElem_mem hlt
  obtain ⟨q1, q2⟩ := hl _ hm
  have hq := quoteT_len (dn (l.getD x.1 []))
  rw [dn_len] at hq
  have hs := txt_succ hlt
  have hb : (txt l (x.1 + 1)).length ≤ 6000000 := by rw [hs]; simp only [List.length_append, List.length_cons, List.length_nil]; omega
  exact brT (Nat.ble_eq_true_of_le (by omega)) (brT (by simp; omega) (brT q1 (brT (Nat.ble_eq_true_of_le (by simp only [List.length_append, List.length_cons, List.length_nil]; omega)) (brT (Nat.ble_eq_true_of_le (by simp only [List.length_append, List.length_cons, List.length_nil]; omega))
    ⟨⟨x.1 + 1, hlt, hb⟩, by show l.length - (x.1 + 1) < _; omega, ⟨rfl, rfl, hs, rfl, rfl, trivial⟩, trivial⟩))))
end Go.Proofs.YtebdbhekdadhbaaGreatDoor
