/- A line's words, as the program and as the document read them: their contracts hold. No conditions. -/
import Derived.Test.YtebdbhekdadhbaaGreatDoorSe
namespace Go.Proofs.YtebdbhekdadhbaaGreatDoor
open Go Go.W
set_option maxRecDepth 100000
theorem getD_drop (s : B) (p j : Nat) : (s.drop p).getD j 0 = s.getD (p + j) 0 := by
  simp only [List.getD, List.getElem?_drop]
theorem isBl_iff {c : UInt8} : isBl c = true ↔ c = 32 ∨ c = 9 := by
  unfold isBl; rw [Bool.or_eq_true, beq_iff_eq, beq_iff_eq]
theorem nonBl_iff {c : UInt8} : nonBl c = true ↔ c ≠ 32 ∧ c ≠ 9 := by
  unfold nonBl
  rw [Bool.not_eq_true', Bool.or_eq_false_iff, beq_eq_false_iff_ne, beq_eq_false_iff_ne]
theorem isBl_no {c : UInt8} (h1 : c ≠ 32) (h2 : c ≠ 9) : isBl c = false := by
  rw [← Bool.not_eq_true, isBl_iff]; exact fun h => h.elim h1 h2
/-! ### Between words -/
theorem blkW {s : B} {x : RW'} (hx : PW s x) (hi : x.i < s.length) (hb : isBl (s.getD x.i 0) = true) : PW s ⟨x.i + 1, x.l⟩ := by
  refine ⟨hi, Nat.le_succ_of_le hx.l, ?_⟩
  rw [hx.go, drop_cons hi]; exact wordR_bl _ _ hb
theorem hashW {s : B} {x : RW'} (hx : PW s x) (hi : x.i < s.length) (h : s.getD x.i 0 = 35) : lineM s = some x.l := by
  rw [hx.go, drop_cons hi, h]; rfl
theorem endW {s : B} {x : RW'} (hx : PW s x) (hi : ¬ x.i < s.length) : lineM s = some x.l := by
  rw [hx.go, List.drop_eq_nil_of_le (by omega)]; rfl
theorem badW {s : B} {x : RW'} (hx : PW s x) (hi : x.i < s.length) (h : s.getD x.i 0 = 34) (hq : quotedM (s.drop (x.i + 1)) = none) : lineM s = none := by
  rw [hx.go, drop_cons hi, h]; exact wordR_bad _ hq
theorem gluedW {s w : B} {x : RW'} {n : Nat} (hx : PW s x) (hi : x.i < s.length) (h : s.getD x.i 0 = 34) (hq : quotedM (s.drop (x.i + 1)) = some (w, n)) (hlt : x.i + 1 + n < s.length) (h1 : s.getD (x.i + 1 + n) 0 ≠ 32) (h2 : s.getD (x.i + 1 + n) 0 ≠ 9) : lineM s = none := by
  rw [hx.go, drop_cons hi, h]
  refine wordR_glued _ hq ?_
  rw [List.drop_drop, drop_cons hlt]
  exact isBl_no h1 h2
theorem quoW {s w : B} {x : RW'} {n : Nat} (hx : PW s x) (hi : x.i < s.length) (h : s.getD x.i 0 = 34) (hq : quotedM (s.drop (x.i + 1)) = some (w, n)) (hb : x.i + 1 + n < s.length → isBl (s.getD (x.i + 1 + n) 0) = true) : PW s ⟨x.i + 1 + n, x.l ++ [w]⟩ := by
  have hle := quotedM_le hq
  simp only [List.length_drop] at hle
  refine ⟨?_, ?_, ?_⟩
  · show x.i + 1 + n ≤ s.length; omega
  · show (x.l ++ [w]).length ≤ x.i + 1 + n
    have := hx.l
    simp; omega
  · rw [hx.go, drop_cons hi, h]
    refine (wordR_quoted _ hq ?_).trans ?_
    · rw [List.drop_drop]
      rcases Nat.lt_or_ge (x.i + 1 + n) s.length with hlt | hge
      · rw [drop_cons hlt]; exact hb hlt
      · rw [List.drop_eq_nil_of_le hge]; rfl
    · rw [List.drop_drop]
/-! ### Within a word -/
theorem startI {s : B} {x : RW'} (hx : PW s x) {g : Nat} (hg : g ≤ x.i) (hi : x.i < s.length) (h1 : s.getD x.i 0 ≠ 32) (h2 : s.getD x.i 0 ≠ 9) (h3 : s.getD x.i 0 ≠ 35) (h4 : s.getD x.i 0 ≠ 34) : PI s g ⟨x.i, x.i, x.l⟩ :=
  ⟨hg, Nat.le_refl _, Nat.le_of_lt hi, hi, hx.l, hx.go, isBl_no h1 h2, h3, h4, fun j hj1 hj2 => absurd hj2 (Nat.not_lt.2 hj1)⟩
theorem stepI {s : B} {g : Nat} {x : RI} (hx : PI s g x) (hi : x.i < s.length) (h1 : s.getD x.i 0 ≠ 32) (h2 : s.getD x.i 0 ≠ 9) (h4 : s.getD x.i 0 ≠ 34) : PI s g ⟨x.p, x.i + 1, x.l⟩ :=
  ⟨hx.g, Nat.le_succ_of_le hx.p, hi, hx.q, hx.l, hx.go, hx.b, hx.h, hx.qu, fun j hj1 hj2 => by
    have hj2 : j < x.i + 1 := hj2
    by_cases hj : j = x.i
    · rw [hj]; exact ⟨nonBl_iff.2 ⟨h1, h2⟩, h4⟩
    · exact hx.all j hj1 (by omega)⟩
theorem takeI {c : UInt8} {r : B} (h : isBl c = false) : c :: r.takeWhile nonBl = (c :: r).takeWhile nonBl ∧ r.dropWhile nonBl = (c :: r).dropWhile nonBl := by
  rw [List.takeWhile_cons, List.dropWhile_cons, plain_iff h]; exact ⟨rfl, rfl⟩
theorem oddI {s : B} {g : Nat} {x : RI} (hx : PI s g x) (hi : x.i < s.length) (h : s.getD x.i 0 = 34) : lineM s = none := by
  have hp := hx.p
  rw [hx.go, drop_cons hx.q]
  refine wordR_odd _ hx.b hx.h hx.qu ?_
  rw [(takeI hx.b).1, ← drop_cons hx.q]
  refine contains_at (m := x.i - x.p) (by simp; omega) (fun j hj => ?_) ?_
  · rw [getD_drop]; exact (hx.all _ (by omega) (by omega)).1
  · rw [getD_drop, show x.p + (x.i - x.p) = x.i by omega]; exact h
theorem lastI {s : B} {g : Nat} {x : RI} (hx : PI s g x) (hb : x.i < s.length → isBl (s.getD x.i 0) = true) : x.p < x.i ∧ PW s ⟨x.i, x.l ++ [List.drop x.p (List.take x.i s)]⟩ := by
  have hp := hx.p
  have hlt : x.p < x.i := by
    rcases Nat.lt_or_eq_of_le hp with h | h
    · exact h
    · have h1 := hb (by rw [← h]; exact hx.q)
      rw [← h, hx.b] at h1; cases h1
  refine ⟨hlt, hx.i, ?_, ?_⟩
  · show (x.l ++ [_]).length ≤ x.i
    have := hx.l
    simp; omega
  · have hm : x.i - x.p ≤ (s.drop x.p).length := by have := hx.i; simp; omega
    have ht := takeW_at (p := nonBl) (l := s.drop x.p) (m := x.i - x.p) hm
      (fun j hj => by rw [getD_drop]; exact (hx.all _ (by omega) (by omega)).1)
      (by
        rcases Nat.lt_or_ge x.i s.length with h | h
        · refine .inr ?_
          rw [getD_drop, show x.p + (x.i - x.p) = x.i by omega]
          have := hb h
          unfold nonBl; unfold isBl at this; rw [this]; rfl
        · exact .inl (by have := hx.i; simp; omega))
    have hd : List.drop x.p (List.take x.i s) = List.take (x.i - x.p) (s.drop x.p) := List.drop_take
    have hc := takeI (c := s.getD x.p 0) (r := s.drop (x.p + 1)) hx.b
    rw [← drop_cons hx.q, ht.1, ht.2, List.drop_drop, show x.p + (x.i - x.p) = x.i by omega] at hc
    rw [hx.go, drop_cons hx.q, wordR_word _ hx.b hx.h hx.qu ?_, hc.1, hc.2, ← hd]
    rw [hc.1]
    refine contains_no (fun j hj => ?_)
    have hj : j < x.i - x.p := by have := List.length_take_le (x.i - x.p) (s.drop x.p); omega
    have e : (List.take (x.i - x.p) (s.drop x.p)).getD j 0 = s.getD (x.p + j) 0 := by
      rw [← getD_drop]; simp only [List.getD, List.getElem?_take]; rw [if_pos hj]
    rw [e]
    exact (hx.all _ (by omega) (by omega)).2
/-! ### The walks -/
theorem grow_s {n : Nat} (h : n ≤ 100000000) : (((n + 1) * 16).ble 140737488355328 && (n + 1).ble 9223372036854775807 && true && true && (0 + n).ble n) = true := by
  simp only [Bool.and_eq_true]
  exact ⟨⟨⟨⟨Nat.ble_eq_true_of_le (by omega), Nat.ble_eq_true_of_le (by omega)⟩, trivial⟩, trivial⟩, by rw [Nat.zero_add]; exact Nat.ble_eq_true_of_le (Nat.le_refl _)⟩
theorem beq_s (n : Nat) : Nat.beq (0 + n) n = true := by rw [Nat.zero_add]; exact Nat.beq_refl _
theorem ble_s (n : Nat) : (Nat.ble (0 + n) n && true) = true := by rw [Nat.zero_add, Bool.and_true]; exact Nat.ble_eq_true_of_le (Nat.le_refl _)
theorem whole_s (l : List B) : List.drop 0 (List.take (0 + l.length) l) = l := by rw [Nat.zero_add, List.take_length, List.drop_zero]
theorem snoc_s (l : List B) (w : B) : List.take l.length (List.drop 0 l) ++ [w] = l ++ [w] := by rw [List.drop_zero, List.take_length]
theorem okW (s : B) (hp : (SB sm sW).pre s = true) : Owes eQ 6 (SB sm sW) AW (LW s) noJ 0 s := by
  refine Owes.mk ?_
  rw [vW]
  have hs := sm_le (s := s) hp
  refine ⟨⟨⟨⟨0, []⟩, Nat.zero_le _, Nat.le_refl _, rfl⟩, ⟨rfl, ⟨rfl, rfl, Nat.le_refl _⟩, rfl, trivial⟩, rfl, trivial⟩, fun x => ?_⟩
  have hx := x.2
  have x1 := hx.i
  have x2 := hx.l
  have e1 : ((x.1.i : Int)).toNat = x.1.i := by simp
  have e3 : ((s.length : Int)).toNat = s.length := by simp
  have w1 : IntKind.i64.wrap ((x.1.i : Int) + 1) = ((x.1.i + 1 : Nat) : Int) := by rw [wrap_id] <;> omega
  have n1 : (((x.1.i + 1 : Nat) : Int)).toNat = x.1.i + 1 := Int.toNat_natCast _
  rw [e1, e3, w1, n1, List.take_length]
  refine br (fun hlt => ?_) (fun hge => ?_)
  · have hlt : x.1.i < s.length := by simpa using hlt
    have lt0 : decide ((x.1.i : Int) < (s.length : Int)) = true := dT (by omega)
    have step : isBl (s.getD x.1.i 0) = true → ∃ x' : { x : RW' // PW s x }, s.length - x'.1.i < s.length - x.1.i ∧ (s = s ∧ ((0 : Nat) = 0 ∧ x'.1.l.length = x.1.l.length ∧ Nat.le 0 0) ∧ (x'.1.i : Int) = ((x.1.i + 1 : Nat) : Int) ∧ True) ∧ oS x'.1.l = oS x.1.l ∧ True := fun h =>
      ⟨⟨_, blkW hx hlt h⟩, by show s.length - (x.1.i + 1) < _; omega, ⟨rfl, ⟨rfl, rfl, Nat.le_refl _⟩, rfl, trivial⟩, rfl, trivial⟩
    refine brT lt0 (br (fun h => ?_) (fun h => ?_))
    · exact step (isBl_iff.2 (.inl (is_byte (c := 32) (by decide) h)))
    have h32 : s.getD x.1.i 0 ≠ 32 := isnt_byte (c := 32) (by decide) h
    refine brT lt0 (br (fun h => ?_) (fun h => ?_))
    · exact step (isBl_iff.2 (.inr (is_byte (c := 9) (by decide) h)))
    have h9 : s.getD x.1.i 0 ≠ 9 := isnt_byte (c := 9) (by decide) h
    refine brT lt0 (br (fun h => ?_) (fun h => ?_))
    · have h : s.getD x.1.i 0 = 35 := is_byte (c := 35) (by decide) h
      refine brT (ble_s _) ?_
      rw [hashW hx hlt h, whole_s]
      exact brT rfl ⟨⟨rfl, rfl, trivial⟩, trivial⟩
    have h35 : s.getD x.1.i 0 ≠ 35 := isnt_byte (c := 35) (by decide) h
    refine brT lt0 (br (fun h => ?_) (fun h => ?_))
    · have h : s.getD x.1.i 0 = 34 := is_byte (c := 34) (by decide) h
      refine brT (by simp; omega) (brT (Nat.ble_eq_true_of_le (by simp; omega)) ?_)
      cases hq : quotedM (s.drop (x.1.i + 1)) with
      | none =>
        rw [quotV_none hq, badW hx hlt h hq]
        exact brT rfl (brF rfl ⟨⟨rfl, rfl, trivial⟩, trivial⟩)
      | some p =>
        obtain ⟨w, n⟩ := p
        have hle := quotedM_le hq
        simp only [List.length_drop] at hle
        have q1 : (quotV (s.drop (x.1.i + 1))).1 = w := by rw [quotV_some hq]
        have q2 : (quotV (s.drop (x.1.i + 1))).2.1 = (n : Int) := by rw [quotV_some hq]
        have q3 : (quotV (s.drop (x.1.i + 1))).2.2 = true := by rw [quotV_some hq]
        rw [q3, q2, q1]
        have w2 : IntKind.i64.wrap ((x.1.i : Int) + IntKind.i64.wrap (1 + (n : Int))) = ((x.1.i + 1 + n : Nat) : Int) := by
          rw [wrap_id (n := 1 + (n : Int)) (by omega) (by omega), wrap_id (by omega) (by omega)]; omega
        have n2 : (((x.1.i + 1 + n : Nat) : Int)).toNat = x.1.i + 1 + n := Int.toNat_natCast _
        rw [w2, n2]
        refine brF rfl ?_
        have good : (x.1.i + 1 + n < s.length → isBl (s.getD (x.1.i + 1 + n) 0) = true) → branch (Nat.beq (0 + x.1.l.length) x.1.l.length) (branch (((x.1.l.length + 1) * 16).ble 140737488355328 && (x.1.l.length + 1).ble 9223372036854775807 && true && true && (0 + x.1.l.length).ble x.1.l.length)
            (∃ x' : { x : RW' // PW s x }, s.length - x'.1.i < s.length - x.1.i ∧ (s = s ∧ ((0 : Nat) = 0 ∧ x'.1.l.length = x.1.l.length + 1 ∧ Nat.le 0 (x.1.l.length + 1)) ∧ (x'.1.i : Int) = ((x.1.i + 1 + n : Nat) : Int) ∧ True) ∧ oS x'.1.l = oS (List.take x.1.l.length (List.drop 0 x.1.l) ++ [w]) ∧ True) False) False := fun hb =>
          brT (beq_s _) (brT (grow_s (by omega)) ⟨⟨_, quoW hx hlt h hq hb⟩, by show s.length - (x.1.i + 1 + n) < _; omega, ⟨rfl, ⟨rfl, by simp, Nat.zero_le _⟩, rfl, trivial⟩, congrArg oS (snoc_s _ _).symm, trivial⟩)
        refine br (fun h1 => ?_) (fun h1 => ?_)
        · have h1 : x.1.i + 1 + n < s.length := by have := of_decide_eq_true h1; omega
          have b1 : (decide ((0 : Int) ≤ ((x.1.i + 1 + n : Nat) : Int)) && decide (((x.1.i + 1 + n : Nat) : Int) < (s.length : Int))) = true := by simp; omega
          refine brT b1 (br (fun h2 => ?_) (fun h2 => ?_))
          · have h2 : s.getD (x.1.i + 1 + n) 0 ≠ 32 := isn_byte (c := 32) (by decide) h2
            refine brT b1 (br (fun h3 => ?_) (fun h3 => ?_))
            · have h3 : s.getD (x.1.i + 1 + n) 0 ≠ 9 := isn_byte (c := 9) (by decide) h3
              rw [gluedW hx hlt h hq h1 h2 h3]
              exact brF rfl ⟨⟨rfl, rfl, trivial⟩, trivial⟩
            · have h3 : s.getD (x.1.i + 1 + n) 0 = 9 := isn_byte' (c := 9) (by decide) h3
              exact good (fun _ => isBl_iff.2 (.inr h3))
          · have h2 : s.getD (x.1.i + 1 + n) 0 = 32 := isn_byte' (c := 32) (by decide) h2
            exact good (fun _ => isBl_iff.2 (.inl h2))
        · have h1 : ¬ x.1.i + 1 + n < s.length := by have := of_decide_eq_false h1; omega
          exact good (fun h => absurd h h1)
    have h34 : s.getD x.1.i 0 ≠ 34 := isnt_byte (c := 34) (by decide) h
    refine ⟨⟨⟨_, startI hx (Nat.le_refl _) hlt h32 h9 h35 h34⟩, ⟨rfl, ⟨rfl, rfl, Nat.le_refl _⟩, rfl, rfl, trivial⟩, rfl, trivial⟩, fun y => ?_⟩
    have hy := y.2
    have y1 := hy.i
    have y2 := hy.l
    have y3 := hy.p
    have y4 := hy.g
    have e4 : ((y.1.i : Int)).toNat = y.1.i := by simp
    have e5 : ((y.1.p : Int)).toNat = y.1.p := by simp
    have w4 : IntKind.i64.wrap ((y.1.i : Int) + 1) = ((y.1.i + 1 : Nat) : Int) := by rw [wrap_id] <;> omega
    rw [e4, e5, w4]
    have fin : (y.1.i < s.length → isBl (s.getD y.1.i 0) = true) → branch (decide ((y.1.p : Int) ≤ (y.1.i : Int)) && decide ((y.1.i : Int) ≤ (s.length : Int))) (branch ((0 + y.1.l.length).beq y.1.l.length) (branch (((y.1.l.length + 1) * 16).ble 140737488355328 && (y.1.l.length + 1).ble 9223372036854775807 && true && true && (0 + y.1.l.length).ble y.1.l.length)
        (∃ x' : { x : RW' // PW s x }, s.length - x'.1.i < s.length - x.1.i ∧ (s = s ∧ ((0 : Nat) = 0 ∧ x'.1.l.length = y.1.l.length + 1 ∧ Nat.le 0 (y.1.l.length + 1)) ∧ (x'.1.i : Int) = (y.1.i : Int) ∧ True) ∧ oS x'.1.l = oS (List.take y.1.l.length (List.drop 0 y.1.l) ++ [List.drop y.1.p (List.take y.1.i s)]) ∧ True) False) False) False := fun hb => by
      obtain ⟨hlt', hP⟩ := lastI hy hb
      exact brT (by simp; omega) (brT (beq_s _) (brT (grow_s (by omega)) ⟨⟨_, hP⟩, by show s.length - y.1.i < _; omega, ⟨rfl, ⟨rfl, by simp, Nat.zero_le _⟩, rfl, trivial⟩, congrArg oS (snoc_s _ _).symm, trivial⟩))
    refine br (fun g1 => ?_) (fun g1 => ?_)
    · have g1 : y.1.i < s.length := by simpa using g1
      have lt1 : decide ((y.1.i : Int) < (s.length : Int)) = true := dT (by omega)
      refine brT lt1 (br (fun g2 => ?_) (fun g2 => ?_))
      · have g2 : s.getD y.1.i 0 ≠ 32 := isn_byte (c := 32) (by decide) g2
        refine brT lt1 (br (fun g3 => ?_) (fun g3 => ?_))
        · have g3 : s.getD y.1.i 0 ≠ 9 := isn_byte (c := 9) (by decide) g3
          refine brT lt1 (br (fun g4 => ?_) (fun g4 => ?_))
          · have g4 : s.getD y.1.i 0 = 34 := is_byte (c := 34) (by decide) g4
            rw [oddI hy g1 g4]
            exact brF rfl ⟨⟨rfl, rfl, trivial⟩, trivial⟩
          · have g4 : s.getD y.1.i 0 ≠ 34 := isnt_byte (c := 34) (by decide) g4
            exact ⟨⟨_, stepI hy g1 g2 g3 g4⟩, by show s.length - (y.1.i + 1) < _; omega, ⟨rfl, ⟨rfl, rfl, Nat.le_refl _⟩, rfl, rfl, trivial⟩, rfl, trivial⟩
        · have g3 : s.getD y.1.i 0 = 9 := isn_byte' (c := 9) (by decide) g3
          exact fin (fun _ => isBl_iff.2 (.inr g3))
      · have g2 : s.getD y.1.i 0 = 32 := isn_byte' (c := 32) (by decide) g2
        exact fin (fun _ => isBl_iff.2 (.inl g2))
    · have g1 : ¬ y.1.i < s.length := by simpa using g1
      exact fin (fun h => absurd h g1)
  · have hge : ¬ x.1.i < s.length := by simpa using hge
    refine brT (ble_s _) ?_
    rw [endW hx hge, whole_s]
    exact brT rfl ⟨⟨rfl, rfl, trivial⟩, trivial⟩
theorem kW : SpecOk Tryz.prog 6 (SB sm sW) := spec_loop eQ_sound (by kernel_rfl) (fun _ => AW) LW (fun _ => noJ) (fun _ => 0) okW
theorem aW : RowOK 6 ((SB sm sW).con (MB sm sW)) := Spec.con_ok kW (MB sm sW) (fun _ => Nat.le_of_ble_eq_true rfl)
end Go.Proofs.YtebdbhekdadhbaaGreatDoor
