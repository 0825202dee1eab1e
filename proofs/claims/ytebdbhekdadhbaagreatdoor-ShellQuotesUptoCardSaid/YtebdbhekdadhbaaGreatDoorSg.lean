/- A line's words, as the document reads them: the contract holds. No conditions. -/
import Derived.Test.YtebdbhekdadhbaaGreatDoorSf
namespace Go.Proofs.YtebdbhekdadhbaaGreatDoor
open Go Go.W
set_option maxRecDepth 100000
theorem PV.w {s : B} {g : Nat} {x : RW'} (h : PV s g x) : PW s x := ⟨h.i, h.l, h.go⟩
theorem okV (s : B) (hp : (SB sm sW).pre s = true) : Owes eR 7 (SB sm sW) AW (LV s) noJ none s := by
  refine Owes.mk ?_
  rw [vV]
  have hs := sm_le (s := s) hp
  refine ⟨⟨⟨⟨0, []⟩, Nat.zero_le _, Nat.le_refl _, rfl⟩, ⟨rfl, ⟨rfl, rfl, Nat.le_refl _⟩, rfl, trivial⟩, rfl, trivial⟩, fun z => ?_⟩
  have hz := z.2
  refine ⟨⟨⟨z.1, Nat.le_refl _, hz.i, hz.l, hz.go⟩, ⟨rfl, ⟨rfl, rfl, Nat.le_refl _⟩, rfl, trivial⟩, rfl, trivial⟩, fun x => ?_⟩
  have hx := x.2.w
  have x1 := hx.i
  have x2 := hx.l
  have x3 : z.1.i ≤ x.1.i := x.2.g
  have e1 : ((x.1.i : Int)).toNat = x.1.i := by simp
  have w1 : IntKind.i64.wrap ((x.1.i : Int) + 1) = ((x.1.i + 1 : Nat) : Int) := by rw [wrap_id] <;> omega
  rw [e1, w1]
  refine br (fun hlt => ?_) (fun hge => ?_)
  · have hlt : x.1.i < s.length := by simpa using hlt
    have lt0 : decide ((x.1.i : Int) < (s.length : Int)) = true := dT (by omega)
    have step : isBl (s.getD x.1.i 0) = true → ∃ x' : { y : RW' // PV s z.1.i y }, s.length - x'.1.i < s.length - x.1.i ∧ (s = s ∧ ((0 : Nat) = 0 ∧ x'.1.l.length = x.1.l.length ∧ Nat.le 0 0) ∧ (x'.1.i : Int) = ((x.1.i + 1 : Nat) : Int) ∧ True) ∧ oS x'.1.l = oS x.1.l ∧ True := fun h =>
      have hb := blkW hx hlt h
      ⟨⟨⟨x.1.i + 1, x.1.l⟩, Nat.le_succ_of_le x3, hb.i, hb.l, hb.go⟩, by show s.length - (x.1.i + 1) < _; omega, ⟨rfl, ⟨rfl, rfl, Nat.le_refl _⟩, rfl, trivial⟩, rfl, trivial⟩
    refine brT lt0 (br (fun h => ?_) (fun h => ?_))
    · exact step (isBl_iff.2 (.inl (is_byte (c := 32) (by decide) h)))
    have h32 : s.getD x.1.i 0 ≠ 32 := isnt_byte (c := 32) (by decide) h
    refine brT lt0 (br (fun h => ?_) (fun h => ?_))
    · exact step (isBl_iff.2 (.inr (is_byte (c := 9) (by decide) h)))
    have h9 : s.getD x.1.i 0 ≠ 9 := isnt_byte (c := 9) (by decide) h
    refine brF (dF (by omega)) (brT lt0 (br (fun h => ?_) (fun h => ?_)))
    · have h : s.getD x.1.i 0 = 35 := is_byte (c := 35) (by decide) h
      refine brT (ble_s _) ?_
      rw [hashW hx hlt h, whole_s]
      exact brT rfl ⟨⟨rfl, rfl, trivial⟩, trivial⟩
    have h35 : s.getD x.1.i 0 ≠ 35 := isnt_byte (c := 35) (by decide) h
    refine brT lt0 (br (fun h => ?_) (fun h => ?_))
    · have h : s.getD x.1.i 0 = 34 := is_byte (c := 34) (by decide) h
      refine brT ?_ ?_
      · show (sm s && Nat.blt x.1.i s.length) = true
        rw [Bool.and_eq_true]; exact ⟨hp, Nat.ble_eq_true_of_le hlt⟩
      cases hq : quotedM (s.drop (x.1.i + 1)) with
      | none =>
        rw [quotW_none hq, badW hx hlt h hq]
        exact brT rfl (brF rfl ⟨⟨rfl, rfl, trivial⟩, trivial⟩)
      | some p =>
        obtain ⟨w, n⟩ := p
        have hle := quotedM_le hq
        simp only [List.length_drop] at hle
        have q1 : (quotW s x.1.i).1 = w := by rw [quotW_some hq]
        have q2 : (quotW s x.1.i).2 = ((x.1.i + 1 + n : Nat) : Int) := by rw [quotW_some hq]
        have n2 : (((x.1.i + 1 + n : Nat) : Int)).toNat = x.1.i + 1 + n := Int.toNat_natCast _
        rw [q1, q2, n2]
        have good : (x.1.i + 1 + n < s.length → isBl (s.getD (x.1.i + 1 + n) 0) = true) → branch (Nat.beq (0 + x.1.l.length) x.1.l.length) (branch (((x.1.l.length + 1) * 16).ble 140737488355328 && (x.1.l.length + 1).ble 9223372036854775807 && true && true && (0 + x.1.l.length).ble x.1.l.length)
            (∃ x' : { x : RW' // PW s x }, s.length - x'.1.i < s.length - z.1.i ∧ (s = s ∧ ((0 : Nat) = 0 ∧ x'.1.l.length = x.1.l.length + 1 ∧ Nat.le 0 (x.1.l.length + 1)) ∧ (x'.1.i : Int) = ((x.1.i + 1 + n : Nat) : Int) ∧ True) ∧ oS x'.1.l = oS (List.take x.1.l.length (List.drop 0 x.1.l) ++ [w]) ∧ True) False) False := fun hb =>
          brT (beq_s _) (brT (grow_s (by omega)) ⟨⟨_, quoW hx hlt h hq hb⟩, by show s.length - (x.1.i + 1 + n) < _; omega, ⟨rfl, ⟨rfl, by simp, Nat.zero_le _⟩, rfl, trivial⟩, congrArg oS (snoc_s _ _).symm, trivial⟩)
        refine brF (dF (by omega)) (br (fun h1 => ?_) (fun h1 => ?_))
        · have h1 : x.1.i + 1 + n < s.length := by have := of_decide_eq_true h1; omega
          have b1 : (decide ((0 : Int) ≤ ((x.1.i + 1 + n : Nat) : Int)) && decide (((x.1.i + 1 + n : Nat) : Int) < (s.length : Int))) = true := by simp; omega
          refine brT b1 (br (fun h2 => ?_) (fun h2 => ?_))
          · have h2 : s.getD (x.1.i + 1 + n) 0 ≠ 32 := isn_byte (c := 32) (by decide) h2
            refine brT b1 (br (fun h3 => ?_) (fun h3 => ?_))
            · have h3 : s.getD (x.1.i + 1 + n) 0 ≠ 9 := isn_byte (c := 9) (by decide) h3
              rw [gluedW hx hlt h hq h1 h2 h3]
              exact brF rfl ⟨⟨rfl, rfl, trivial⟩, trivial⟩
            · have h3 : s.getD (x.1.i + 1 + n) 0 = 9 := isn_byte' (c := 9) (by decide) h3
              exact good (fun _ => isBl_iff.2 (.inr h3))
          · have h2 : s.getD (x.1.i + 1 + n) 0 = 32 := isn_byte' (c := 32) (by decide) h2
            exact good (fun _ => isBl_iff.2 (.inl h2))
        · have h1 : ¬ x.1.i + 1 + n < s.length := by have := of_decide_eq_false h1; omega
          exact good (fun h => absurd h h1)
    have h34 : s.getD x.1.i 0 ≠ 34 := isnt_byte (c := 34) (by decide) h
    refine ⟨⟨⟨_, startI hx (show (some z.1.i).getD 0 ≤ x.1.i from x3) hlt h32 h9 h35 h34⟩, ⟨rfl, ⟨rfl, rfl, Nat.le_refl _⟩, rfl, rfl, trivial⟩, rfl, trivial⟩, fun y => ?_⟩
    have hy := y.2
    have y1 := hy.i
    have y2 := hy.l
    have y3 := hy.p
    have y4 : z.1.i ≤ y.1.p := hy.g
    have e4 : ((y.1.i : Int)).toNat = y.1.i := by simp
    have e5 : ((y.1.p : Int)).toNat = y.1.p := by simp
    have w4 : IntKind.i64.wrap ((y.1.i : Int) + 1) = ((y.1.i + 1 : Nat) : Int) := by rw [wrap_id] <;> omega
    rw [e4, e5, w4]
    have fin : (y.1.i < s.length → isBl (s.getD y.1.i 0) = true) → branch (decide ((y.1.p : Int) ≤ (y.1.i : Int)) && decide ((y.1.i : Int) ≤ (s.length : Int))) (branch ((0 + y.1.l.length).beq y.1.l.length) (branch (((y.1.l.length + 1) * 16).ble 140737488355328 && (y.1.l.length + 1).ble 9223372036854775807 && true && true && (0 + y.1.l.length).ble y.1.l.length)
        (∃ x' : { x : RW' // PW s x }, s.length - x'.1.i < s.length - z.1.i ∧ (s = s ∧ ((0 : Nat) = 0 ∧ x'.1.l.length = y.1.l.length + 1 ∧ Nat.le 0 (y.1.l.length + 1)) ∧ (x'.1.i : Int) = (y.1.i : Int) ∧ True) ∧ oS x'.1.l = oS (List.take y.1.l.length (List.drop 0 y.1.l) ++ [List.drop y.1.p (List.take y.1.i s)]) ∧ True) False) False) False := fun hb => by
      obtain ⟨hlt', hP⟩ := lastI hy hb
      exact brT (by simp; omega) (brT (beq_s _) (brT (grow_s (by omega)) ⟨⟨_, hP⟩, by show s.length - y.1.i < _; omega, ⟨rfl, ⟨rfl, by simp, Nat.zero_le _⟩, rfl, trivial⟩, congrArg oS (snoc_s _ _).symm, trivial⟩))
    refine br (fun g1 => ?_) (fun g1 => ?_)
    · have g1 : y.1.i < s.length := by simpa using g1
      have lt1 : decide ((y.1.i : Int) < (s.length : Int)) = true := dT (by omega)
      refine brT lt1 (br (fun g2 => ?_) (fun g2 => ?_))
      · have g2 : s.getD y.1.i 0 ≠ 32 := isn_byte (c := 32) (by decide) g2
        refine brT lt1 (br (fun g3 => ?_) (fun g3 => ?_))
        · have g3 : s.getD y.1.i 0 ≠ 9 := isn_byte (c := 9) (by decide) g3
          refine brT lt1 (br (fun g4 => ?_) (fun g4 => ?_))
          · have g4 : s.getD y.1.i 0 = 34 := is_byte (c := 34) (by decide) g4
            rw [oddI hy g1 g4]
            exact brF rfl ⟨⟨rfl, rfl, trivial⟩, trivial⟩
          · have g4 : s.getD y.1.i 0 ≠ 34 := isnt_byte (c := 34) (by decide) g4
            exact ⟨⟨_, stepI hy g1 g2 g3 g4⟩, by show s.length - (y.1.i + 1) < _; omega, ⟨rfl, ⟨rfl, rfl, Nat.le_refl _⟩, rfl, rfl, trivial⟩, rfl, trivial⟩
        · have g3 : s.getD y.1.i 0 = 9 := isn_byte' (c := 9) (by decide) g3
          exact fin (fun _ => isBl_iff.2 (.inr g3))
      · have g2 : s.getD y.1.i 0 = 32 := isn_byte' (c := 32) (by decide) g2
        exact fin (fun _ => isBl_iff.2 (.inl g2))
    · have g1 : ¬ y.1.i < s.length := by simpa using g1
      exact fin (fun h => absurd h g1)
  · have hge : ¬ x.1.i < s.length := by simpa using hge
    refine brT (dT (by omega)) (brT (ble_s _) ?_)
    rw [endW hx hge, whole_s]
    exact brT rfl ⟨⟨rfl, rfl, trivial⟩, trivial⟩
theorem kV : SpecOk Tryz.prog 7 (SB sm sW) := spec_loop eR_sound (by kernel_rfl) (fun _ => AW) LV (fun _ => noJ) (fun _ => none) okV
theorem aV : RowOK 7 ((SB sm sW).con (MB sm sW)) := Spec.con_ok kV (MB sm sW) (fun _ => Nat.le_of_ble_eq_true rfl)
end Go.Proofs.YtebdbhekdadhbaaGreatDoor
