/- Bytes as one word, as the program and as the document write them: their contracts hold. No conditions. -/
import Derived.Test.YtebdbhekdadhbaaGreatDoorSg
namespace Go.Proofs.YtebdbhekdadhbaaGreatDoor
open Go Go.W
set_option maxRecDepth 100000
theorem hexS_D (n : Nat) : hexS.getD n 0 = hexD n := rfl
theorem nib_hi (c : UInt8) : Int.fdiv (c.toNat : Int) (2 ^ 4) = ((c.toNat / 16 : Nat) : Int) :=
  beq_iff_eq.1 (all_bytes (p := fun c => Int.fdiv (c.toNat : Int) (2 ^ 4) == ((c.toNat / 16 : Nat) : Int)) (by kernel_rfl) c)
theorem nib_lo (c : UInt8) : IntKind.u8.wrap ((BitVec.ofInt 8 (c.toNat : Int) &&& BitVec.ofInt 8 15).toNat : Int) = ((c.toNat % 16 : Nat) : Int) :=
  beq_iff_eq.1 (all_bytes (p := fun c => IntKind.u8.wrap ((BitVec.ofInt 8 (c.toNat : Int) &&& BitVec.ofInt 8 15).toNat : Int) == ((c.toNat % 16 : Nat) : Int)) (by kernel_rfl) c)
theorem up_app (b d : B) : up (b ++ d) = List.take b.length (List.drop 0 (up b)) ++ up d := by
  rw [List.drop_zero, ← up_len b, List.take_length]
  simp [up]
theorem outU_succ {b : B} {i : Nat} (h : i < b.length) : outU b (i + 1) = outU b i ++ qb (b.getD i 0) := by
  rw [outU_eq, outU_eq, List.take_succ_eq_append_getElem h, qbs_snoc]
  have : b[i] = b.getD i 0 := by simp [List.getD, h]
  rw [this]; rfl
theorem outU_len (b : B) (i : Nat) : (outU b i).length ≤ 4 * b.length + 1 := by
  rw [outU_eq]
  have h1 := qbs_len (b.take i)
  have h2 : (b.take i).length ≤ b.length := by simp; omega
  simp; omega
theorem quote_out (b : B) : quoteT b = outU b b.length ++ [34] := by
  rw [quoteT_eq, outU_eq, List.take_length]; rfl
/-- The cases of a byte. -/
theorem qb_esc {c : UInt8} (h : c = 92 ∨ c = 34) : qb c = [92, c] := by rcases h with rfl | rfl <;> rfl
theorem qb_hex {c : UInt8} (h1 : c ≠ 92) (h2 : c ≠ 34) (h3 : c ≠ 10) (h4 : c ≠ 9) (h5 : c.toNat < 32 ∨ 126 < c.toNat) : qb c = [92, 120, hexD (c.toNat / 16), hexD (c.toNat % 16)] := by
  unfold qb
  rw [beq_eq_false_iff_ne.2 h1, beq_eq_false_iff_ne.2 h2, beq_eq_false_iff_ne.2 h3, beq_eq_false_iff_ne.2 h4]
  have : (Nat.blt c.toNat 32 || Nat.blt 126 c.toNat) = true := by
    rw [Bool.or_eq_true]
    exact h5.elim (fun h => .inl (Nat.ble_eq_true_of_le h)) (fun h => .inr (Nat.ble_eq_true_of_le h))
  rw [this]; rfl
theorem qb_one {c : UInt8} (h1 : c ≠ 92) (h2 : c ≠ 34) (h3 : c ≠ 10) (h4 : c ≠ 9) (h5 : ¬ c.toNat < 32) (h6 : ¬ 126 < c.toNat) : qb c = [c] := by
  unfold qb
  rw [beq_eq_false_iff_ne.2 h1, beq_eq_false_iff_ne.2 h2, beq_eq_false_iff_ne.2 h3, beq_eq_false_iff_ne.2 h4]
  have : (Nat.blt c.toNat 32 || Nat.blt 126 c.toNat) = false := by
    rw [Bool.or_eq_false_iff]
    exact ⟨by rw [← Bool.not_eq_true]; exact fun e => h5 (Nat.le_of_ble_eq_true e), by rw [← Bool.not_eq_true]; exact fun e => h6 (Nat.le_of_ble_eq_true e)⟩
  rw [this]; rfl
theorem finU {s : List Int} {x : { i : Nat // i ≤ s.length }} (hlt : x.1 < s.length) {bs : B} {VL : List Int} {k : Nat} (h : qb ((dn s).getD x.1 0) = bs) (hv : up bs = VL) (hk : bs.length = k) :
    ∃ x' : { i : Nat // i ≤ s.length }, s.length - x'.1 < s.length - x.1 ∧ (((0 : Nat) = 0 ∧ (outU (dn s) x'.1).length = (outU (dn s) x.1).length + k ∧ Nat.le 0 ((outU (dn s) x.1).length + k)) ∧ dB s = dB s ∧ (s.length : Int) = (s.length : Int) ∧ (x'.1 : Int) = ((x.1 + 1 : Nat) : Int) ∧ True) ∧
      oB (up (outU (dn s) x'.1)) = oB (List.take (outU (dn s) x.1).length (List.drop 0 (up (outU (dn s) x.1))) ++ VL) ∧ True := by
  have he : outU (dn s) (x.1 + 1) = outU (dn s) x.1 ++ bs := by rw [outU_succ (by rw [dn_len]; exact hlt), h]
  refine ⟨⟨x.1 + 1, hlt⟩, by show s.length - (x.1 + 1) < _; omega, ⟨⟨rfl, ?_, Nat.zero_le _⟩, rfl, rfl, rfl, trivial⟩, ?_, trivial⟩
  · show (outU (dn s) (x.1 + 1)).length = _
    rw [he, List.length_append, hk]
  · show oB (up (outU (dn s) (x.1 + 1))) = _
    rw [he, up_app, hv]
theorem finX {s : List Int} {x : { i : Nat // i ≤ s.length }} (hlt : x.1 < s.length) {bs : B} {VL : List Int} {k : Nat} (h : qb ((dn s).getD x.1 0) = bs) (hv : up bs = VL) (hk : bs.length = k) :
    ∃ x' : { i : Nat // i ≤ s.length }, s.length - x'.1 < s.length - x.1 ∧ (dB s = dB s ∧ hexS = hexS ∧ ((0 : Nat) = 0 ∧ (outU (dn s) x'.1).length = (outU (dn s) x.1).length + k ∧ Nat.le 0 ((outU (dn s) x.1).length + k)) ∧ (x'.1 : Int) = ((x.1 + 1 : Nat) : Int) ∧ True) ∧
      oB (up (outU (dn s) x'.1)) = oB (List.take (outU (dn s) x.1).length (List.drop 0 (up (outU (dn s) x.1))) ++ VL) ∧ True := by
  obtain ⟨x', h1, ⟨h2, _, _, h3, _⟩, h4, _⟩ := finU hlt h hv hk
  exact ⟨x', h1, ⟨rfl, rfl, h2, h3, trivial⟩, h4, trivial⟩
theorem okU (s : List Int) (hp : (SD smq sU).pre s = true) : OwesN e0 8 (SD smq sU) noA (LU s) noJ 0 s := by
  refine OwesN.mk ?_
  rw [vU]
  obtain ⟨hs, hb⟩ := smq_le (s := s) hp
  have hdn : s = up (dn s) := by obtain ⟨b, rfl⟩ := hb; rw [dn_up]
  have h0 : outU (dn s) 0 = [34] := by rw [outU_eq]; rfl
  refine ⟨⟨⟨0, Nat.zero_le _⟩, ⟨⟨rfl, congrArg List.length h0, Nat.zero_le _⟩, rfl, rfl, rfl, trivial⟩, congrArg (fun l => oB (up l)) h0, trivial⟩, fun x => ?_⟩
  have x1 := x.2
  have hol := outU_len (dn s) x.1
  rw [dn_len] at hol
  have e1 : ((x.1 : Int)).toNat = x.1 := by simp
  have w1 : IntKind.i64.wrap ((x.1 : Int) + 1) = ((x.1 + 1 : Nat) : Int) := by rw [wrap_id] <;> omega
  have hg : ∀ i : Nat, s.getD i 0 = (((dn s).getD i 0).toNat : Int) := fun i => by
    conv => lhs; rw [hdn]
    exact up_get _ _
  have hc := hg x.1
  rw [e1, w1, hc, nib_hi, nib_lo]
  have n1 : ∀ n : Nat, ((n : Int)).toNat = n := Int.toNat_natCast
  rw [n1, n1, hexS_D, hexS_D]
  refine br (fun hlt => ?_) (fun hge => ?_)
  · have hlt : x.1 < s.length := by simpa using hlt
    have fin := fun {bs : B} {VL : List Int} {k : Nat} => finU (s := s) (x := x) hlt (bs := bs) (VL := VL) (k := k)
    generalize (dn s).getD x.1 0 = c at fin ⊢
    have hc8 : c.toNat < 256 := UInt8.toNat_lt c
    refine brT (by simp; omega) (br (fun h => ?_) (fun h => ?_))
    · exact brT (beq_up _) (brT (grow_up (by omega)) (fin (qb_esc (.inl (is_byte (c := 92) (by decide) h))) rfl rfl))
    have h1 : c ≠ 92 := isnt_byte (c := 92) (by decide) h
    refine br (fun h => ?_) (fun h => ?_)
    · exact brT (beq_up _) (brT (grow_up (by omega)) (fin (qb_esc (.inr (is_byte (c := 34) (by decide) h))) rfl rfl))
    have h2 : c ≠ 34 := isnt_byte (c := 34) (by decide) h
    refine br (fun h => ?_) (fun h => ?_)
    · have h : c = 10 := is_byte (c := 10) (by decide) h
      exact brT (beq_up _) (brT (grow_up (by omega)) (fin (bs := [92, 110]) (by rw [h]; rfl) rfl rfl))
    have h3 : c ≠ 10 := isnt_byte (c := 10) (by decide) h
    refine br (fun h => ?_) (fun h => ?_)
    · have h : c = 9 := is_byte (c := 9) (by decide) h
      exact brT (beq_up _) (brT (grow_up (by omega)) (fin (bs := [92, 116]) (by rw [h]; rfl) rfl rfl))
    have h4 : c ≠ 9 := isnt_byte (c := 9) (by decide) h
    have b1 : (decide ((0 : Int) ≤ ((c.toNat / 16 : Nat) : Int)) && decide (((c.toNat / 16 : Nat) : Int) < ((16 : Nat) : Int))) = true := by
      rw [Bool.and_eq_true]; exact ⟨dT (by omega), dT (by omega)⟩
    refine br (fun h => ?_) (fun h => ?_)
    · have h : c.toNat < 32 := by have := of_decide_eq_true h; omega
      exact brT b1 (brT (dT (by omega)) (brT (beq_up _) (brT (grow_up (by omega)) (fin (qb_hex h1 h2 h3 h4 (.inl h)) rfl rfl))))
    have h5 : ¬ c.toNat < 32 := by have := of_decide_eq_false h; omega
    refine br (fun h => ?_) (fun h => ?_)
    · have h : 126 < c.toNat := by have := of_decide_eq_true h; omega
      exact brT b1 (brT (dT (by omega)) (brT (beq_up _) (brT (grow_up (by omega)) (fin (qb_hex h1 h2 h3 h4 (.inr h)) rfl rfl))))
    have h6 : ¬ 126 < c.toNat := by have := of_decide_eq_false h; omega
    exact brT (beq_up _) (brT (grow_up (by omega)) (fin (qb_one h1 h2 h3 h4 h5 h6) rfl rfl))
  · have hge : ¬ x.1 < s.length := by simpa using hge
    have hxl : x.1 = s.length := by omega
    refine brT (beq_up _) (brT (grow_up (by omega)) (brT ?_ ⟨?_, trivial⟩))
    · rw [List.drop_zero, ← up_len, List.take_length]; exact Nat.ble_eq_true_of_le (by simp)
    · have hq : quoteT (dn s) = outU (dn s) x.1 ++ [34] := by
        rw [quote_out, dn_len]; exact congrArg (fun n => outU (dn s) n ++ [34]) hxl.symm
      rw [hq]
      have e : List.take ((outU (dn s) x.1).length + 1) (List.drop 0 (up (outU (dn s) x.1 ++ [34]))) = up (outU (dn s) x.1 ++ [34]) := by
        rw [List.drop_zero]; exact List.take_of_length_le (by rw [up_len]; simp)
      have e' : List.take ((outU (dn s) x.1).length + 1) (List.drop 0 (List.take (outU (dn s) x.1).length (List.drop 0 (up (outU (dn s) x.1))) ++ [(34 : Int)])) = up (outU (dn s) x.1 ++ [34]) := by
        rw [show List.take (outU (dn s) x.1).length (List.drop 0 (up (outU (dn s) x.1))) ++ [(34 : Int)] = up (outU (dn s) x.1 ++ [34]) from (up_app _ [34]).symm]; exact e
      exact ((congrArg dn e').trans (dn_up _)).symm
theorem kU : SpecOk Tryz.prog 8 (SD smq sU) := spec_loopN e0_sound (by kernel_rfl) (fun _ => noA) LU (fun _ => noJ) (fun _ => 0) okU
theorem aU : RowOK 8 ((SD smq sU).con (MD smq sU)) := Spec.con_ok kU (MD smq sU) (fun _ => Nat.le_of_ble_eq_true rfl)
theorem okX (s : List Int) (hp : (SD smq sU).pre s = true) : OwesN e0 9 (SD smq sU) noA (LX s) noJ 0 s := by
  refine OwesN.mk ?_
  rw [vX]
  obtain ⟨hs, hb⟩ := smq_le (s := s) hp
  have hdn : s = up (dn s) := by obtain ⟨b, rfl⟩ := hb; rw [dn_up]
  have h0 : outU (dn s) 0 = [34] := by rw [outU_eq]; rfl
  refine ⟨⟨⟨0, Nat.zero_le _⟩, ⟨rfl, rfl, ⟨rfl, congrArg List.length h0, Nat.zero_le _⟩, rfl, trivial⟩, congrArg (fun l => oB (up l)) h0, trivial⟩, fun x => ?_⟩
  have x1 := x.2
  have hol := outU_len (dn s) x.1
  rw [dn_len] at hol
  have e1 : ((x.1 : Int)).toNat = x.1 := by simp
  have w1 : IntKind.i64.wrap ((x.1 : Int) + 1) = ((x.1 + 1 : Nat) : Int) := by rw [wrap_id] <;> omega
  have hg : ∀ i : Nat, s.getD i 0 = (((dn s).getD i 0).toNat : Int) := fun i => by
    conv => lhs; rw [hdn]
    exact up_get _ _
  have hc := hg x.1
  rw [e1, w1, hc, nib_hi, nib_lo]
  have n1 : ∀ n : Nat, ((n : Int)).toNat = n := Int.toNat_natCast
  rw [n1, n1, hexS_D, hexS_D]
  refine br (fun hlt => ?_) (fun hge => ?_)
  · have hlt : x.1 < s.length := by simpa using hlt
    have fin := fun {bs : B} {VL : List Int} {k : Nat} => finX (s := s) (x := x) hlt (bs := bs) (VL := VL) (k := k)
    generalize (dn s).getD x.1 0 = c at fin ⊢
    have hc8 : c.toNat < 256 := UInt8.toNat_lt c
    refine brT (by simp; omega) (br (fun h => ?_) (fun h => ?_))
    · exact brT (beq_up _) (brT (grow_up (by omega)) (fin (qb_esc (.inl (is_byte (c := 92) (by decide) h))) rfl rfl))
    have h1 : c ≠ 92 := isnt_byte (c := 92) (by decide) h
    refine br (fun h => ?_) (fun h => ?_)
    · exact brT (beq_up _) (brT (grow_up (by omega)) (fin (qb_esc (.inr (is_byte (c := 34) (by decide) h))) rfl rfl))
    have h2 : c ≠ 34 := isnt_byte (c := 34) (by decide) h
    refine br (fun h => ?_) (fun h => ?_)
    · have h : c = 10 := is_byte (c := 10) (by decide) h
      exact brT (beq_up _) (brT (grow_up (by omega)) (fin (bs := [92, 110]) (by rw [h]; rfl) rfl rfl))
    have h3 : c ≠ 10 := isnt_byte (c := 10) (by decide) h
    refine br (fun h => ?_) (fun h => ?_)
    · have h : c = 9 := is_byte (c := 9) (by decide) h
      exact brT (beq_up _) (brT (grow_up (by omega)) (fin (bs := [92, 116]) (by rw [h]; rfl) rfl rfl))
    have h4 : c ≠ 9 := isnt_byte (c := 9) (by decide) h
    have b1 : (decide ((0 : Int) ≤ ((c.toNat / 16 : Nat) : Int)) && decide (((c.toNat / 16 : Nat) : Int) < ((16 : Nat) : Int))) = true := by
      rw [Bool.and_eq_true]; exact ⟨dT (by omega), dT (by omega)⟩
    refine br (fun h => ?_) (fun h => ?_)
    · have h : c.toNat < 32 := by have := of_decide_eq_true h; omega
      exact brT b1 (brT (dT (by omega)) (brT (beq_up _) (brT (grow_up (by omega)) (fin (qb_hex h1 h2 h3 h4 (.inl h)) rfl rfl))))
    have h5 : ¬ c.toNat < 32 := by have := of_decide_eq_false h; omega
    refine br (fun h => ?_) (fun h => ?_)
    · have h : 126 < c.toNat := by have := of_decide_eq_true h; omega
      exact brT b1 (brT (dT (by omega)) (brT (beq_up _) (brT (grow_up (by omega)) (fin (qb_hex h1 h2 h3 h4 (.inr h)) rfl rfl))))
    have h6 : ¬ 126 < c.toNat := by have := of_decide_eq_false h; omega
    exact brT (beq_up _) (brT (grow_up (by omega)) (fin (qb_one h1 h2 h3 h4 h5 h6) rfl rfl))
  · have hge : ¬ x.1 < s.length := by simpa using hge
    have hxl : x.1 = s.length := by omega
    refine brT (beq_up _) (brT (grow_up (by omega)) (brT ?_ ⟨?_, trivial⟩))
    · rw [List.drop_zero, ← up_len, List.take_length]; exact Nat.ble_eq_true_of_le (by simp)
    · have hq : quoteT (dn s) = outU (dn s) x.1 ++ [34] := by
        rw [quote_out, dn_len]; exact congrArg (fun n => outU (dn s) n ++ [34]) hxl.symm
      rw [hq]
      have e : List.take ((outU (dn s) x.1).length + 1) (List.drop 0 (up (outU (dn s) x.1 ++ [34]))) = up (outU (dn s) x.1 ++ [34]) := by
        rw [List.drop_zero]; exact List.take_of_length_le (by rw [up_len]; simp)
      have e' : List.take ((outU (dn s) x.1).length + 1) (List.drop 0 (List.take (outU (dn s) x.1).length (List.drop 0 (up (outU (dn s) x.1))) ++ [(34 : Int)])) = up (outU (dn s) x.1 ++ [34]) := by
        rw [show List.take (outU (dn s) x.1).length (List.drop 0 (up (outU (dn s) x.1))) ++ [(34 : Int)] = up (outU (dn s) x.1 ++ [34]) from (up_app _ [34]).symm]; exact e
      exact ((congrArg dn e').trans (dn_up _)).symm
theorem kX : SpecOk Tryz.prog 9 (SD smq sU) := spec_loopN e0_sound (by kernel_rfl) (fun _ => noA) LX (fun _ => noJ) (fun _ => 0) okX
theorem aX : RowOK 9 ((SD smq sU).con (MD smq sU)) := Spec.con_ok kX (MD smq sU) (fun _ => Nat.le_of_ble_eq_true rfl)
end Go.Proofs.YtebdbhekdadhbaaGreatDoor
