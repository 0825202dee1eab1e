/- One byte of a quoted word: its contracts hold. No conditions. -/
import Derived.Test.YtebdbhekdadhbaaGreatDoorScV
namespace Go.Proofs.YtebdbhekdadhbaaGreatDoor
open Go Go.W
set_option maxRecDepth 100000
theorem byte_eq {b : UInt8} {c : Nat} (hc : c < 256) : ((b.toNat : Int) == (c : Int)) = (b == UInt8.ofNat c) := by
  cases h : b == UInt8.ofNat c with
  | true =>
    rw [beq_iff_eq.1 h, UInt8.toNat_ofNat_of_lt' hc]; exact beq_iff_eq.2 rfl
  | false =>
    refine beq_eq_false_iff_ne.2 fun e => ?_
    have e : b.toNat = c := by omega
    exact (beq_eq_false_iff_ne.1 h) (by rw [← e, UInt8.ofNat_toNat])
theorem is_byte {b : UInt8} {c : Nat} (hc : c < 256) (h : ((b.toNat : Int) == (c : Int)) = true) : b = UInt8.ofNat c := by
  rw [byte_eq hc] at h; exact beq_iff_eq.1 h
theorem isnt_byte {b : UInt8} {c : Nat} (hc : c < 256) (h : ((b.toNat : Int) == (c : Int)) = false) : b ≠ UInt8.ofNat c := by
  rw [byte_eq hc] at h; exact beq_eq_false_iff_ne.1 h
theorem isn_byte {b : UInt8} {c : Nat} (hc : c < 256) (h : ((b.toNat : Int) != (c : Int)) = true) : b ≠ UInt8.ofNat c :=
  isnt_byte hc (by simpa [bne] using h)
theorem isn_byte' {b : UInt8} {c : Nat} (hc : c < 256) (h : ((b.toNat : Int) != (c : Int)) = false) : b = UInt8.ofNat c :=
  is_byte hc (by simpa [bne] using h)
theorem ix_hex (c : UInt8) : Lib.indexByte hexS (c.toNat : Int).toNat.toUInt8 = hexI c := by
  have h := all_bytes (p := fun c => Lib.indexByte hexS c == hexI c) (by kernel_rfl) c
  have e : (c.toNat : Int).toNat.toUInt8 = c := by simp
  rw [e]; exact beq_iff_eq.1 h
theorem hexI_some {c : UInt8} (h : 0 ≤ hexI c) : ∃ k, hexN c = some k ∧ hexI c = (k : Int) ∧ k < 16 := by
  have h1 := all_bytes (p := fun c => match hexN c with | some k => Nat.blt k 16 | none => true) (by kernel_rfl) c
  unfold hexI at h ⊢
  cases hx : hexN c with
  | none => rw [hx] at h; exact absurd h (by decide)
  | some k => rw [hx] at h1; exact ⟨k, rfl, rfl, Nat.le_of_ble_eq_true h1⟩
theorem hexI_none {c : UInt8} (h : ¬ 0 ≤ hexI c) : hexN c = none := by
  unfold hexI at h
  cases hx : hexN c with
  | none => rfl
  | some k => rw [hx] at h; exact absurd (Int.natCast_nonneg k) h
/-- The document's digits. -/
theorem mH (a : AU) (hp : SH.pre a = true) : MeetsK e0 18 SH a := by
  refine MeetsK.mk ?_
  rw [vH]
  have hc : a.c < 256 := Nat.le_of_ble_eq_true hp
  have ht : (UInt8.ofNat a.c).toNat = a.c := UInt8.toNat_ofNat_of_lt' hc
  have hI : hexI (UInt8.ofNat a.c) = bif Nat.ble 48 a.c && Nat.ble a.c 57 then ((a.c - 48 : Nat) : Int) else bif Nat.ble 97 a.c && Nat.ble a.c 102 then ((a.c - 87 : Nat) : Int) else -1 := by
    unfold hexI hexN
    rw [ht]
    cases Nat.ble 48 a.c && Nat.ble a.c 57 with
    | true => rfl
    | false => cases Nat.ble 97 a.c && Nat.ble a.c 102 <;> rfl
  have up1 : ∀ {m n : Nat}, m ≤ n → Nat.ble m n = true := fun h => Nat.ble_eq_true_of_le h
  have up0 : ∀ {m n : Nat}, ¬ m ≤ n → Nat.ble m n = false := fun h => by rw [← Bool.not_eq_true]; exact fun e => h (Nat.le_of_ble_eq_true e)
  have w1 : ∀ n : Int, 0 ≤ n → n < 256 → IntKind.u8.wrap n = n := fun n h1 h2 => by
    show (n % 256 : Int) = n
    omega
  refine br (fun h1 => ?_) (fun h1 => ?_)
  · have h1 : 48 ≤ a.c := by have := of_decide_eq_true h1; omega
    refine br (fun h2 => ?_) (fun h2 => ?_)
    · have h2 : a.c ≤ 57 := by have := of_decide_eq_true h2; omega
      rw [hI, up1 h1, up1 h2, w1 _ (by omega) (by omega), wrap_id (by omega) (by omega)]
      exact ⟨by show ((a.c - 48 : Nat) : Int) = _; omega, trivial⟩
    · have h2 : ¬ a.c ≤ 57 := by have := of_decide_eq_false h2; omega
      refine br (fun h3 => ?_) (fun h3 => ?_)
      · have h3 : 97 ≤ a.c := by have := of_decide_eq_true h3; omega
        refine br (fun h4 => ?_) (fun h4 => ?_)
        · have h4 : a.c ≤ 102 := by have := of_decide_eq_true h4; omega
          rw [hI, up1 h1, up0 h2, up1 h3, up1 h4, w1 _ (by omega) (by omega), wrap_id (n := (a.c : Int) - 97) (by omega) (by omega), wrap_id (by omega) (by omega)]
          exact ⟨by show ((a.c - 87 : Nat) : Int) = _; omega, trivial⟩
        · have h4 : ¬ a.c ≤ 102 := by have := of_decide_eq_false h4; omega
          rw [hI, up1 h1, up0 h2, up1 h3, up0 h4]; exact ⟨rfl, trivial⟩
      · have h3 : ¬ 97 ≤ a.c := by have := of_decide_eq_false h3; omega
        rw [hI, up1 h1, up0 h2, up0 h3]; exact ⟨rfl, trivial⟩
  · have h1 : ¬ 48 ≤ a.c := by have := of_decide_eq_false h1; omega
    refine br (fun h3 => ?_) (fun h3 => ?_)
    · have h3 : 97 ≤ a.c := by have := of_decide_eq_true h3; omega
      omega
    · have h3 : ¬ 97 ≤ a.c := by have := of_decide_eq_false h3; omega
      rw [hI, up0 h1, up0 h3]; exact ⟨rfl, trivial⟩
theorem kH : SpecOk Tryz.prog 18 SH := spec_leaf e0_sound (by kernel_rfl) mH
theorem aH : RowOK 18 (SH.con MH) := Spec.con_ok kH MH (fun _ => Nat.le_of_ble_eq_true rfl)
theorem KH_ok : ConOk Tryz.prog KH := con_cons aH con_nil
theorem eH_sound : HdSound Tryz.prog eH := hdT_sound mixed hno KH_ok _ _ _
/-- One byte. -/
theorem mE (s : B) (hp : (SB pE sE).pre s = true) : MeetsK e0 17 (SB pE sE) s := by
  refine MeetsK.mk ?_
  rw [vE]
  have hp : (Nat.ble 1 s.length && sm s) = true := hp
  simp only [Bool.and_eq_true] at hp
  have hl : 1 ≤ s.length := Nat.le_of_ble_eq_true hp.1
  match s, hl with
  | c :: r, _ =>
    have g0 : List.getD (c :: r) 0 (OfNat.ofNat 0) = c := rfl
    rw [g0]
    refine brT (dT (by simp)) (br (fun h => ?_) (fun h => ?_))
    · have h := isn_byte (c := 92) (by decide) h
      rw [escM_other r h]
      exact brT (dT (by simp)) ⟨⟨rfl, rfl, trivial⟩, trivial⟩
    · have h : c = 92 := isn_byte' (c := 92) (by decide) h
      subst h
      cases r with
      | nil => exact brT (by decide) ⟨⟨rfl, rfl, trivial⟩, trivial⟩
      | cons d r2 =>
        have g1 : List.getD (92 :: d :: r2) 1 (OfNat.ofNat 0) = d := rfl
        have he : escM (92 :: d :: r2) = bif d == 92 || d == 34 then (d, 2) else bif d == 110 then (10, 2) else bif d == 116 then (9, 2) else bif d == 120 then (match r2 with | a :: b :: _ => hexE a b | _ => (0, 0)) else (0, 0) := rfl
        have lt : (1 : Int) < ((92 :: d :: r2).length : Nat) := by simp; omega
        rw [g1]
        refine brF (dF (by simp; omega)) (brT (dT lt) ?_)
        refine br (fun h => ?_) (fun h1 => ?_)
        · have h : d = 92 := is_byte (c := 92) (by decide) h
          subst h
          exact brT (dT lt) ⟨⟨rfl, rfl, trivial⟩, trivial⟩
        have h1 : d ≠ 92 := isnt_byte (c := 92) (by decide) h1
        refine br (fun h => ?_) (fun h2 => ?_)
        · have h : d = 34 := is_byte (c := 34) (by decide) h
          subst h
          exact brT (dT lt) ⟨⟨rfl, rfl, trivial⟩, trivial⟩
        have h2 : d ≠ 34 := isnt_byte (c := 34) (by decide) h2
        refine br (fun h => ?_) (fun h3 => ?_)
        · have h : d = 110 := is_byte (c := 110) (by decide) h
          subst h
          exact ⟨⟨rfl, rfl, trivial⟩, trivial⟩
        have h3 : d ≠ 110 := isnt_byte (c := 110) (by decide) h3
        refine br (fun h => ?_) (fun h4 => ?_)
        · have h : d = 116 := is_byte (c := 116) (by decide) h
          subst h
          exact ⟨⟨rfl, rfl, trivial⟩, trivial⟩
        have h4 : d ≠ 116 := isnt_byte (c := 116) (by decide) h4
        rw [he, beq_eq_false_iff_ne.2 h1, beq_eq_false_iff_ne.2 h2, beq_eq_false_iff_ne.2 h3, beq_eq_false_iff_ne.2 h4]
        refine br (fun h => ?_) (fun h5 => ?_)
        · have h : d = 120 := is_byte (c := 120) (by decide) h
          subst h
          refine br (fun h6 => ?_) (fun h6 => ?_)
          · match r2 with
            | [] => exact ⟨⟨rfl, rfl, trivial⟩, trivial⟩
            | [_] => exact ⟨⟨rfl, rfl, trivial⟩, trivial⟩
            | _ :: _ :: _ => exact absurd (of_decide_eq_true h6) (by simp; omega)
          · match r2 with
            | [] => exact absurd (of_decide_eq_false h6) (by simp)
            | [_] => exact absurd (of_decide_eq_false h6) (by simp)
            | a :: b :: r4 =>
              have ga : List.getD (92 :: 120 :: a :: b :: r4) 2 (OfNat.ofNat 0) = a := rfl
              have gb : List.getD (92 :: 120 :: a :: b :: r4) 3 (OfNat.ofNat 0) = b := rfl
              rw [ga, gb, ix_hex, ix_hex]
              refine brT (dT (by simp; omega)) (brT (dT (by simp; omega)) ?_)
              have hz : hexN a = none ∨ hexN b = none → hexE a b = (0, 0) := by
                intro h
                unfold hexE
                rcases h with h | h
                · rw [h]
                · rw [h]; cases hexN a <;> rfl
              refine br (fun h7 => ?_) (fun h7 => ?_)
              · obtain ⟨k, k1, k2, k3⟩ := hexI_some (of_decide_eq_true h7)
                refine br (fun h8 => ?_) (fun h8 => ?_)
                · obtain ⟨m, m1, m2, m3⟩ := hexI_some (of_decide_eq_true h8)
                  have hv : hexE a b = (UInt8.ofNat (16 * k + m), 4) := by unfold hexE; rw [k1, m1]
                  show (((hexE a b).1.toNat : Int) = _ ∧ ((hexE a b).2 : Int) = _ ∧ True) ∧ True
                  rw [hv, k2, m2, wrap_id (n := 16 * (k : Int)) (by omega) (by omega), wrap_id (by omega) (by omega)]
                  refine ⟨⟨?_, rfl, trivial⟩, trivial⟩
                  show (((UInt8.ofNat (16 * k + m)).toNat : Nat) : Int) = (16 * (k : Int) + (m : Int)) % 256
                  rw [UInt8.toNat_ofNat_of_lt' (by show 16 * k + m < 256; omega)]
                  omega
                · show (((hexE a b).1.toNat : Int) = _ ∧ ((hexE a b).2 : Int) = _ ∧ True) ∧ True
                  rw [hz (.inr (hexI_none (of_decide_eq_false h8)))]
                  exact ⟨⟨rfl, rfl, trivial⟩, trivial⟩
              · show (((hexE a b).1.toNat : Int) = _ ∧ ((hexE a b).2 : Int) = _ ∧ True) ∧ True
                rw [hz (.inl (hexI_none (of_decide_eq_false h7)))]
                exact ⟨⟨rfl, rfl, trivial⟩, trivial⟩
        · have h5 : d ≠ 120 := isnt_byte (c := 120) (by decide) h5
          rw [beq_eq_false_iff_ne.2 h5]
          exact ⟨⟨rfl, rfl, trivial⟩, trivial⟩
theorem kE : SpecOk Tryz.prog 17 (SB pE sE) := spec_leaf e0_sound (by kernel_rfl) mE
theorem aE : RowOK 17 ((SB pE sE).con (MB pE sE)) := Spec.con_ok kE (MB pE sE) (fun _ => Nat.le_of_ble_eq_true rfl)
theorem KE_ok : ConOk Tryz.prog KE := con_cons aE con_nil
theorem eE_sound : HdSound Tryz.prog eE := hdT_sound mixed hno KE_ok _ _ _
end Go.Proofs.YtebdbhekdadhbaaGreatDoor
