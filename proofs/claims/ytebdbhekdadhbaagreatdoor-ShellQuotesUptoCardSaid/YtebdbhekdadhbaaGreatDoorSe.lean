/- A quoted word, as the program and as the document read it: their contracts hold. No conditions. -/
import Derived.Test.YtebdbhekdadhbaaGreatDoorSd
namespace Go.Proofs.YtebdbhekdadhbaaGreatDoor
open Go Go.W
set_option maxRecDepth 100000
theorem drop_cons {s : B} {i : Nat} (h : i < s.length) : s.drop i = s.getD i 0 :: s.drop (i + 1) := by
  rw [List.drop_eq_getElem_cons h]
  congr 1
  simp [List.getD, h]
theorem dn_take (b : B) : dn (List.take b.length (List.drop 0 (up b))) = b := by
  rw [List.drop_zero, ← up_len b, List.take_length, dn_up]
theorem up_snoc (b : B) (c : UInt8) {V : Int} (h : (c.toNat : Int) = V) : up (b ++ [c]) = List.take b.length (List.drop 0 (up b)) ++ [V] := by
  rw [List.drop_zero, ← up_len b, List.take_length, ← h]
  simp [up]
theorem ble_up (b : B) : Nat.ble (0 + b.length) (up b).length = true := by rw [Nat.zero_add, up_len]; exact Nat.ble_eq_true_of_le (Nat.le_refl _)
theorem beq_up (b : B) : Nat.beq (0 + b.length) (up b).length = true := by rw [Nat.zero_add, up_len]; exact Nat.beq_refl _
theorem grow_up {b : B} {k : Nat} (h : b.length + k ≤ 100000000) : (((b.length + k) * 1).ble 140737488355328 && (b.length + k).ble 9223372036854775807 && true && true && (0 + b.length).ble (up b).length) = true := by
  simp only [Bool.and_eq_true]
  exact ⟨⟨⟨⟨Nat.ble_eq_true_of_le (by omega), Nat.ble_eq_true_of_le (by omega)⟩, trivial⟩, trivial⟩, ble_up b⟩
/-! ### The program's -/
theorem stepQ {s : B} {x : RQ} (hx : PQ s x) (hi : x.i < s.length) (hc : s.getD x.i 0 ≠ 34) (hk : (escM (s.drop x.i)).2 ≠ 0) : PQ s ⟨x.i + (escM (s.drop x.i)).2, x.b ++ [(escM (s.drop x.i)).1]⟩ := by
  have hle := escM_le (s.drop x.i)
  simp only [List.length_drop] at hle
  refine ⟨?_, ?_, ?_⟩
  · show x.i + _ ≤ s.length; omega
  · show (x.b ++ [_]).length ≤ _
    have := hx.l
    simp; omega
  · have hd := drop_cons hi
    rw [hx.go]
    rw [hd] at hk ⊢
    show _ = quotR (s.drop (x.i + _)) _ _
    rw [quotR_step x.i x.b hc hk, ← hd, List.drop_drop]
theorem badQ {s : B} {x : RQ} (hx : PQ s x) (hi : x.i < s.length) (hc : s.getD x.i 0 ≠ 34) (hk : (escM (s.drop x.i)).2 = 0) : quotedM s = none := by
  have hd := drop_cons hi
  rw [hx.go]
  rw [hd] at hk ⊢
  exact quotR_bad _ _ hc hk
theorem quotV_none {s : B} (h : quotedM s = none) : quotV s = ([], 0, false) := by unfold quotV; rw [h]
theorem quotV_some {s w : B} {n : Nat} (h : quotedM s = some (w, n)) : quotV s = (w, (n : Int), true) := by unfold quotV; rw [h]
theorem okQ (s : B) (hp : (SB sm sQ).pre s = true) : OwesN eE 11 (SB sm sQ) AQ (LQ s) noJ 0 s := by
  refine OwesN.mk ?_
  rw [vQ]
  have hs := sm_le (s := s) hp
  refine ⟨⟨⟨⟨0, []⟩, Nat.zero_le _, Nat.le_refl _, rfl⟩, ⟨rfl, ⟨rfl, rfl, Nat.le_refl _⟩, rfl, trivial⟩, rfl, trivial⟩, fun x => ?_⟩
  have hx := x.2
  have x1 := hx.i
  have x2 := hx.l
  have e1 : ((x.1.i : Int)).toNat = x.1.i := by simp
  have e3 : ((s.length : Int)).toNat = s.length := by simp
  rw [e1, e3, List.take_length]
  have none_ : quotedM s = none → (((quotV s).1 = [] ∧ (quotV s).2.1 = (0 : Int) ∧ (quotV s).2.2 = false ∧ True) ∧ True) := fun h => by
    rw [quotV_none h]; exact ⟨⟨rfl, rfl, rfl, trivial⟩, trivial⟩
  refine br (fun hlt => ?_) (fun hge => ?_)
  · have hlt : x.1.i < s.length := by simpa using hlt
    refine brT (dT (by omega)) (br (fun h => ?_) (fun h => ?_))
    · have h : s.getD x.1.i 0 = 34 := is_byte (c := 34) (by decide) h
      have hq : quotedM s = some (x.1.b, x.1.i + 1) := by rw [hx.go, drop_cons hlt, h]; rfl
      refine brT (ble_up _) ?_
      rw [quotV_some hq, dn_take, wrap_id (by omega) (by omega)]
      exact ⟨⟨rfl, by show ((x.1.i + 1 : Nat) : Int) = _; omega, rfl, trivial⟩, trivial⟩
    · have h : s.getD x.1.i 0 ≠ 34 := isnt_byte (c := 34) (by decide) h
      have hle := escM_le (s.drop x.1.i)
      simp only [List.length_drop] at hle
      refine brT (by simp; omega) (brT ?_ (br (fun hz => ?_) (fun hz => ?_)))
      · show (Nat.ble 1 (s.drop x.1.i).length && sm (s.drop x.1.i)) = true
        rw [Bool.and_eq_true]
        exact ⟨Nat.ble_eq_true_of_le (by simp; omega), Nat.ble_eq_true_of_le (by simp; omega)⟩
      · have hz : (escM (s.drop x.1.i)).2 = 0 := by have := beq_iff_eq.1 hz; omega
        exact none_ (badQ hx hlt h hz)
      · have hz : (escM (s.drop x.1.i)).2 ≠ 0 := fun e => by rw [e] at hz; cases hz
        refine brT (beq_up _) (brT (grow_up (by omega)) ?_)
        rw [wrap_id (by omega) (by omega)]
        refine ⟨⟨_, stepQ hx hlt h hz⟩, ?_, ⟨rfl, ⟨rfl, by simp, Nat.zero_le _⟩, ?_, trivial⟩, ?_, trivial⟩
        · show s.length - (x.1.i + _) < _; omega
        · show ((x.1.i + _ : Nat) : Int) = _; omega
        · exact congrArg oB (up_snoc _ _ rfl)
  · have hge : ¬ x.1.i < s.length := by simpa using hge
    refine none_ ?_
    rw [hx.go, List.drop_eq_nil_of_le (by omega)]; rfl
theorem kQ : SpecOk Tryz.prog 11 (SB sm sQ) := spec_loopN eE_sound (by kernel_rfl) (fun _ => AQ) LQ (fun _ => noJ) (fun _ => 0) okQ
theorem aQ : RowOK 11 ((SB sm sQ).con (MB sm sQ)) := Spec.con_ok kQ (MB sm sQ) (fun _ => Nat.le_of_ble_eq_true rfl)
theorem KQ_ok : ConOk Tryz.prog KQ := con_cons aQ con_nil
theorem eQ_sound : HdSound Tryz.prog eQ := hdT_sound mixed hno KQ_ok _ _ _
/-! ### The document's -/
theorem stepR {a : AR} {x : RQ} (hx : PR a x) (hi : x.i < a.s.length) (hc : a.s.getD x.i 0 ≠ 34) {v : UInt8} {k : Nat} (he : escM (a.s.drop x.i) = (v, k)) (hk : k ≠ 0) : PR a ⟨x.i + k, x.b ++ [v]⟩ := by
  have hle := escM_le (a.s.drop x.i)
  rw [he] at hle
  simp only [List.length_drop] at hle
  have h0 := hx.lo
  refine ⟨?_, ?_, ?_, ?_⟩
  · show a.p + 1 ≤ x.i + k; omega
  · show x.i + k ≤ a.s.length; omega
  · show (x.b ++ [v]).length ≤ x.i + k
    have := hx.l
    simp; omega
  · have hd := drop_cons hi
    rw [hx.go]
    rw [hd] at he
    rw [hd, quotR_step _ x.b hc (by rw [he]; exact hk), he]
    show quotR (List.drop k (_ :: _)) _ _ = quotR (a.s.drop (x.i + k)) (x.i + k - (a.p + 1)) (x.b ++ [v])
    rw [← hd, List.drop_drop]
    congr 1
    show x.i - (a.p + 1) + k = _
    omega
theorem badR {a : AR} {x : RQ} (hx : PR a x) (hi : x.i < a.s.length) (hc : a.s.getD x.i 0 ≠ 34) (he : (escM (a.s.drop x.i)).2 = 0) : quotedM (a.s.drop (a.p + 1)) = none := by
  have hd := drop_cons hi
  rw [hx.go]
  rw [hd] at he ⊢
  exact quotR_bad _ _ hc he
theorem finR {a : AR} {x : RQ} {i' : Nat} {v : UInt8} {I V : Int} (hP : PR a ⟨i', x.b ++ [v]⟩) (hI : (i' : Int) = I) (hV : (v.toNat : Int) = V) (hlt : x.i < i') (hi : x.i < a.s.length) :
    ∃ x' : { x : RQ // PR a x }, a.s.length - x'.1.i < a.s.length - x.i ∧ (a.s = a.s ∧ (x'.1.i : Int) = I ∧ ((0 : Nat) = 0 ∧ x'.1.b.length = x.b.length + 1 ∧ Nat.le 0 (x.b.length + 1)) ∧ True) ∧ oB (up x'.1.b) = oB (List.take x.b.length (List.drop 0 (up x.b)) ++ [V]) ∧ True :=
  ⟨⟨_, hP⟩, by show a.s.length - i' < _; omega, ⟨rfl, hI, ⟨rfl, by simp, Nat.zero_le _⟩, trivial⟩, congrArg oB (up_snoc _ _ hV), trivial⟩
theorem quotW_none {s : B} {p : Nat} (h : quotedM (s.drop (p + 1)) = none) : quotW s p = ([], -1) := by unfold quotW; rw [h]
theorem quotW_some {s w : B} {p n : Nat} (h : quotedM (s.drop (p + 1)) = some (w, n)) : quotW s p = (w, ((p + 1 + n : Nat) : Int)) := by unfold quotW; rw [h]
theorem okR (a : AR) (hp : SR.pre a = true) : OwesN eH 12 SR AQ2 (LR a) noJ 0 a := by
  refine OwesN.mk ?_
  rw [vR]
  have hp : (sm a.s && Nat.blt a.p a.s.length) = true := hp
  simp only [Bool.and_eq_true] at hp
  have hs := sm_le hp.1
  have hp2 : a.p < a.s.length := Nat.le_of_ble_eq_true hp.2
  refine ⟨⟨⟨⟨a.p + 1, []⟩, Nat.le_refl _, hp2, Nat.zero_le _, by rw [Nat.sub_self]; rfl⟩, ⟨rfl, by rw [wrap_id (by omega) (by omega)]; rfl, ⟨rfl, rfl, Nat.le_refl _⟩, trivial⟩, rfl, trivial⟩, fun x => ?_⟩
  have hx := x.2
  have x1 := hx.i
  have x2 := hx.l
  have x3 := hx.lo
  have e1 : ((x.1.i : Int)).toNat = x.1.i := by simp
  have w1 : IntKind.i64.wrap ((x.1.i : Int) + 1) = ((x.1.i + 1 : Nat) : Int) := by rw [wrap_id] <;> omega
  have w2 : IntKind.i64.wrap ((x.1.i : Int) + 2) = ((x.1.i + 2 : Nat) : Int) := by rw [wrap_id] <;> omega
  have w3 : IntKind.i64.wrap ((x.1.i : Int) + 3) = ((x.1.i + 3 : Nat) : Int) := by rw [wrap_id] <;> omega
  have w4 : IntKind.i64.wrap (((x.1.i + 2 : Nat) : Int) + 2) = ((x.1.i + 4 : Nat) : Int) := by rw [wrap_id] <;> omega
  rw [e1, w1, w2, w3, w4]
  have n1 : (((x.1.i + 1 : Nat) : Int)).toNat = x.1.i + 1 := Int.toNat_natCast _
  have n2 : (((x.1.i + 2 : Nat) : Int)).toNat = x.1.i + 2 := Int.toNat_natCast _
  have n3 : (((x.1.i + 3 : Nat) : Int)).toNat = x.1.i + 3 := Int.toNat_natCast _
  rw [n1, n2, n3]
  have none_ : quotedM (a.s.drop (a.p + 1)) = none → (((quotW a.s a.p).1 = [] ∧ (quotW a.s a.p).2 = (-1 : Int) ∧ True) ∧ True) := fun h => by
    rw [quotW_none h]; exact ⟨⟨rfl, rfl, trivial⟩, trivial⟩
  have ends : x.1.i < a.s.length → a.s.getD x.1.i 0 = 34 → branch (decide ((x.1.i : Int) ≥ (a.s.length : Int))) (((quotW a.s a.p).1 = [] ∧ (quotW a.s a.p).2 = (-1 : Int) ∧ True) ∧ True)
      (branch ((0 + x.1.b.length).ble (up x.1.b).length) (((quotW a.s a.p).1 = dn (List.take x.1.b.length (List.drop 0 (up x.1.b))) ∧ (quotW a.s a.p).2 = ((x.1.i + 1 : Nat) : Int) ∧ True) ∧ True) False) := fun hlt h => by
    have hq : quotedM (a.s.drop (a.p + 1)) = some (x.1.b, x.1.i - (a.p + 1) + 1) := by rw [hx.go, drop_cons hlt, h]; rfl
    refine brF (dF (by omega)) (brT (ble_up _) ?_)
    rw [quotW_some hq, dn_take]
    exact ⟨⟨rfl, by show ((a.p + 1 + (x.1.i - (a.p + 1) + 1) : Nat) : Int) = _; omega, trivial⟩, trivial⟩
  refine br (fun hlt => ?_) (fun hge => ?_)
  · have hlt : x.1.i < a.s.length := by simpa using hlt
    refine brT (dT (by omega)) (br (fun h => ?_) (fun h => ?_))
    · have hc : a.s.getD x.1.i 0 ≠ 34 := isn_byte (c := 34) (by decide) h
      refine brT (dT (by omega)) (br (fun h => ?_) (fun h => ?_))
      · have h92 : a.s.getD x.1.i 0 ≠ 92 := isn_byte (c := 92) (by decide) h
        have he : escM (a.s.drop x.1.i) = (a.s.getD x.1.i 0, 1) := by rw [drop_cons hlt]; exact escM_other _ h92
        exact brT (dT (by omega)) (brT (beq_up _) (brT (grow_up (by omega)) (finR (stepR hx hlt hc he (by decide)) rfl rfl (by omega) hlt)))
      · have h92 : a.s.getD x.1.i 0 = 92 := isn_byte' (c := 92) (by decide) h
        refine br (fun h => ?_) (fun h => ?_)
        · have h : a.s.length ≤ x.1.i + 1 := by have := of_decide_eq_true h; omega
          refine none_ (badR hx hlt hc ?_)
          rw [drop_cons hlt, h92, List.drop_eq_nil_of_le h]; rfl
        · have h1 : x.1.i + 1 < a.s.length := by have := of_decide_eq_false h; omega
          have b1 : (decide ((0 : Int) ≤ ((x.1.i + 1 : Nat) : Int)) && decide (((x.1.i + 1 : Nat) : Int) < (a.s.length : Int))) = true := by simp; omega
          have hd : a.s.drop x.1.i = 92 :: a.s.getD (x.1.i + 1) 0 :: a.s.drop (x.1.i + 2) := by rw [drop_cons hlt, h92, drop_cons h1]
          generalize a.s.getD (x.1.i + 1) 0 = d at hd ⊢
          have he0 : escM (a.s.drop x.1.i) = bif d == 92 || d == 34 then (d, 2) else bif d == 110 then (10, 2) else bif d == 116 then (9, 2) else bif d == 120 then (match a.s.drop (x.1.i + 2) with | u :: v :: _ => hexE u v | _ => (0, 0)) else (0, 0) := by rw [hd]; rfl
          refine brT b1 (br (fun h => ?_) (fun h2 => ?_))
          · have h : d = 92 := is_byte (c := 92) (by decide) h
            subst h
            exact brT b1 (brT (beq_up _) (brT (grow_up (by omega)) (finR (stepR hx hlt hc (he0.trans rfl) (by decide)) rfl rfl (by omega) hlt)))
          have h2 : d ≠ 92 := isnt_byte (c := 92) (by decide) h2
          refine br (fun h => ?_) (fun h3 => ?_)
          · have h : d = 34 := is_byte (c := 34) (by decide) h
            subst h
            exact brT b1 (brT (beq_up _) (brT (grow_up (by omega)) (finR (stepR hx hlt hc (he0.trans rfl) (by decide)) rfl rfl (by omega) hlt)))
          have h3 : d ≠ 34 := isnt_byte (c := 34) (by decide) h3
          refine br (fun h => ?_) (fun h4 => ?_)
          · have h : d = 110 := is_byte (c := 110) (by decide) h
            subst h
            exact brT (beq_up _) (brT (grow_up (by omega)) (finR (stepR hx hlt hc (he0.trans rfl) (by decide)) rfl rfl (by omega) hlt))
          have h4 : d ≠ 110 := isnt_byte (c := 110) (by decide) h4
          refine br (fun h => ?_) (fun h5 => ?_)
          · have h : d = 116 := is_byte (c := 116) (by decide) h
            subst h
            exact brT (beq_up _) (brT (grow_up (by omega)) (finR (stepR hx hlt hc (he0.trans rfl) (by decide)) rfl rfl (by omega) hlt))
          have h5 : d ≠ 116 := isnt_byte (c := 116) (by decide) h5
          rw [beq_eq_false_iff_ne.2 h2, beq_eq_false_iff_ne.2 h3, beq_eq_false_iff_ne.2 h4, beq_eq_false_iff_ne.2 h5] at he0
          refine br (fun h => ?_) (fun h6 => ?_)
          · have h : d = 120 := is_byte (c := 120) (by decide) h
            subst h
            refine br (fun h => ?_) (fun h => ?_)
            · have h : a.s.length ≤ x.1.i + 3 := by have := of_decide_eq_true h; omega
              refine none_ (badR hx hlt hc ?_)
              rw [he0]
              show (match a.s.drop (x.1.i + 2) with | u :: v :: _ => hexE u v | _ => (0, 0)).2 = 0
              have hl : (a.s.drop (x.1.i + 2)).length ≤ 1 := by simp; omega
              match a.s.drop (x.1.i + 2), hl with
              | [], _ => rfl
              | [_], _ => rfl
            · have h3 : x.1.i + 3 < a.s.length := by have := of_decide_eq_false h; omega
              have b2 : (decide ((0 : Int) ≤ ((x.1.i + 2 : Nat) : Int)) && decide (((x.1.i + 2 : Nat) : Int) < (a.s.length : Int))) = true := by simp; omega
              have b3 : (decide ((0 : Int) ≤ ((x.1.i + 3 : Nat) : Int)) && decide (((x.1.i + 3 : Nat) : Int) < (a.s.length : Int))) = true := by simp; omega
              have hd2 : a.s.drop (x.1.i + 2) = a.s.getD (x.1.i + 2) 0 :: a.s.getD (x.1.i + 3) 0 :: a.s.drop (x.1.i + 4) := by
                rw [drop_cons (show x.1.i + 2 < a.s.length by omega), drop_cons h3]
              have he1 : escM (a.s.drop x.1.i) = hexE (a.s.getD (x.1.i + 2) 0) (a.s.getD (x.1.i + 3) 0) := by
                rw [he0, hd2]; rfl
              have p2 : ∀ c : UInt8, SH.pre (AU.mk c.toNat) = true := fun c => Nat.ble_eq_true_of_le (show c.toNat + 1 ≤ 256 from UInt8.toNat_lt c)
              have o2 : ∀ c : UInt8, UInt8.ofNat c.toNat = c := fun c => UInt8.ofNat_toNat
              rw [o2, o2]
              generalize a.s.getD (x.1.i + 2) 0 = u at he1 ⊢
              generalize a.s.getD (x.1.i + 3) 0 = v at he1 ⊢
              have hz : hexN u = none ∨ hexN v = none → hexE u v = (0, 0) := by
                intro h
                unfold hexE
                rcases h with h | h
                · rw [h]
                · rw [h]; cases hexN u <;> rfl
              refine brT b2 (brT (p2 _) (br (fun h => ?_) (fun h7 => ?_)))
              · refine none_ (badR hx hlt hc ?_)
                rw [he1, hz (.inl (hexI_none (by have := of_decide_eq_true h; omega)))]
              obtain ⟨k, k1, k2, k3⟩ := hexI_some (c := u) (by have := of_decide_eq_false h7; omega)
              refine brT b3 (brT (p2 _) (br (fun h => ?_) (fun h8 => ?_)))
              · refine none_ (badR hx hlt hc ?_)
                rw [he1, hz (.inr (hexI_none (by have := of_decide_eq_true h; omega)))]
              obtain ⟨m, m1, m2, m3⟩ := hexI_some (c := v) (by have := of_decide_eq_false h8; omega)
              have hv : hexE u v = (UInt8.ofNat (16 * k + m), 4) := by unfold hexE; rw [k1, m1]
              refine brT b2 (brT (p2 _) (brT b3 (brT (p2 _) (brT (beq_up _) (brT (grow_up (by omega)) (finR (stepR hx hlt hc (he1.trans hv) (by decide)) rfl ?_ (by omega) hlt))))))
              rw [k2, m2, wrap_id (n := 16 * (k : Int)) (by omega) (by omega), wrap_id (by omega) (by omega)]
              show (((UInt8.ofNat (16 * k + m)).toNat : Nat) : Int) = (16 * (k : Int) + (m : Int)) % 256
              rw [UInt8.toNat_ofNat_of_lt' (by show 16 * k + m < 256; omega)]
              omega
          · have h6 : d ≠ 120 := isnt_byte (c := 120) (by decide) h6
            refine none_ (badR hx hlt hc ?_)
            rw [he0, beq_eq_false_iff_ne.2 h6]; rfl
    · have hc : a.s.getD x.1.i 0 = 34 := isn_byte' (c := 34) (by decide) h
      exact ends hlt hc
  · have hge : ¬ x.1.i < a.s.length := by simpa using hge
    refine brT (dT (by omega)) (none_ ?_)
    rw [hx.go, List.drop_eq_nil_of_le (by omega)]; rfl
theorem kR : SpecOk Tryz.prog 12 SR := spec_loopN eH_sound (by kernel_rfl) (fun _ => AQ2) LR (fun _ => noJ) (fun _ => 0) okR
theorem aR : RowOK 12 (SR.con MR) := Spec.con_ok kR MR (fun _ => Nat.le_of_ble_eq_true rfl)
theorem KR_ok : ConOk Tryz.prog KR := con_cons aR con_nil
theorem eR_sound : HdSound Tryz.prog eR := hdT_sound mixed hno KR_ok _ _ _
end Go.Proofs.YtebdbhekdadhbaaGreatDoor
