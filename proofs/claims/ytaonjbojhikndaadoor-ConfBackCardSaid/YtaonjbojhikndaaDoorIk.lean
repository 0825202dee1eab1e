/- conf.Same, ref.Text, conf.Text of any configuration; ConfBack: its function answers yes. No conditions. -/
import Derived.Test.YtaonjbojhikndaaDoorIiV
namespace Go.Proofs.YtaonjbojhikndaaDoor
open Go Go.W
set_option maxRecDepth 100000
/-! ### conf.Same -/
theorem len_ne {m n : Nat} (h : ((m : Int) != (n : Int)) = true) : ¬ m = n := by
  have := bne_iff_ne.1 h
  omega
theorem len_eq {m n : Nat} (h : ((m : Int) != (n : Int)) = false) : m = n := by
  have : ¬ ((m : Int) ≠ (n : Int)) := fun h' => by rw [bne_iff_ne.2 h'] at h; cases h
  omega
theorem ok34 (x : A2L) (hp : S34.pre x = true) : OwesN e0 34 S34 (fun _ => []) (L34 x) noJ () x := by
  refine OwesN.mk ?_
  rw [v34]
  have hs : x.a.length ≤ 1000000 := small_le hp
  have no : x.eq = false → (x.eq = false ∧ True) := fun h => ⟨h, trivial⟩
  refine br (fun hl => no ?_) (fun hl => ?_)
  · unfold A2L.eq; rw [dF (len_ne hl)]; rfl
  have hl := len_eq hl
  refine ⟨⟨⟨0, Nat.zero_le _, rfl, hl⟩, ⟨rfl, rfl, rfl, rfl, trivial⟩, trivial⟩, fun y => ?_⟩
  have y1 := y.2.1
  have y2 := y.2.2.1
  have ey : ((y.1 : Int)).toNat = y.1 := by simp
  have wy : IntKind.i64.wrap ((y.1 : Int) + 1) = ((y.1 + 1 : Nat) : Int) := by rw [wrap_id] <;> omega
  rw [ey, wy]
  refine br (fun hlt => ?_) (fun hge => ?_)
  · have hlt : y.1 < x.a.length := by simpa using hlt
    refine brT (dTT (by omega)) (brT (dTT (by omega)) (br (fun hb => no ?_) (fun hb => ?_)))
    · have hb : (!(x.a.getD y.1 [] == x.b.getD y.1 [])) = true := hb
      have hb : x.p y.1 = false := by unfold A2L.p; simpa using hb
      unfold A2L.eq; rw [allI_not hlt hb, Bool.and_false]
    · have hb : (!(x.a.getD y.1 [] == x.b.getD y.1 [])) = false := hb
      have hb : x.p y.1 = true := by unfold A2L.p; simpa using hb
      refine ⟨⟨y.1 + 1, hlt, by show (allI x.p y.1 && x.p y.1) = true; rw [y2, hb]; rfl, hl⟩, ?_, ⟨rfl, rfl, rfl, rfl, trivial⟩, trivial⟩
      show x.a.length - (y.1 + 1) < _; omega
  · have hge : ¬ y.1 < x.a.length := by simpa using hge
    have hy : y.1 = x.a.length := by omega
    rw [hy] at y2
    refine ⟨?_, trivial⟩
    unfold A2L.eq; rw [dT hl, y2]; rfl
theorem k34 : SpecOk Tryd.prog 34 S34 := spec_loopN e0_sound (by kernel_rfl) (fun _ _ => []) L34 (fun _ => noJ) (fun _ => ()) ok34
theorem a34 : RowOK 34 (S34.con M34) := Spec.con_ok k34 M34 (fun _ => Nat.le_of_ble_eq_true rfl)
theorem ok37 (x : A2C) (hp : S37.pre x = true) : OwesN e0 37 S37 (fun _ => []) (L37 x) noJ () x := by
  refine OwesN.mk ?_
  rw [v37]
  have hs : x.a.length ≤ 1000000 := small_le hp
  have no : x.eq = false → (x.eq = false ∧ True) := fun h => ⟨h, trivial⟩
  refine br (fun hl => no ?_) (fun hl => ?_)
  · unfold A2C.eq; rw [dF (len_ne hl)]; rfl
  have hl := len_eq hl
  refine ⟨⟨⟨0, Nat.zero_le _, rfl, hl⟩, ⟨rfl, rfl, rfl, rfl, trivial⟩, trivial⟩, fun y => ?_⟩
  have y1 := y.2.1
  have y2 := y.2.2.1
  have ey : ((y.1 : Int)).toNat = y.1 := by simp
  have wy : IntKind.i64.wrap ((y.1 : Int) + 1) = ((y.1 + 1 : Nat) : Int) := by rw [wrap_id] <;> omega
  rw [ey, wy]
  refine br (fun hlt => ?_) (fun hge => ?_)
  · have hlt : y.1 < x.a.length := by simpa using hlt
    refine brT (dTT (by omega)) (brT (dTT (by omega)) (br (fun hb => no ?_) (fun hb => ?_)))
    · have hb : (!((x.a.getD y.1 cd).least == (x.b.getD y.1 cd).least && ((x.a.getD y.1 cd).most == (x.b.getD y.1 cd).most && true))) = true := hb
      have hb : x.p y.1 = false := by
        rw [Bool.and_true] at hb
        unfold A2C.p sameC; exact Eq.mp (Bool.not_eq_true' _) hb
      unfold A2C.eq; rw [allI_not hlt hb, Bool.and_false]
    · have hb : (!((x.a.getD y.1 cd).least == (x.b.getD y.1 cd).least && ((x.a.getD y.1 cd).most == (x.b.getD y.1 cd).most && true))) = false := hb
      have hb : x.p y.1 = true := by
        rw [Bool.and_true] at hb
        unfold A2C.p sameC; exact Eq.mp (Bool.not_eq_false' _) hb
      refine ⟨⟨y.1 + 1, hlt, by show (allI x.p y.1 && x.p y.1) = true; rw [y2, hb]; rfl, hl⟩, ?_, ⟨rfl, rfl, rfl, rfl, trivial⟩, trivial⟩
      show x.a.length - (y.1 + 1) < _; omega
  · have hge : ¬ y.1 < x.a.length := by simpa using hge
    have hy : y.1 = x.a.length := by omega
    rw [hy] at y2
    refine ⟨?_, trivial⟩
    unfold A2C.eq; rw [dT hl, y2]; rfl
theorem k37 : SpecOk Tryd.prog 37 S37 := spec_loopN e0_sound (by kernel_rfl) (fun _ _ => []) L37 (fun _ => noJ) (fun _ => ()) ok37
theorem a37 : RowOK 37 (S37.con M37) := Spec.con_ok k37 M37 (fun _ => Nat.le_of_ble_eq_true rfl)
theorem e36_sound : HdSound Tryd.prog e36 := hdT_sound mixed hno (con_cons a37 con_nil : ConOk Tryd.prog K36) _ _ _
theorem ok36 (x : A2Q) (hp : S36.pre x = true) : MeetsK e36 36 S36 x := by
  refine MeetsK.mk ?_
  rw [v36]
  refine br (fun h1 => br (fun h2 => brT hp ⟨?_, trivial⟩) (fun h2 => ⟨?_, trivial⟩)) (fun h1 => ⟨?_, trivial⟩)
  · unfold sameQ A2C.eq; rw [h1, h2]; rfl
  · unfold sameQ; rw [h2, Bool.false_and, Bool.and_false]
  · unfold sameQ; rw [h1]; rfl
theorem k36 : SpecOk Tryd.prog 36 S36 := spec_leaf e36_sound (by kernel_rfl) ok36
theorem a36 : RowOK 36 (S36.con M36) := Spec.con_ok k36 M36 (fun _ => Nat.le_of_ble_eq_true rfl)
theorem e37_sound : HdSound Tryd.prog e37 := hdT_sound mixed hno (con_cons a36 con_nil : ConOk Tryd.prog K37) _ _ _
theorem ok35 (x : A2S) (hp : S35.pre x = true) : OwesN e37 35 S35 (fun _ => []) (L35 x) noJ () x := by
  refine OwesN.mk ?_
  rw [v35]
  have hp : (small x.a.length && x.a.all fun q => small q.caps.length) = true := hp
  rw [Bool.and_eq_true] at hp
  have hs : x.a.length ≤ 1000000 := small_le hp.1
  have no : x.eq = false → (x.eq = false ∧ True) := fun h => ⟨h, trivial⟩
  refine br (fun hl => no ?_) (fun hl => ?_)
  · unfold A2S.eq; rw [dF (len_ne hl)]; rfl
  have hl := len_eq hl
  refine ⟨⟨⟨0, Nat.zero_le _, rfl, hl⟩, ⟨rfl, ⟨trivial, trivial⟩, rfl, rfl, rfl, trivial⟩, trivial⟩, fun y => ?_⟩
  have y1 := y.2.1
  have y2 := y.2.2.1
  have ey : ((y.1 : Int)).toNat = y.1 := by simp
  have wy : IntKind.i64.wrap ((y.1 : Int) + 1) = ((y.1 + 1 : Nat) : Int) := by rw [wrap_id] <;> omega
  rw [ey, wy]
  refine br (fun hlt => ?_) (fun hge => ?_)
  · have hlt : y.1 < x.a.length := by simpa using hlt
    have hq : small (x.a.getD y.1 qd).caps.length = true := List.all_eq_true.1 hp.2 _ (by simp [List.getD, hlt])
    refine brT (dTT (by omega)) (brT (dTT (by omega)) (brT hq (br (fun hb => no ?_) (fun hb => ?_))))
    · have hb : x.p y.1 = false := Eq.mp (Bool.not_eq_true' _) hb
      unfold A2S.eq; rw [allI_not hlt hb, Bool.and_false]
    · have hb : x.p y.1 = true := Eq.mp (Bool.not_eq_false' _) hb
      refine ⟨⟨y.1 + 1, hlt, by show (allI x.p y.1 && x.p y.1) = true; rw [y2, hb]; rfl, hl⟩, ?_, ⟨rfl, ⟨trivial, trivial⟩, rfl, rfl, rfl, trivial⟩, trivial⟩
      show x.a.length - (y.1 + 1) < _; omega
  · have hge : ¬ y.1 < x.a.length := by simpa using hge
    have hy : y.1 = x.a.length := by omega
    rw [hy] at y2
    refine ⟨?_, trivial⟩
    unfold A2S.eq; rw [dT hl, y2]; rfl
theorem k35 : SpecOk Tryd.prog 35 S35 := spec_loopN e37_sound (by kernel_rfl) (fun _ _ => []) L35 (fun _ => noJ) (fun _ => ()) ok35
theorem a35 : RowOK 35 (S35.con M35) := Spec.con_ok k35 M35 (fun _ => Nat.le_of_ble_eq_true rfl)
theorem e38_sound : HdSound Tryd.prog e38 := hdT_sound mixed hno (con_cons a34 (con_cons a35 con_nil) : ConOk Tryd.prog K38) _ _ _
theorem sameM_two (a : ASm) : sameM a = ((A2L.mk a.la a.lb).eq && (A2S.mk a.qa a.qb).eq) := by
  show (decide (a.la.length = a.lb.length) && (decide (a.qa.length = a.qb.length) && (allI a.lp a.la.length && allI a.qp a.qa.length))) = ((decide (a.la.length = a.lb.length) && allI a.lp a.la.length) && (decide (a.qa.length = a.qb.length) && allI a.qp a.qa.length))
  cases decide (a.la.length = a.lb.length) <;> cases decide (a.qa.length = a.qb.length) <;> cases allI a.lp a.la.length <;> cases allI a.qp a.qa.length <;> rfl
theorem ok21 (a : ASm) (hp : S21.pre a = true) : MeetsK e38 21 S21 a := by
  refine MeetsK.mk ?_
  rw [v21]
  have hp : ASm.fine a = true := hp
  simp only [ASm.fine, Bool.and_eq_true] at hp
  refine brT hp.1.1 (br (fun h1 => brT ?_ ⟨?_, trivial⟩) (fun h1 => ⟨?_, trivial⟩))
  · show (small a.qa.length && a.qa.all fun q => small q.caps.length) = true
    rw [Bool.and_eq_true]; exact ⟨hp.1.2, hp.2⟩
  · rw [sameM_two, h1]; rfl
  · rw [sameM_two, h1]; rfl
theorem k21 : SpecOk Tryd.prog 21 S21 := spec_leaf e38_sound (by kernel_rfl) ok21
theorem a21 : RowOK 21 (S21.con M21) := Spec.con_ok k21 M21 (fun _ => Nat.le_of_ble_eq_true rfl)
/-! ### Decimal at every number -/
theorem decN_small {n : Int} (h0 : 0 ≤ n) (h : n < 10) : ∀ k, decN k n = digB n
  | 0 => rfl
  | k + 1 => by unfold decN; rw [dF (by omega : ¬ 10 ≤ n)]; rfl
theorem decN_eq : ∀ (k : Nat) (n : Int), 0 ≤ n → n < 10 ^ (k + 1) → decN k n = Lib.decDigits n.toNat
  | 0, n, h0, h => by
    have h : n < 10 := h
    show [UInt8.ofNat (48 + n.toNat)] = _
    rw [dec_small (by omega)]
  | k + 1, n, h0, h => by
    by_cases h10 : n < 10
    · rw [decN_small h0 h10, dec_small (by omega)]; rfl
    · have s2 : (10 : Int) ^ (k + 1 + 1) = 10 ^ (k + 1) * 10 := Int.pow_succ ..
      have t1 : n.tdiv 10 = n / 10 := Int.tdiv_eq_ediv_of_nonneg h0
      have t2 : n.tmod 10 = n % 10 := Int.tmod_eq_emod_of_nonneg h0
      show (bif decide (10 ≤ n) then decN k (n.tdiv 10) ++ decN k (n.tmod 10) else digB n) = _
      rw [dT (by omega : 10 ≤ n), cond_true, t1, t2, decN_eq k (n / 10) (by omega) (by omega), decN_small (n := n % 10) (by omega) (by omega), dec_big (by omega : ¬ n.toNat < 10)]
      have e1 : (n / 10).toNat = n.toNat / 10 := by omega
      have e2 : (n % 10).toNat = n.toNat % 10 := by omega
      rw [e1]
      show _ ++ [UInt8.ofNat (48 + (n % 10).toNat)] = _
      rw [e2]
theorem a22b : RowOK 22 ((SI (p22 18) (q22 18)).con (MI (p22 18) (q22 18))) := by
  refine Spec.con_ok ⟨k22_0.1, fun (n : Int) hn => ?_⟩ _ (fun _ => Nat.le_of_ble_eq_true rfl)
  have hn : p22 18 n = true := hn
  obtain ⟨h1, h2⟩ := p22_is hn
  by_cases h10 : n < 10
  · have e : (SI (p22 18) (q22 18)).out n = (SI (p22 0) (q22 0)).out n := by
      show q22 18 n = q22 0 n
      unfold q22
      rw [decN_small h1 h10, decN_small h1 h10]
    rw [e]
    exact k22_0.2 n (p22_of h1 (by show n < 10; exact h10))
  · have hT : ConOk Tryd.prog (K26 17) := con_cons (a22 17 (by decide)) con_nil
    have hE : HdSound Tryd.prog (e26 17) := hdT_sound mixed hno hT _ _ _
    have key : SpecOk Tryd.prog 22 (SI (fun m => p22 18 m && decide (10 ≤ m)) (q22 18)) := by
      refine spec_loopN hE (by kernel_rfl) (fun _ _ => []) (fun _ => noL) (fun _ => J22) (fun _ => (0 : Nat)) (fun (m : Int) hm => OwesN.mk ?_)
      have hm : (p22 18 m && decide (10 ≤ m)) = true := hm
      rw [Bool.and_eq_true] at hm
      obtain ⟨m1, m2⟩ := p22_is hm.1
      have m10 : 10 ≤ m := of_decide_eq_true hm.2
      have hE' := v22 17 m
      refine Eq.mpr hE' ?_
      have e18 : (10 : Int) ^ (17 + 1) = 1000000000000000000 := rfl
      have e19 : (10 : Int) ^ (18 + 1) = 10000000000000000000 := rfl
      have t1 : m.tdiv 10 = m / 10 := Int.tdiv_eq_ediv_of_nonneg m1
      have t2 : m.tmod 10 = m % 10 := Int.tmod_eq_emod_of_nonneg m1
      have w1 : IntKind.i64.wrap (m.tdiv 10) = m.tdiv 10 := by rw [t1, wrap_id] <;> omega
      have l1 := dec_len 17 (m.tdiv 10)
      have l2 := dec_len 17 (m.tmod 10)
      have l4 : 2 ^ 17 = 131072 := rfl
      rw [w1]
      refine brF (dF (by omega)) ⟨brT (dT (by omega)) (brT ?_ (brT ?_ (brT ?_ ⟨?_, trivial⟩))), fun x => x.2.elim⟩
      · show p22 17 (m.tdiv 10) = true
        rw [t1]; exact p22_of (by omega) (by omega)
      · show p22 17 (m.tmod 10) = true
        rw [t2]; exact p22_of (by omega) (by omega)
      · exact Nat.ble_eq_true_of_le (by omega)
      · show (bif decide (10 ≤ m) then decN 17 (m.tdiv 10) ++ decN 17 (m.tmod 10) else digB m) = _
        rw [dT m10]; rfl
    exact key.2 n (by show (p22 18 n && decide (10 ≤ n)) = true; rw [hn, dT (by omega : 10 ≤ n)]; rfl)
theorem a22g : RowOK 22 (S22.con (MI _ _)) := by
  refine Spec.con_ok ⟨k22_0.1, fun (n : Int) hn => ?_⟩ _ (fun _ => Nat.le_of_ble_eq_true rfl)
  have hn : okI n = true := hn
  obtain ⟨h1, h2⟩ := okI_is hn
  by_cases h10 : 0 ≤ n ∧ n < 10
  · have e : S22.out n = (SI (p22 0) (q22 0)).out n := by
      show (Out.ret (ks (numI n), []) : QO) = q22 0 n
      unfold q22
      rw [decN_eq 0 n h10.1 h10.2, numI_nonneg h10.1]; rfl
    rw [e]
    exact k22_0.2 n (p22_of h10.1 h10.2)
  · have hT : ConOk Tryd.prog (K26 18) := con_cons a22b con_nil
    have hE : HdSound Tryd.prog (e26 18) := hdT_sound mixed hno hT _ _ _
    have key : SpecOk Tryd.prog 22 (SI (fun m => okI m && !decide (0 ≤ m ∧ m < 10)) fun n => .ret (ks (numI n), [])) := by
      refine spec_loopN hE (by kernel_rfl) (fun _ _ => []) (fun _ => noL) (fun _ => J22) (fun _ => (0 : Nat)) (fun (m : Int) hm => OwesN.mk ?_)
      have hm : (okI m && !decide (0 ≤ m ∧ m < 10)) = true := hm
      rw [Bool.and_eq_true] at hm
      obtain ⟨m1, m2⟩ := okI_is hm.1
      have m10 : ¬ (0 ≤ m ∧ m < 10) := fun h => by have := hm.2; rw [dT h] at this; cases this
      refine Eq.mpr (v22g m) ?_
      have e19 : (10 : Int) ^ (18 + 1) = 10000000000000000000 := rfl
      have l4 : 2 ^ 18 = 262144 := rfl
      refine br (fun hneg => ?_) (fun hpos => ⟨?_, fun x => x.2.elim⟩)
      · have hneg : m < 0 := of_decide_eq_true hneg
        have hi : numI m = 45 :: Lib.decDigits m.natAbs := by unfold numI Lib.itoa; rw [if_pos hneg]
        refine br (fun hmin => ⟨?_, trivial⟩) (fun hmin => brT ?_ (brT ?_ ⟨?_, trivial⟩))
        · have hmin : m = -9223372036854775808 := beq_iff_eq.1 hmin
          subst hmin
          rw [hi]
          have := decN_eq 18 9223372036854775808 (by decide) (by decide)
          show 45 :: Lib.decDigits (9223372036854775808 : Int).toNat = _
          rw [← this]
          kernel_rfl
        · have hmin : m ≠ -9223372036854775808 := beq_eq_false_iff_ne.1 hmin
          show p22 18 (IntKind.i64.wrap (0 - m)) = true
          rw [wrap_id (by omega) (by omega)]
          exact p22_of (by omega) (by omega)
        · have l1 := dec_len 18 (IntKind.i64.wrap (0 - m))
          exact Nat.ble_eq_true_of_le (by omega)
        · have hmin : m ≠ -9223372036854775808 := beq_eq_false_iff_ne.1 hmin
          rw [hi, wrap_id (by omega) (by omega), decN_eq 18 (0 - m) (by omega) (by omega)]
          have : (0 - m).toNat = m.natAbs := by omega
          rw [this]; rfl
      · have hpos : ¬ m < 0 := of_decide_eq_false hpos
        have m0 : 0 ≤ m := by omega
        have t1 : m.tdiv 10 = m / 10 := Int.tdiv_eq_ediv_of_nonneg m0
        have t2 : m.tmod 10 = m % 10 := Int.tmod_eq_emod_of_nonneg m0
        have w1 : IntKind.i64.wrap (m.tdiv 10) = m.tdiv 10 := by rw [t1, wrap_id] <;> omega
        have l1 := dec_len 18 (m.tdiv 10)
        have l2 := dec_len 18 (m.tmod 10)
        rw [w1]
        refine brT (dT (by omega)) (brT ?_ (brT ?_ (brT ?_ ⟨?_, trivial⟩)))
        · show p22 18 (m.tdiv 10) = true
          rw [t1]; exact p22_of (by omega) (by omega)
        · show p22 18 (m.tmod 10) = true
          rw [t2]; exact p22_of (by omega) (by omega)
        · exact Nat.ble_eq_true_of_le (by omega)
        · rw [numI_nonneg m0, t1, t2, decN_small (n := m % 10) (by omega) (by omega), decN_eq 18 (m / 10) (by omega) (by omega)]
          unfold numT
          rw [dec_big (by omega : ¬ m.toNat < 10)]
          have e1 : (m / 10).toNat = m.toNat / 10 := by omega
          have e2 : (m % 10).toNat = m.toNat % 10 := by omega
          rw [e1]
          show _ = _ ++ [UInt8.ofNat (48 + (m % 10).toNat)]
          rw [e2]
    exact key.2 n (by show (okI n && !decide (0 ≤ n ∧ n < 10)) = true; rw [hn, dF h10]; rfl)
theorem e39_sound : HdSound Tryd.prog e39 := hdT_sound mixed hno (con_cons a22g con_nil : ConOk Tryd.prog K39) _ _ _
/-! ### Texts of any configuration -/
structure AT.Big (a : AT) : Prop where
  l : a.la.length ≤ 10
  ls : ∀ j, (a.la.getD j []).length ≤ 140737488355328
  q : a.qs.length ≤ 20
  qs : ∀ j, j < a.qs.length → OkQ (a.qs.getD j qd)
theorem AT.big_is {a : AT} (h : a.big = true) : a.Big := by
  simp only [AT.big, Bool.and_eq_true] at h
  refine ⟨Nat.le_of_ble_eq_true h.1.1.1, fun j => ?_, Nat.le_of_ble_eq_true h.1.2, fun j hj => okQ_is (List.all_eq_true.1 h.2 _ (by simp [List.getD, hj]))⟩
  by_cases hj : j < a.la.length
  · exact Nat.le_of_ble_eq_true (List.all_eq_true.1 h.1.1.2 _ (getD_mem hj))
  · rw [List.getD_eq_getElem?_getD, List.getElem?_eq_none (by omega)]; exact Nat.zero_le _
theorem tL_lenB {a : AT} (h : a.Big) : ∀ k, (tL a.la k).length ≤ 6 + 140737488355329 * k
  | 0 => Nat.le_refl _
  | k + 1 => by
    have h1 := tL_lenB h k
    have h2 := h.ls k
    show (bif Nat.beq k 0 then wLabels else tL a.la k ++ ([32] ++ a.la.getD k [])).length ≤ _
    cases Nat.beq k 0 with
    | true => show 6 ≤ _; omega
    | false => rw [cond_false, List.length_append, List.length_append]; simp only [List.length_cons, List.length_nil]; omega
theorem tQ_lenB {a : AT} (h : a.Big) (t : B) : ∀ k, k ≤ a.qs.length → (tQ a.qs t k).length ≤ t.length + 2469 * k
  | 0, _ => Nat.le_refl _
  | k + 1, hk => by
    have h1 := tQ_lenB h t k (by omega)
    have hq := h.qs k (by omega)
    have h2 := qH_len hq (tQ a.qs t k)
    have h3 := tC_len hq (qH (tQ a.qs t k) (a.qs.getD k qd)) _ (Nat.le_refl _)
    have h4 := hq.c
    show (tC _ _ _ ++ [10]).length ≤ _
    rw [List.length_append]; simp only [List.length_cons, List.length_nil]; omega
theorem tA_lenB {a : AT} (h : a.Big) : (tA a.la).length ≤ 1407374883553297 := by
  have h1 := tL_lenB h a.la.length
  have h2 := h.l
  unfold tA
  rw [List.length_append]; simp only [List.length_cons, List.length_nil]; omega
theorem txL_lenB {a : AT} (h : a.Big) : ∀ k, (txL a.la k).length ≤ 6 + 140737488355329 * k
  | 0 => Nat.le_refl _
  | k + 1 => by
    have := txL_lenB h k
    have := h.ls (k + 1)
    show (txL a.la k ++ [32] ++ a.la.getD (k + 1) []).length ≤ _
    rw [List.length_append, List.length_append]; simp only [List.length_cons, List.length_nil]; omega
theorem txA_lenB {a : AT} (h : a.Big) : (txA a.la).length ≤ 1407374883553297 := by
  have := txL_lenB h (a.la.length - 1)
  have := h.l
  unfold txA
  rw [List.length_append]; simp only [List.length_cons, List.length_nil]; omega
theorem uC_len {q : Qu} (h : OkQ q) (a : B) : ∀ k, k ≤ q.caps.length → (uC q.caps a k).length ≤ a.length + 44 * k
  | 0, _ => Nat.le_refl _
  | k + 1, hk => by
    have h1 := uC_len h a k (by omega)
    have h2 := numI_len (h.cs k (by omega)).1
    have h3 := numI_len (h.cs k (by omega)).2
    show (uC q.caps a k ++ [32] ++ numI (q.caps.getD k cd).least ++ [47] ++ numI (q.caps.getD k cd).most).length ≤ _
    rw [List.length_append, List.length_append, List.length_append, List.length_append]; simp only [List.length_cons, List.length_nil]; omega
theorem uH_len {q : Qu} (h : OkQ q) (a : B) : (uH a q).length ≤ a.length + 2028 := by
  have h1 := numI_len h.u
  have h2 := h.p
  unfold uH
  rw [List.length_append, List.length_append, List.length_append, List.length_append]; simp only [List.length_cons, List.length_nil]; omega
theorem uQ_len {a : AT} (h : a.Big) (t : B) : ∀ k, k ≤ a.qs.length → (uQ a.qs t k).length ≤ t.length + 2469 * k
  | 0, _ => Nat.le_refl _
  | k + 1, hk => by
    have h1 := uQ_len h t k (by omega)
    have hq := h.qs k (by omega)
    have h2 := uH_len hq (uQ a.qs t k)
    have h3 := uC_len hq (uH (uQ a.qs t k) (a.qs.getD k qd)) _ (Nat.le_refl _)
    have h4 := hq.c
    show (uC _ _ _ ++ [10]).length ≤ _
    rw [List.length_append]; simp only [List.length_cons, List.length_nil]; omega
theorem ok13g (a : AT) (hp : S13g.pre a = true) : OwesN e39 13 S13g (fun _ => []) (L13g a) noJ (0 : Nat) a := by
  refine OwesN.mk ?_
  rw [v13g]
  have hf := AT.big_is (a := a) hp
  have f1 := hf.l
  have f3 := hf.q
  have fA := txA_lenB hf
  refine ⟨⟨⟨0, .inr rfl⟩, ⟨⟨rfl, rfl⟩, rfl, rfl, trivial⟩, ⟨⟨rfl, rfl, trivial⟩, trivial⟩, trivial⟩, fun x => ?_⟩
  have x1 := x.2
  have x2 := txL_lenB hf x.1
  have x3 := hf.ls (x.1 + 1)
  have ex : (((x.1 + 1 : Nat) : Int)).toNat = x.1 + 1 := by simp
  have wx : IntKind.i64.wrap (((x.1 + 1 : Nat) : Int) + 1) = ((x.1 + 1 + 1 : Nat) : Int) := by rw [wrap_id] <;> omega
  rw [ex, wx]
  refine br (fun hlt => ?_) (fun hge => ?_)
  · have hlt : x.1 + 1 < a.la.length := by have := of_decide_eq_true hlt; omega
    refine brT (Nat.ble_eq_true_of_le (by omega)) (brT (dTT (by omega)) (brT (Nat.ble_eq_true_of_le ?_) ?_))
    · rw [List.length_append]; simp only [List.length_cons, List.length_nil]; omega
    · refine ⟨⟨x.1 + 1, .inl (by omega)⟩, ?_, ⟨⟨rfl, rfl⟩, rfl, rfl, trivial⟩, ⟨⟨rfl, rfl, trivial⟩, trivial⟩, trivial⟩
      show a.la.length - (x.1 + 1) < _; omega
  have hge : ¬ x.1 + 1 < a.la.length := by
    have := of_decide_eq_false hge
    omega
  have hxA : txA a.la = txL a.la x.1 ++ [10] := by
    unfold txA
    rw [show a.la.length - 1 = x.1 by omega]
  refine brT (Nat.ble_eq_true_of_le (by omega)) ⟨⟨⟨0, Nat.zero_le _⟩, ⟨⟨rfl, rfl⟩, hxA, rfl, trivial⟩, ⟨⟨rfl, rfl, trivial⟩, trivial⟩, trivial⟩, fun y => ?_⟩
  have y1 := y.2
  have y2 := uQ_len hf (txA a.la) y.1 y1
  have ey : ((y.1 : Int)).toNat = y.1 := by simp
  have wy : IntKind.i64.wrap ((y.1 : Int) + 1) = ((y.1 + 1 : Nat) : Int) := by rw [wrap_id] <;> omega
  rw [ey, wy]
  refine br (fun hlt => ?_) (fun hge => ?_)
  · have hlt : y.1 < a.qs.length := by simpa using hlt
    have hq := hf.qs y.1 hlt
    have q1 := hq.p
    have q2 := hq.c
    have q3 := uH_len hq (uQ a.qs (txA a.la) y.1)
    have q4 := numI_len hq.u
    refine brT (dTT (by omega)) (brT (Nat.ble_eq_true_of_le (by omega)) (brT (Nat.ble_eq_true_of_le ?_) (brT (Nat.ble_eq_true_of_le ?_) (brT ?_ (brT (Nat.ble_eq_true_of_le ?_) ?_)))))
    · show (uQ a.qs (txA a.la) y.1 ++ [113, 117, 101, 117, 101, 32]).length + (a.qs.getD y.1 qd).path.length ≤ _
      rw [List.length_append]; simp only [List.length_cons, List.length_nil]; omega
    · show (uQ a.qs (txA a.la) y.1 ++ [113, 117, 101, 117, 101, 32] ++ (a.qs.getD y.1 qd).path).length + 1 ≤ _
      rw [List.length_append, List.length_append]; simp only [List.length_cons, List.length_nil]; omega
    · exact hq.u
    · show (uQ a.qs (txA a.la) y.1 ++ [113, 117, 101, 117, 101, 32] ++ (a.qs.getD y.1 qd).path ++ [32]).length + (numI (a.qs.getD y.1 qd).user).length ≤ _
      rw [List.length_append, List.length_append, List.length_append]; simp only [List.length_cons, List.length_nil]; omega
    refine ⟨⟨⟨0, Nat.zero_le _⟩, ⟨⟨rfl, rfl⟩, rfl, rfl, ⟨rfl, rfl⟩, rfl, trivial⟩, ⟨⟨rfl, rfl, trivial⟩, trivial⟩, ⟨⟨rfl, rfl, rfl, trivial⟩, trivial⟩, trivial⟩, fun z => ?_⟩
    have z1 := z.2
    have z2 := uC_len hq (uH (uQ a.qs (txA a.la) y.1) (a.qs.getD y.1 qd)) z.1 z1
    have ez : ((z.1 : Int)).toNat = z.1 := by simp
    have wz : IntKind.i64.wrap ((z.1 : Int) + 1) = ((z.1 + 1 : Nat) : Int) := by rw [wrap_id] <;> omega
    rw [ez, wz]
    refine br (fun hl3 => ?_) (fun hg3 => ?_)
    · have hl3 : z.1 < (a.qs.getD y.1 qd).caps.length := by have := of_decide_eq_true hl3; exact Int.ofNat_lt.1 this
      have c1 := hq.cs z.1 hl3
      have d1 := numI_len c1.1
      have d2 := numI_len c1.2
      refine brT (Nat.ble_eq_true_of_le (by omega)) (brT (dTT (Int.ofNat_lt.2 hl3)) (brT c1.1 (brT (Nat.ble_eq_true_of_le ?_) (brT (Nat.ble_eq_true_of_le ?_) (brT (dTT (Int.ofNat_lt.2 hl3)) (brT c1.2 (brT (Nat.ble_eq_true_of_le ?_) ?_)))))))
      · show (uC _ _ z.1 ++ [32]).length + (numI ((a.qs.getD y.1 qd).caps.getD z.1 cd).least).length ≤ _
        rw [List.length_append]; simp only [List.length_cons, List.length_nil]; omega
      · show (uC _ _ z.1 ++ [32] ++ numI ((a.qs.getD y.1 qd).caps.getD z.1 cd).least).length + 1 ≤ _
        rw [List.length_append, List.length_append]; simp only [List.length_cons, List.length_nil]; omega
      · show (uC _ _ z.1 ++ [32] ++ numI ((a.qs.getD y.1 qd).caps.getD z.1 cd).least ++ [47]).length + (numI ((a.qs.getD y.1 qd).caps.getD z.1 cd).most).length ≤ _
        rw [List.length_append, List.length_append, List.length_append]; simp only [List.length_cons, List.length_nil]; omega
      · refine ⟨⟨z.1 + 1, hl3⟩, ?_, ⟨⟨rfl, rfl⟩, rfl, rfl, ⟨rfl, rfl⟩, rfl, trivial⟩, ⟨⟨rfl, rfl, trivial⟩, trivial⟩, ⟨⟨rfl, rfl, rfl, trivial⟩, trivial⟩, trivial⟩
        show (a.qs.getD y.1 qd).caps.length - (z.1 + 1) < _; omega
    · have hg3 : ¬ z.1 < (a.qs.getD y.1 qd).caps.length := by
        have := of_decide_eq_false hg3
        exact fun h => this (Int.ofNat_lt.2 h)
      have hz : z.1 = (a.qs.getD y.1 qd).caps.length := by omega
      refine brT (Nat.ble_eq_true_of_le (by omega)) ⟨⟨y.1 + 1, hlt⟩, ?_, ⟨⟨rfl, rfl⟩, ?_, rfl, trivial⟩, ⟨⟨rfl, rfl, trivial⟩, trivial⟩, trivial⟩
      · show a.qs.length - (y.1 + 1) < _; omega
      · rw [hz]; rfl
  · have hge : ¬ y.1 < a.qs.length := by simpa using hge
    refine ⟨?_, trivial⟩
    exact congrArg (uQ a.qs (txA a.la)) (show a.qs.length = y.1 by omega)
theorem k13g : SpecOk Tryd.prog 13 S13g := spec_loopN e39_sound (by kernel_rfl) (fun _ _ => []) L13g (fun _ => noJ) (fun _ => 0) ok13g
theorem a13g : RowOK 13 (S13g.con (MT _ _)) := Spec.con_ok k13g _ (fun _ => Nat.le_of_ble_eq_true rfl)
theorem ok20g (a : AT) (hp : S20g.pre a = true) : OwesN e31 20 S20g (fun _ => []) (L20 a) noJ (0 : Nat) a := by
  refine OwesN.mk ?_
  rw [v20g]
  have hf := AT.big_is (a := a) hp
  have f1 := hf.l
  have f3 := hf.q
  have fA := tA_lenB hf
  refine ⟨⟨⟨0, Nat.zero_le _⟩, ⟨⟨rfl, rfl⟩, rfl, rfl, rfl, rfl, trivial⟩, ⟨⟨rfl, rfl, trivial⟩, trivial⟩, trivial⟩, fun x => ?_⟩
  have x1 := x.2
  have x2 := tL_lenB hf x.1
  have x3 := hf.ls x.1
  have ex : ((x.1 : Int)).toNat = x.1 := by simp
  have wx : IntKind.i64.wrap ((x.1 : Int) + 1) = ((x.1 + 1 : Nat) : Int) := by rw [wrap_id] <;> omega
  rw [ex, wx]
  refine br (fun hlt => brT ?_ (br (fun h0 => ?_) (fun h0 => ?_))) (fun hge => ?_)
  · rw [Bool.and_true, Bool.and_true]; exact hlt
  · have hlt : x.1 < a.la.length := by simpa using hlt
    have h0 : ¬ x.1 = 0 := by
      have := of_decide_eq_true h0
      omega
    refine brT (Nat.ble_eq_true_of_le (by omega)) (brT (Nat.ble_eq_true_of_le ?_) ?_)
    · rw [List.length_append]; simp only [List.length_cons, List.length_nil]; omega
    · refine ⟨⟨x.1 + 1, hlt⟩, ?_, ⟨⟨rfl, rfl⟩, ?_, rfl, rfl, rfl, trivial⟩, ⟨⟨rfl, rfl, trivial⟩, trivial⟩, trivial⟩
      · show a.la.length - (x.1 + 1) < _; omega
      · show (bif Nat.beq x.1 0 then wLabels else tL a.la x.1 ++ ([32] ++ a.la.getD x.1 [])) = _
        have : Nat.beq x.1 0 = false := by
          cases h : Nat.beq x.1 0 with
          | false => rfl
          | true => exact (h0 (Nat.eq_of_beq_eq_true h)).elim
        rw [this]; rfl
  · have hlt : x.1 < a.la.length := by simpa using hlt
    have h0 : x.1 = 0 := by
      have := of_decide_eq_false h0
      omega
    refine ⟨⟨x.1 + 1, hlt⟩, ?_, ⟨⟨rfl, rfl⟩, ?_, rfl, rfl, rfl, trivial⟩, ⟨⟨rfl, rfl, trivial⟩, trivial⟩, trivial⟩
    · show a.la.length - (x.1 + 1) < _; omega
    · show tL a.la (x.1 + 1) = tL a.la x.1
      rw [h0]; rfl
  have hge : ¬ x.1 < a.la.length := by simpa using hge
  have hx : x.1 = a.la.length := by omega
  refine brT (Nat.ble_eq_true_of_le (by omega)) ⟨⟨⟨0, Nat.zero_le _⟩, ⟨⟨rfl, rfl⟩, by rw [hx]; rfl, rfl, rfl, rfl, trivial⟩, ⟨⟨rfl, rfl, trivial⟩, trivial⟩, trivial⟩, fun y => ?_⟩
  have y1 := y.2
  have y2 := tQ_lenB hf (tA a.la) y.1 y1
  have ey : ((y.1 : Int)).toNat = y.1 := by simp
  have wy : IntKind.i64.wrap ((y.1 : Int) + 1) = ((y.1 + 1 : Nat) : Int) := by rw [wrap_id] <;> omega
  rw [ey, wy]
  refine br (fun hlt => ?_) (fun hge => ?_)
  · have hlt : y.1 < a.qs.length := by simpa using hlt
    have hq := hf.qs y.1 hlt
    have q1 := hq.p
    have q2 := hq.c
    have q3 := qH_len hq (tQ a.qs (tA a.la) y.1)
    have q4 := numI_len hq.u
    refine brT (dTT (by omega)) (brT (Nat.ble_eq_true_of_le (show 6 + (a.qs.getD y.1 qd).path.length ≤ _ by omega)) (brT (Nat.ble_eq_true_of_le ?_) (brT hq.u (brT (Nat.ble_eq_true_of_le ?_) (brT (Nat.ble_eq_true_of_le ?_) ?_)))))
    · show ([113, 117, 101, 117, 101, 32] ++ (a.qs.getD y.1 qd).path).length + 1 ≤ _
      rw [List.length_append]; simp only [List.length_cons, List.length_nil]; omega
    · show ([113, 117, 101, 117, 101, 32] ++ (a.qs.getD y.1 qd).path ++ [32]).length + (numI (a.qs.getD y.1 qd).user).length ≤ _
      rw [List.length_append, List.length_append]; simp only [List.length_cons, List.length_nil]; omega
    · show (tQ a.qs (tA a.la) y.1).length + ([113, 117, 101, 117, 101, 32] ++ (a.qs.getD y.1 qd).path ++ [32] ++ numI (a.qs.getD y.1 qd).user).length ≤ _
      rw [List.length_append, List.length_append, List.length_append]; simp only [List.length_cons, List.length_nil]; omega
    refine ⟨⟨⟨0, Nat.zero_le _⟩, ⟨⟨rfl, rfl⟩, rfl, rfl, rfl, rfl, rfl, rfl, rfl, trivial⟩, ⟨⟨rfl, rfl, trivial⟩, trivial⟩, trivial⟩, fun z => ?_⟩
    have z1 := z.2
    have z2 := tC_len hq (qH (tQ a.qs (tA a.la) y.1) (a.qs.getD y.1 qd)) z.1 z1
    have ez : ((z.1 : Int)).toNat = z.1 := by simp
    have wz : IntKind.i64.wrap ((z.1 : Int) + 1) = ((z.1 + 1 : Nat) : Int) := by rw [wrap_id] <;> omega
    rw [ez, wz]
    refine br (fun hl3 => ?_) (fun hg3 => ?_)
    · have hl3 : z.1 < (a.qs.getD y.1 qd).caps.length := by have := of_decide_eq_true hl3; exact Int.ofNat_lt.1 this
      have c1 := hq.cs z.1 hl3
      have d1 := numI_len c1.1
      have d2 := numI_len c1.2
      refine brT (dTT (Int.ofNat_lt.2 hl3)) (brT c1.1 (brT (Nat.ble_eq_true_of_le (show 1 + (numI ((a.qs.getD y.1 qd).caps.getD z.1 cd).least).length ≤ _ by omega)) (brT (Nat.ble_eq_true_of_le ?_) (brT c1.2 (brT (Nat.ble_eq_true_of_le ?_) (brT (Nat.ble_eq_true_of_le ?_) ?_))))))
      · show ([32] ++ numI ((a.qs.getD y.1 qd).caps.getD z.1 cd).least).length + 1 ≤ _
        rw [List.length_append]; simp only [List.length_cons, List.length_nil]; omega
      · show ([32] ++ numI ((a.qs.getD y.1 qd).caps.getD z.1 cd).least ++ [47]).length + (numI ((a.qs.getD y.1 qd).caps.getD z.1 cd).most).length ≤ _
        rw [List.length_append, List.length_append]; simp only [List.length_cons, List.length_nil]; omega
      · have := cT_len c1
        show (tC _ _ z.1).length + (cT ((a.qs.getD y.1 qd).caps.getD z.1 cd)).length ≤ _
        omega
      · refine ⟨⟨z.1 + 1, hl3⟩, ?_, ⟨⟨rfl, rfl⟩, rfl, rfl, rfl, rfl, rfl, rfl, rfl, trivial⟩, ⟨⟨rfl, rfl, trivial⟩, trivial⟩, trivial⟩
        show (a.qs.getD y.1 qd).caps.length - (z.1 + 1) < _; omega
    · have hg3 : ¬ z.1 < (a.qs.getD y.1 qd).caps.length := by
        have := of_decide_eq_false hg3
        exact fun h => this (Int.ofNat_lt.2 h)
      have hz : z.1 = (a.qs.getD y.1 qd).caps.length := by omega
      refine brT (Nat.ble_eq_true_of_le (by omega)) ⟨⟨y.1 + 1, hlt⟩, ?_, ⟨⟨rfl, rfl⟩, ?_, rfl, rfl, rfl, trivial⟩, ⟨⟨rfl, rfl, trivial⟩, trivial⟩, trivial⟩
      · show a.qs.length - (y.1 + 1) < _; omega
      · rw [hz]; rfl
  · have hge : ¬ y.1 < a.qs.length := by simpa using hge
    refine ⟨?_, trivial⟩
    exact congrArg (tQ a.qs (tA a.la)) (show a.qs.length = y.1 by omega)
theorem k20g : SpecOk Tryd.prog 20 S20g := spec_loopN e31_sound (by kernel_rfl) (fun _ _ => []) L20 (fun _ => noJ) (fun _ => 0) ok20g
theorem a20g : RowOK 20 (S20g.con (MT _ _)) := Spec.con_ok k20g _ (fun _ => Nat.le_of_ble_eq_true rfl)
/-! ### The two texts are one -/
theorem tC_u (cs : List Cp) (a : B) : ∀ k, tC cs a k = uC cs a k
  | 0 => rfl
  | k + 1 => by
    show tC cs a k ++ cT (cs.getD k cd) = uC cs a k ++ [32] ++ numI (cs.getD k cd).least ++ [47] ++ numI (cs.getD k cd).most
    rw [tC_u cs a k]
    unfold cT
    simp only [List.append_assoc]
theorem qH_u (a : B) (q : Qu) : qH a q = uH a q := by
  unfold qH uH
  simp only [List.append_assoc]
theorem tQ_u (qs : List Qu) (a : B) : ∀ k, tQ qs a k = uQ qs a k
  | 0 => rfl
  | k + 1 => by
    show tC (qs.getD k qd).caps (qH (tQ qs a k) (qs.getD k qd)) (qs.getD k qd).caps.length ++ [10] = _
    rw [tC_u, qH_u, tQ_u qs a k]; rfl
theorem tL_u (la : List B) : ∀ k, tL la (k + 1) = txL la k
  | 0 => rfl
  | k + 1 => by
    show tL la (k + 1) ++ ([32] ++ la.getD (k + 1) []) = txL la k ++ [32] ++ la.getD (k + 1) []
    rw [tL_u la k, List.append_assoc]
theorem tA_u (la : List B) : tA la = txA la := by
  unfold tA txA
  cases la with
  | nil => rfl
  | cons a l => exact congrArg (· ++ [10]) (tL_u (a :: l) l.length)
theorem text_u (la : List B) (qs : List Qu) : textI la qs = textU la qs := by
  unfold textI textU
  rw [tA_u, tQ_u]
/-! ### Two that are the same are one -/
theorem list_ext {α : Type} {d : α} {a b : List α} (h : a.length = b.length) (hg : ∀ i, i < a.length → a.getD i d = b.getD i d) : a = b := by
  refine List.ext_getElem h fun i h1 h2 => ?_
  have := hg i h1
  simpa [List.getD, h1, h2] using this
theorem sameQ_eq {x y : Qu} (h : sameQ x y = true) : x = y := by
  unfold sameQ at h
  simp only [Bool.and_eq_true] at h
  obtain ⟨h1, h2, h3, h4⟩ := h
  have hc : x.caps = y.caps := list_ext (d := cd) (of_decide_eq_true h3) (fun i hi => by
    have := allI_get h4 hi
    unfold sameC at this
    rw [Bool.and_eq_true] at this
    have e1 := beq_iff_eq.1 this.1
    have e2 := beq_iff_eq.1 this.2
    cases hx : x.caps.getD i cd
    cases hy : y.caps.getD i cd
    rw [hx, hy] at e1 e2
    have e1 : _ = _ := e1
    have e2 : _ = _ := e2
    simp only at e1 e2
    rw [e1, e2])
  obtain ⟨p, c, u⟩ := x
  obtain ⟨p', c', u'⟩ := y
  have h1 : p = p' := beq_iff_eq.1 h1
  have h2 : u = u' := beq_iff_eq.1 h2
  have hc : c = c' := hc
  rw [h1, h2, hc]
theorem sameM_eq {la lb : List B} {qa qb : List Qu} (h : sameM ⟨la, qa, lb, qb⟩ = true) : la = lb ∧ qa = qb := by
  unfold sameM at h
  simp only [Bool.and_eq_true] at h
  obtain ⟨h1, h2, h3, h4⟩ := h
  exact ⟨list_ext (d := []) (of_decide_eq_true h1) (fun i hi => beq_iff_eq.1 (allI_get h3 hi)), list_ext (d := qd) (of_decide_eq_true h2) (fun i hi => sameQ_eq (allI_get h4 hi))⟩
/-! ### ConfBack -/
structure Sized (x : AT) : Prop where
  l : ∀ l ∈ x.la, l.length ≤ 140737488355328
  q : ∀ q ∈ x.qs, okI q.user = true ∧ ∀ c ∈ q.caps, okC c = true
theorem ok_big {a : AT} (h : a.ok = true) : a.big = true := by
  simp only [AT.ok, AT.big, Bool.and_eq_true] at h ⊢
  refine ⟨⟨⟨h.1.1.1, List.all_eq_true.2 fun l hl => Nat.ble_eq_true_of_le (Nat.le_trans (Nat.le_of_ble_eq_true (List.all_eq_true.1 h.1.1.2 l hl)) (by decide))⟩, h.1.2⟩, h.2⟩
theorem good_fine {la : List B} {qs : List Qu} (h : GoodC la qs) (lb : List B) (qb : List Qu) : ASm.fine ⟨la, qs, lb, qb⟩ = true := by
  have l3 := h.l3
  have q16 := h.q16
  simp only [ASm.fine, Bool.and_eq_true]
  exact ⟨⟨Nat.ble_eq_true_of_le (by omega), Nat.ble_eq_true_of_le (by omega)⟩, List.all_eq_true.2 fun q hq => Nat.ble_eq_true_of_le (by rw [(h.q q hq).len]; omega)⟩
structure YesKF (a : A10) : Prop where
  go : YesK a
theorem back_yes (a : A10) (hz : Sized a.x) : YesKF a := by
  refine YesKF.mk ?_
  rw [v10k]
  refine br (fun _ => rfl) (fun _ => br (fun _ => rfl) (fun _ => br (fun _ => rfl) (fun hl => br (fun _ => rfl) (fun hq => ?_))))
  have hl : a.x.la.length ≤ 10 := by
    have := of_decide_eq_false hl
    omega
  have hq : a.x.qs.length ≤ 20 := by
    have := of_decide_eq_false hq
    omega
  have hP : P10 a := ⟨hl, hq⟩
  refine ⟨⟨⟨⟨0, Nat.zero_le _, rfl, hP⟩, ⟨⟨rfl, rfl⟩, ⟨rfl, rfl⟩, ⟨rfl, rfl⟩, rfl, trivial⟩, ⟨⟨rfl, rfl, trivial⟩, trivial⟩, ⟨⟨rfl, rfl, trivial⟩, trivial⟩, ⟨⟨rfl, rfl, trivial⟩, trivial⟩, trivial⟩, fun y => ?_⟩, fun u => ?_⟩
  · have y1 := y.2.1
    have y2 := y.2.2.1
    have ey : ((y.1 : Int)).toNat = y.1 := by simp
    have wy : IntKind.i64.wrap ((y.1 : Int) + 1) = ((y.1 + 1 : Nat) : Int) := by rw [wrap_id] <;> omega
    rw [ey, wy]
    refine br (fun hlt => ?_) (fun hge => ?_)
    · have hlt : y.1 < a.x.qs.length := by simpa using hlt
      refine brT (dTT (by omega)) (br (fun _ => rfl) (fun hb => brT (dTT (by omega)) (br (fun _ => rfl) (fun hc => ?_))))
      have hb : ¬ ((a.x.qs.getD y.1 qd).caps.length : Int) > 10 := of_decide_eq_false hb
      have hc : ¬ ((a.x.qs.getD y.1 qd).path.length : Int) > 100 := of_decide_eq_false hc
      have hf : a.p y.1 = true := by
        unfold A10.p fit10; rw [dT (by omega), dT (by omega)]; rfl
      refine ⟨⟨y.1 + 1, hlt, by show (allI a.p y.1 && a.p y.1) = true; rw [y2, hf]; rfl, hP⟩, ?_, ⟨⟨rfl, rfl⟩, ⟨rfl, rfl⟩, ⟨rfl, rfl⟩, rfl, trivial⟩, ⟨⟨rfl, rfl, trivial⟩, trivial⟩, ⟨⟨rfl, rfl, trivial⟩, trivial⟩, ⟨⟨rfl, rfl, trivial⟩, trivial⟩, trivial⟩
      show a.x.qs.length - (y.1 + 1) < _; omega
    · have hge : ¬ y.1 < a.x.qs.length := by simpa using hge
      have hy : y.1 = a.x.qs.length := by omega
      rw [hy] at y2
      exact ⟨⟨0, y2, hP⟩, ⟨⟨rfl, rfl⟩, ⟨rfl, rfl⟩, ⟨rfl, rfl⟩, trivial⟩, ⟨⟨rfl, rfl, trivial⟩, trivial⟩, ⟨⟨rfl, rfl, trivial⟩, trivial⟩, ⟨⟨rfl, rfl, trivial⟩, trivial⟩, trivial⟩
  · have hall := u.2.1
    have hfit : ∀ q ∈ a.x.qs, q.caps.length ≤ 10 ∧ q.path.length ≤ 100 := fun q hm => by
      obtain ⟨j, hj, rfl⟩ := List.mem_iff_getElem.1 hm
      have := allI_get hall hj
      unfold A10.p fit10 at this
      rw [Bool.and_eq_true] at this
      have h1 : (a.x.qs.getD j qd).caps.length ≤ 10 := of_decide_eq_true this.1
      have h2 : (a.x.qs.getD j qd).path.length ≤ 100 := of_decide_eq_true this.2
      have e : a.x.qs.getD j qd = a.x.qs[j] := by simp [List.getD, hj]
      rw [e] at h1 h2
      exact ⟨h1, h2⟩
    have hraw : AT.big a.x = true := by
      simp only [AT.big, Bool.and_eq_true]
      refine ⟨⟨⟨Nat.ble_eq_true_of_le hl, List.all_eq_true.2 fun l hm => Nat.ble_eq_true_of_le (hz.l l hm)⟩, Nat.ble_eq_true_of_le hq⟩, List.all_eq_true.2 fun q hm => ?_⟩
      have h1 := hfit q hm
      have h2 := hz.q q hm
      simp only [okQ, Bool.and_eq_true]
      exact ⟨⟨⟨Nat.ble_eq_true_of_le (by omega), Nat.ble_eq_true_of_le h1.1⟩, h2.1⟩, List.all_eq_true.2 h2.2⟩
    have hrawf : ∀ lb qb, ASm.fine ⟨a.x.la, a.x.qs, lb, qb⟩ = true := fun lb qb => by
      simp only [ASm.fine, Bool.and_eq_true]
      exact ⟨⟨Nat.ble_eq_true_of_le (by omega), Nat.ble_eq_true_of_le (by omega)⟩, List.all_eq_true.2 fun q hm => Nat.ble_eq_true_of_le (by have := (hfit q hm).1; omega)⟩
    have gc := make_good a.r
    have gd := make_good a.q
    have hT : (textI (labM a.r.l) (makeQ a.r)).length ≤ 100000 := textI_len (AT.ok_is (make_ok a.r))
    have bc := ok_big (make_ok a.r)
    have bd := ok_big (make_ok a.q)
    refine brT bc (brT (Nat.ble_eq_true_of_le (by show _ + 1 ≤ 1000000; omega)) (brT bc (brF ?_ (brT hraw (brT hraw (brF ?_ (brT (good_fine gc _ _) (brT (good_fine gc _ _) (brF ?_ (brT (hrawf _ _) (brF ?_ ?_)))))))))))
    · rw [text_u, beq_self_eq_true]; rfl
    · rw [text_u, beq_self_eq_true]; rfl
    · rw [beq_self_eq_true]; rfl
    · rw [same_refl]; rfl
    · by_cases h2 : (textC (labM a.r.l) (makeQ a.r)).length ≤ 2000
      · have hp := parse_text gc h2
        rw [textI_eq gc, hp]
        refine brF rfl (brT (good_fine gc _ _) (brT (same_refl _ _) (brT (good_fine gc _ _) (brT (same_refl _ _) (brT (good_fine gc _ _) (brT bd ?_))))))
        rw [← text_u, textI_eq gd]
        cases hs : sameM ⟨labM a.r.l, makeQ a.r, labM a.q.l, makeQ a.q⟩ with
        | true =>
          obtain ⟨e1, e2⟩ := sameM_eq hs
          rw [e1, e2, beq_self_eq_true]; rfl
        | false =>
          cases ht : textC (labM a.r.l) (makeQ a.r) == textC (labM a.q.l) (makeQ a.q) with
          | false => rfl
          | true =>
            have ht := beq_iff_eq.1 ht
            have hp2 := parse_text gd (by rw [← ht]; exact h2)
            rw [← ht, hp] at hp2
            have e1 : labM a.r.l = labM a.q.l := congrArg PM.labels hp2
            have e2 : makeQ a.r = makeQ a.q := congrArg PM.qs hp2
            rw [e1, e2, same_refl] at hs
            cases hs
      · have hp := parse_long (s := textC (labM a.r.l) (makeQ a.r)) (dT (by omega))
        rw [textI_eq gc, hp]
        exact brT rfl rfl
theorem K40_ok : ConOk Tryd.prog K40 := con_cons a11 (con_cons a12 (con_cons a13g (con_cons a14 (con_cons a17 (con_cons a19 (con_cons a20g (con_cons a21 con_nil)))))))
theorem e40_sound : HdSound Tryd.prog e40 := hdT_sound mixed hno K40_ok _ _ _
end Go.Proofs.YtaonjbojhikndaaDoor
