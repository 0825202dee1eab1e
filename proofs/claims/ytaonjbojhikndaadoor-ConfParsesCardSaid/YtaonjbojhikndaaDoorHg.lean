/- few, put, mix, Decimal; Make and Text: forms. No conditions. -/
import Derived.Test.YtaonjbojhikndaaDoorHfV
namespace Go.Proofs.YtaonjbojhikndaaDoor
open Go Go.W
set_option maxRecDepth 100000
theorem wi_big (a : Int) {n : Int} (h : 0 < n) (hn : n ≤ 1000000000) : 0 ≤ wi a n ∧ wi a n < n := by
  have h1 := Int.tmod_lt_of_pos a h
  have h2 : -n < a.tmod n := by
    have := Int.tmod_lt_of_pos (-a) h
    rw [Int.neg_tmod] at this
    omega
  unfold wi
  by_cases hb : a.tmod n < 0
  · rw [decide_eq_true hb, cond_true, wrap_id (by omega) (by omega)]
    omega
  · rw [decide_eq_false hb, cond_false]
    omega
/-! ### few -/
theorem few_no {a : AR} {i : Nat} (hi : i < a.qs.length) (h : a.fp i = false) : fewM a = false := by
  unfold fewM; rw [allI_not hi h, Bool.and_false]
theorem ok12 (a : AR) (_hp : S12.pre a = true) : Owes e0 12 S12 (fun _ => []) (L12 a) noJ () a := by
  refine Owes.mk ?_
  rw [v12]
  refine ⟨⟨⟨0, Nat.zero_le _, Nat.zero_le _, rfl⟩, ⟨⟨rfl, rfl⟩, rfl, trivial⟩, ⟨⟨rfl, rfl, trivial⟩, trivial⟩, trivial⟩, fun x => ?_⟩
  have x1 := x.2.1
  have x2 := x.2.2.1
  have x3 := x.2.2.2
  have e1 : ((x.1 : Int)).toNat = x.1 := by simp
  have w1 : IntKind.i64.wrap ((x.1 : Int) + 1) = ((x.1 + 1 : Nat) : Int) := by rw [wrap_id] <;> omega
  rw [e1, w1]
  have hd : decide ((a.qs.length : Int) ≤ 20) = decide (a.qs.length ≤ 20) := by rw [decide_eq_decide]; omega
  refine br (fun hlt => ?_) (fun hge => ?_)
  · have hlt : x.1 < a.qs.length := by simpa using hlt
    refine br (fun h20 => ?_) (fun h20 => ?_)
    · have h20 : x.1 < 20 := by have := of_decide_eq_true h20; omega
      refine brT (dTT (by omega)) (br (fun hb => ⟨few_no hlt ?_, trivial⟩) (fun hb => brT (dTT (by omega)) (br (fun hc => ⟨few_no hlt ?_, trivial⟩) (fun hc => ?_))))
      · have hb : ((a.qs.getD x.1 rqd).names.length : Int) > 8 := of_decide_eq_true hb
        unfold AR.fp fewQ; rw [dF (by omega)]; rfl
      · have hc : ((a.qs.getD x.1 rqd).caps.length : Int) > 8 := of_decide_eq_true hc
        unfold AR.fp fewQ; rw [dF (by omega : ¬ (a.qs.getD x.1 rqd).caps.length ≤ 8), Bool.and_false]
      · have hb : ¬ ((a.qs.getD x.1 rqd).names.length : Int) > 8 := of_decide_eq_false hb
        have hc : ¬ ((a.qs.getD x.1 rqd).caps.length : Int) > 8 := of_decide_eq_false hc
        have hf : a.fp x.1 = true := by
          unfold AR.fp fewQ; rw [dT (by omega), dT (by omega)]; rfl
        refine ⟨⟨x.1 + 1, hlt, h20, by show (allI a.fp x.1 && a.fp x.1) = true; rw [x3, hf]; rfl⟩, ?_, ⟨⟨rfl, rfl⟩, rfl, trivial⟩, ⟨⟨rfl, rfl, trivial⟩, trivial⟩, trivial⟩
        show a.qs.length - (x.1 + 1) < _; omega
    · have h20 : x.1 = 20 := by
        have : ¬ (x.1 : Int) < 20 := of_decide_eq_false h20
        omega
      refine ⟨?_, trivial⟩
      rw [hd, dF (by omega : ¬ a.qs.length ≤ 20)]
      unfold fewM
      rw [dF (by omega : ¬ a.qs.length ≤ 20)]; rfl
  · have hge : ¬ x.1 < a.qs.length := by simpa using hge
    have hx : x.1 = a.qs.length := by omega
    rw [hx] at x3
    refine ⟨?_, trivial⟩
    rw [hd]
    unfold fewM
    rw [x3, Bool.and_true]
theorem k12 : SpecOk Tryd.prog 12 S12 := spec_loop e0_sound (by kernel_rfl) (fun _ _ => []) L12 (fun _ => noJ) (fun _ => ()) ok12
def M12 : Meet S12 := MR _ _
theorem a12 : RowOK 12 (S12.con M12) := Spec.con_ok k12 M12 (fun _ => Nat.le_of_ble_eq_true rfl)
/-! ### put -/
theorem ok23 (a : AP) (hp : S23.pre a = true) : Owes e0 23 S23 A23 (L23 a) (J23 a) () a := by
  refine Owes.mk ?_
  rw [v23]
  have hp : AP.fine a = true := hp
  simp only [AP.fine, Bool.and_eq_true] at hp
  have hn : a.n = a.q.caps.length := Nat.eq_of_beq_eq_true hp.1.1
  have hl := small_le hp.1.2
  have hc := small_le hp.2
  rw [hn, whole_d]
  refine brT (by rw [Bool.and_true, Bool.and_true]; exact ble_z _) ⟨⟨⟨⟨0, Nat.zero_le _, fun j h => absurd h (Nat.not_lt_zero _)⟩, ⟨rfl, ⟨rfl, rfl⟩, rfl, trivial⟩, ⟨⟨rfl, rfl, rfl, trivial⟩, trivial⟩, trivial⟩, fun k => ?_⟩, fun k => ⟨?_, fun k => ⟨?_, fun k => ⟨?_, fun k => ?_⟩⟩⟩⟩
  · have k1 := k.2.le
    have k2 := k.2.lt
    have e2 : ((k.1 : Int)).toNat = k.1 := by simp
    rw [e2]
    refine br (fun hk => ?_) (fun hk => ?_)
    · have hk : k.1 < a.l.length := by simpa using hk
      have wk : IntKind.i64.wrap ((k.1 : Int) + 1) = ((k.1 + 1 : Nat) : Int) := by rw [wrap_id] <;> omega
      rw [wk]
      refine brT (dTT (by omega)) (br (fun hb => ?_) (fun hb => ?_))
      · have hb : ltQ (a.l.getD k.1 qd) a.q = true := hb
        refine ⟨⟨k.1 + 1, hk, fun j hj => ?_⟩, ?_, ⟨rfl, ⟨rfl, rfl⟩, rfl, trivial⟩, ⟨⟨rfl, rfl, rfl, trivial⟩, trivial⟩, trivial⟩
        · by_cases h : j = k.1
          · rw [h]; exact hb
          · exact k2 j (by omega)
        · show a.l.length - (k.1 + 1) < _; omega
      · have hb : ltQ (a.l.getD k.1 qd) a.q = false := hb
        exact ⟨⟨k.1, k.2, fun _ => hb⟩, ⟨rfl, ⟨rfl, rfl⟩, rfl, trivial⟩, ⟨⟨rfl, rfl, rfl, trivial⟩, trivial⟩, trivial⟩
    · have hk : ¬ k.1 < a.l.length := by simpa using hk
      exact ⟨⟨k.1, k.2, fun h => absurd h hk⟩, ⟨rfl, ⟨rfl, rfl⟩, rfl, trivial⟩, ⟨⟨rfl, rfl, rfl, trivial⟩, trivial⟩, trivial⟩
  · have k1 := k.2.1.le
    have e2 : ((k.1 : Int)).toNat = k.1 := by simp
    rw [e2]
    obtain ⟨i1, i2⟩ := insF_split k1 k.2.1.lt k.2.2
    refine br (fun hk => brT ?_ (br (fun hb => ⟨?_, trivial⟩) (fun hb => ?_))) (fun hk => ?_)
    · rw [Bool.and_true, Bool.and_true]; exact hk
    · have hb : ((a.l.getD k.1 qd).path == a.q.path) = true := hb
      have hk : k.1 < a.l.length := by simpa using hk
      have : putM a.l a.q = a.l := by unfold putM; rw [i2, dT hk, hb]; rfl
      rw [this]
    · have hb : ((a.l.getD k.1 qd).path == a.q.path) = false := hb
      have : putM a.l a.q = a.l.take k.1 ++ a.q :: a.l.drop k.1 := by unfold putM; rw [i2, hb, Bool.and_false]; exact i1
      exact ⟨⟨k.1, k1, this⟩, ⟨rfl, ⟨rfl, rfl⟩, rfl, trivial⟩, ⟨⟨rfl, rfl, rfl, trivial⟩, trivial⟩, trivial⟩
    · have hk : ¬ k.1 < a.l.length := by simpa using hk
      have : putM a.l a.q = a.l.take k.1 ++ a.q :: a.l.drop k.1 := by unfold putM; rw [i2, dF hk]; exact i1
      exact ⟨⟨k.1, k1, this⟩, ⟨rfl, ⟨rfl, rfl⟩, rfl, trivial⟩, ⟨⟨rfl, rfl, rfl, trivial⟩, trivial⟩, trivial⟩
  · have k1 := k.2.1
    have e2 : ((k.1 : Int)).toNat = k.1 := by simp
    have hl : (List.take k.1 a.l).length = k.1 := by simp; omega
    rw [e2]
    refine brT (dTT (by omega)) (br (fun hk => brT hk ?_) (fun hk => brT ?_ ?_))
    · have hk := Nat.le_of_ble_eq_true hk
      rw [List.drop_zero, hl] at hk
      have hz : k.1 = 0 := by omega
      have ht : List.take k.1 a.l = [] := by rw [hz]; rfl
      refine ⟨⟨k.1, k.2⟩, ⟨rfl, ⟨rfl, rfl⟩, rfl, ⟨rfl, ?_, Nat.le_refl _⟩, trivial⟩, ⟨⟨rfl, rfl, rfl, trivial⟩, trivial⟩, ?_, trivial⟩
      · show k.1 = _; rw [List.drop_zero, hl]; omega
      · show o46 (List.take k.1 a.l) = _
        rw [ht]; rfl
    · rw [List.drop_zero, hl]
      simp only [Bool.and_eq_true]
      exact ⟨⟨⟨⟨Nat.ble_eq_true_of_le (by omega), Nat.ble_eq_true_of_le (by omega)⟩, trivial⟩, trivial⟩, trivial⟩
    · refine ⟨⟨k.1, k.2⟩, ⟨rfl, ⟨rfl, rfl⟩, rfl, ⟨rfl, ?_, Nat.zero_le _⟩, trivial⟩, ⟨⟨rfl, rfl, rfl, trivial⟩, trivial⟩, ?_, trivial⟩
      · show k.1 = _; rw [List.drop_zero, hl]; omega
      · rfl
  · have k1 := k.2.1
    have hl : (List.take k.1 a.l).length = k.1 := by simp; omega
    have hg : List.take k.1 (List.drop 0 (List.take k.1 a.l)) ++ [a.q] = List.take k.1 a.l ++ [a.q] := by
      rw [List.drop_zero, List.take_take, Nat.min_self]
    rw [hl, hg]
    exact brT (beq_z _) (brT (grow_b (by decide) (by omega)) ⟨⟨k.1, k.2⟩, ⟨rfl, rfl, ⟨rfl, rfl, Nat.zero_le _⟩, trivial⟩, rfl, trivial⟩)
  · have k1 := k.2.1
    have kin := k.2.2
    have e2 : ((k.1 : Int)).toNat = k.1 := by simp
    have e3 : ((a.l.length : Int)).toNat = a.l.length := by simp
    have hd : (List.drop k.1 a.l).length = a.l.length - k.1 := by simp
    have hgl : (List.take k.1 a.l ++ [a.q]).length = k.1 + 1 := by simp; omega
    rw [e2, e3, List.take_length, hd]
    refine brT ?_ (brF ?_ (brT ?_ (brT ?_ (brT ?_ ⟨?_, trivial⟩))))
    · rw [Bool.and_true, Bool.and_true, Bool.and_eq_true]
      exact ⟨dT (by omega), dT (Int.le_refl _)⟩
    · cases h : Nat.ble (k.1 + 1 + (a.l.length - k.1)) 0 with
      | false => rfl
      | true => have := Nat.le_of_ble_eq_true h; omega
    · rw [hgl, Nat.zero_add]; exact Nat.beq_refl _
    · rw [hgl]
      simp only [Bool.and_eq_true]
      exact ⟨⟨⟨⟨Nat.ble_eq_true_of_le (by omega), Nat.ble_eq_true_of_le (by omega)⟩, trivial⟩, trivial⟩, Nat.ble_eq_true_of_le (by omega)⟩
    · rw [List.drop_zero, List.take_of_length_le (Nat.le_of_eq hgl)]
      exact Nat.ble_eq_true_of_le (by simp; omega)
    · refine congrArg d46 (kin.trans (Eq.symm ?_))
      rw [List.drop_zero, List.drop_zero, List.take_of_length_le (Nat.le_of_eq hgl), List.take_of_length_le (by simp; omega), List.append_assoc]; rfl
theorem k23 : SpecOk Tryd.prog 23 S23 := spec_loop e0_sound (by kernel_rfl) (fun _ => A23) L23 J23 (fun _ => ()) ok23
theorem a23 : RowOK 23 (S23.con M23) := Spec.con_ok k23 M23 (fun _ => Nat.le_of_ble_eq_true rfl)
/-! ### mix -/
theorem some_len {k : Nat} (h : k < 18) : (someM.getD k []).length ≤ 12 := by
  have : k = 0 ∨ k = 1 ∨ k = 2 ∨ k = 3 ∨ k = 4 ∨ k = 5 ∨ k = 6 ∨ k = 7 ∨ k = 8 ∨ k = 9 ∨ k = 10 ∨ k = 11 ∨ k = 12 ∨ k = 13 ∨ k = 14 ∨ k = 15 ∨ k = 16 ∨ k = 17 := by omega
  rcases this with h | h | h | h | h | h | h | h | h | h | h | h | h | h | h | h | h | h <;> subst h <;> decide
theorem mix_len (ns : List Int) : ∀ k, (mixM ns k).length ≤ 12 * k
  | 0 => Nat.le_refl _
  | k + 1 => by
    have ih := mix_len ns k
    have hb := wi_big (ns.getD k 0) (n := 18) (by decide) (by decide)
    have := some_len (k := (wi (ns.getD k 0) 18).toNat) (by omega)
    show (mixM ns k ++ _).length ≤ _
    rw [List.length_append]; omega
theorem ok16 (ns : List Int) (_hp : S16.pre ns = true) : Owes e25 16 S16 (fun _ => []) (L16 ns someM) noJ () ns := by
  refine Owes.mk ?_
  rw [v16]
  refine ⟨⟨⟨0, Nat.zero_le _, Nat.zero_le _⟩, ⟨rfl, ⟨rfl, rfl, Nat.zero_le _⟩, rfl, rfl, trivial⟩, rfl, trivial⟩, fun x => ?_⟩
  have x1 := x.2.1
  have x2 := x.2.2
  have e1 : ((x.1 : Int)).toNat = x.1 := by simp
  have w1 : IntKind.i64.wrap ((x.1 : Int) + 1) = ((x.1 + 1 : Nat) : Int) := by rw [wrap_id] <;> omega
  have hb := wi_big (ns.getD x.1 0) (n := 18) (by decide) (by decide)
  have hm := mix_len ns x.1
  have hs := some_len (k := (wi (ns.getD x.1 0) 18).toNat) (by omega)
  rw [e1, w1, Nat.zero_add]
  refine br (fun hlt => ?_) (fun hge => ?_)
  · have hlt : x.1 < ns.length := by simpa using hlt
    refine br (fun h60 => ?_) (fun h60 => ?_)
    · have h60 : x.1 < 60 := by have := of_decide_eq_true h60; omega
      refine brT (dTT (by omega)) (brT ?_ (brT ?_ (brT ?_ ?_)))
      · rw [Bool.and_eq_true]; exact ⟨dT hb.1, dT hb.2⟩
      · show Nat.ble ((wi (ns.getD x.1 0) 18).toNat + 1) 18 = true
        exact Nat.ble_eq_true_of_le (by omega)
      · exact Nat.ble_eq_true_of_le (by omega)
      · refine ⟨⟨x.1 + 1, hlt, h60⟩, ?_, ⟨rfl, ⟨rfl, rfl, Nat.zero_le _⟩, rfl, rfl, trivial⟩, rfl, trivial⟩
        show ns.length - (x.1 + 1) < _; omega
    · have h60 : x.1 = 60 := by
        have : ¬ (x.1 : Int) < 60 := of_decide_eq_false h60
        omega
      refine ⟨?_, trivial⟩
      unfold mixN
      rw [show min ns.length 60 = x.1 by omega]
  · have hge : ¬ x.1 < ns.length := by simpa using hge
    refine ⟨?_, trivial⟩
    unfold mixN
    rw [show min ns.length 60 = x.1 by omega]
theorem k16 : SpecOk Tryd.prog 16 S16 := spec_loop e25_sound (by kernel_rfl) (fun _ _ => []) (fun ns => L16 ns someM) (fun _ => noJ) (fun _ => ()) ok16
theorem a16 : RowOK 16 (S16.con M16) := Spec.con_ok k16 M16 (fun _ => Nat.le_of_ble_eq_true rfl)
/-! ### Decimal -/
theorem p22_is {k : Nat} {n : Int} (h : p22 k n = true) : 0 ≤ n ∧ n < 10 ^ (k + 1) := by
  unfold p22 at h
  rw [Bool.and_eq_true] at h
  exact ⟨of_decide_eq_true h.1, of_decide_eq_true h.2⟩
theorem p22_of {k : Nat} {n : Int} (h1 : 0 ≤ n) (h2 : n < 10 ^ (k + 1)) : p22 k n = true := by
  unfold p22
  rw [dT h1, dT h2]; rfl
theorem pow10_pos : ∀ k : Nat, (0 : Int) < 10 ^ k
  | 0 => by decide
  | k + 1 => by have := pow10_pos k; rw [Int.pow_succ]; omega
theorem pow10_le (a : Nat) : ∀ c : Nat, (10 : Int) ^ a ≤ 10 ^ (a + c)
  | 0 => Int.le_refl _
  | c + 1 => by have := pow10_le a c; have := pow10_pos (a + c); rw [← Nat.add_assoc, Int.pow_succ]; omega
theorem k22_0 : SpecOk Tryd.prog 22 (SI (p22 0) (q22 0)) := by
  refine spec_leaf e27_sound (by kernel_rfl) (fun (n : Int) hn => MeetsK.mk ?_)
  obtain ⟨h1, h2⟩ := p22_is (show p22 0 n = true from hn)
  have h2 : n < 10 := h2
  have : n = 0 ∨ n = 1 ∨ n = 2 ∨ n = 3 ∨ n = 4 ∨ n = 5 ∨ n = 6 ∨ n = 7 ∨ n = 8 ∨ n = 9 := by omega
  rcases this with h | h | h | h | h | h | h | h | h | h <;> subst h
  · rw [v22d0 0]; exact ⟨rfl, trivial⟩
  · rw [v22d1 0]; exact ⟨rfl, trivial⟩
  · rw [v22d2 0]; exact ⟨rfl, trivial⟩
  · rw [v22d3 0]; exact ⟨rfl, trivial⟩
  · rw [v22d4 0]; exact ⟨rfl, trivial⟩
  · rw [v22d5 0]; exact ⟨rfl, trivial⟩
  · rw [v22d6 0]; exact ⟨rfl, trivial⟩
  · rw [v22d7 0]; exact ⟨rfl, trivial⟩
  · rw [v22d8 0]; exact ⟨rfl, trivial⟩
  · rw [v22d9 0]; exact ⟨rfl, trivial⟩
theorem dec_len : ∀ (k : Nat) (n : Int), (decN k n).length ≤ 2 ^ k
  | 0, _ => Nat.le_refl _
  | k + 1, n => by
    unfold decN
    have h1 := dec_len k (n.tdiv 10)
    have h2 := dec_len k (n.tmod 10)
    have h3 : 2 ^ (k + 1) = 2 ^ k * 2 := Nat.pow_succ ..
    have h4 : 1 ≤ 2 ^ k := Nat.one_le_two_pow
    cases decide (10 ≤ n) with
    | true => rw [cond_true, List.length_append]; omega
    | false => rw [cond_false]; show 1 ≤ _; omega
theorem a22 : ∀ k, k ≤ 17 → RowOK 22 ((SI (p22 k) (q22 k)).con (MI (p22 k) (q22 k)))
  | 0, _ => Spec.con_ok k22_0 _ (fun _ => Nat.le_of_ble_eq_true rfl)
  | k + 1, hk => by
    refine Spec.con_ok ⟨k22_0.1, fun (n : Int) hn => ?_⟩ _ (fun _ => Nat.le_of_ble_eq_true rfl)
    have hn : p22 (k + 1) n = true := hn
    obtain ⟨h1, h2⟩ := p22_is hn
    by_cases h10 : n < 10
    · have e : (SI (p22 (k + 1)) (q22 (k + 1))).out n = (SI (p22 0) (q22 0)).out n := by
        show q22 (k + 1) n = q22 0 n
        unfold q22 decN
        rw [dF (by omega : ¬ 10 ≤ n)]; rfl
      rw [e]
      exact k22_0.2 n (p22_of h1 (by show n < 10; exact h10))
    · have hT : ConOk Tryd.prog (K26 k) := con_cons (a22 k (by omega)) con_nil
      have hE : HdSound Tryd.prog (e26 k) := hdT_sound mixed hno hT _ _ _
      have key : SpecOk Tryd.prog 22 (SI (fun m => p22 (k + 1) m && decide (10 ≤ m)) (q22 (k + 1))) := by
        refine spec_loopN hE (by kernel_rfl) (fun _ _ => []) (fun _ => noL) (fun _ => J22) (fun _ => (0 : Nat)) (fun (m : Int) hm => OwesN.mk ?_)
        have hm : (p22 (k + 1) m && decide (10 ≤ m)) = true := hm
        rw [Bool.and_eq_true] at hm
        obtain ⟨m1, m2⟩ := p22_is hm.1
        have m10 : 10 ≤ m := of_decide_eq_true hm.2
        have hE' := v22 k m
        refine Eq.mpr hE' ?_
        have b18 : (10 : Int) ^ (k + 1 + 1) ≤ 10 ^ 18 := by
          have := pow10_le (k + 1 + 1) (16 - k)
          rw [show k + 1 + 1 + (16 - k) = 18 by omega] at this
          exact this
        have e18 : (10 : Int) ^ 18 = 1000000000000000000 := rfl
        have p1 := pow10_pos k
        have s1 : (10 : Int) ^ (k + 1) = 10 ^ k * 10 := Int.pow_succ ..
        have s2 : (10 : Int) ^ (k + 1 + 1) = 10 ^ (k + 1) * 10 := Int.pow_succ ..
        have t1 : m.tdiv 10 = m / 10 := Int.tdiv_eq_ediv_of_nonneg m1
        have t2 : m.tmod 10 = m % 10 := Int.tmod_eq_emod_of_nonneg m1
        have w1 : IntKind.i64.wrap (m.tdiv 10) = m.tdiv 10 := by rw [t1, wrap_id] <;> omega
        have l1 := dec_len k (m.tdiv 10)
        have l2 := dec_len k (m.tmod 10)
        have l3 : 2 ^ k ≤ 2 ^ 17 := Nat.pow_le_pow_right (by decide) (by omega)
        have l4 : 2 ^ 17 = 131072 := rfl
        rw [w1]
        refine brF (dF (by omega)) ⟨brT (dT (by omega)) (brT ?_ (brT ?_ (brT ?_ ⟨?_, trivial⟩))), fun x => x.2.elim⟩
        · show p22 k (m.tdiv 10) = true
          rw [t1]; exact p22_of (by omega) (by omega)
        · show p22 k (m.tmod 10) = true
          rw [t2]; exact p22_of (by omega) (by omega)
        · exact Nat.ble_eq_true_of_le (by omega)
        · show (bif decide (10 ≤ m) then decN k (m.tdiv 10) ++ decN k (m.tmod 10) else digB m) = _
          rw [dT m10]; rfl
      exact key.2 n (by show (p22 (k + 1) n && decide (10 ≤ n)) = true; rw [hn, dT (by omega : 10 ≤ n)]; rfl)
end Go.Proofs.YtaonjbojhikndaaDoor
