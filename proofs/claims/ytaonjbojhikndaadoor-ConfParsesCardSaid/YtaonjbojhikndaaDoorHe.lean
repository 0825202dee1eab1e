/- The reference's Parse answers what Parse answers; the reference's Same. No conditions. -/
import Derived.Test.YtaonjbojhikndaaDoorHdV
namespace Go.Proofs.YtaonjbojhikndaaDoor
open Go Go.W
set_option maxRecDepth 100000
/-! ### A line -/
theorem shareR_2 (x : B) : (shareR x).2 = (shareM x).2 := by
  unfold shareR shareM
  cases (cutM x).2.2 <;> rfl
theorem shareR_ok {x : B} (h : (shareR x).2 = true) : shareR x = shareM x := by
  unfold shareR at h ⊢
  cases hc : (cutM x).2.2 with
  | true => rfl
  | false => rw [hc] at h; cases h
theorem capsR_2 : ∀ (b : Bool) (l : List B), (capsR b l).2 = (b && l.all fun x => (shareM x).2)
  | false, [] => rfl
  | true, [] => rfl
  | false, x :: l => rfl
  | true, x :: l => by
    show (capsR (shareR x).2 l).2 = _
    rw [capsR_2 _ l, shareR_2]; rfl
theorem capsR_1 : ∀ (b : Bool) (l : List B), (capsR b l).2 = true → (capsR b l).1 = l.map fun x => (shareM x).1
  | b, [], _ => by cases b <;> rfl
  | false, x :: l, h => by cases h
  | true, x :: l, h => by
    have h : (capsR (shareR x).2 l).2 = true := h
    have h2 : (shareR x).2 = true := by
      rw [capsR_2, Bool.and_eq_true] at h; exact h.1
    show (shareR x).1 :: (capsR (shareR x).2 l).1 = (shareM x).1 :: l.map _
    rw [capsR_1 _ l h, shareR_ok h2]
theorem queueR_ok (w : List B) (n : Nat) : (queueR w (n : Int)).2 = (decide (w.length = 3 + n) && (w.getD 0 [] == wQueue) && oksM w (w.length - 3)) := by
  have ho : oksM w (w.length - 3) = (capsR (numM (w.getD 2 [])).2 (w.drop 3)).2 := by
    rw [capsR_2]
    unfold oksM
    rw [List.take_of_length_le (by simp)]
  have hd : decide ((w.length : Int) = 3 + (n : Int)) = decide (w.length = 3 + n) := by
    rw [decide_eq_decide]; omega
  unfold queueR
  rw [hd, ho]
  cases (decide (w.length = 3 + n) && w.getD 0 [] == wQueue) <;> simp
theorem queueR_q {w : List B} {n : Nat} (h : (queueR w (n : Int)).2 = true) : (queueR w (n : Int)).1 = newQ w := by
  unfold queueR at h ⊢
  cases hc : decide ((w.length : Int) = 3 + (n : Int)) && w.getD 0 [] == wQueue with
  | false => rw [hc] at h; cases h
  | true =>
    rw [hc, cond_true] at h
    rw [cond_true, capsR_1 _ _ h]
    unfold newQ capsM
    rw [List.take_of_length_le (by simp)]
theorem wordsM_nil : wordsM [] = [] := rfl
theorem line_none (r : Rd) {w : List B} (h : w.length = 0) : lineM r w = (r, 0) := by
  unfold lineM; rw [dT h]; rfl
theorem run_trim : ∀ (l : List B) (r : Rd), runM r (trimE l) = runM r l
  | [], r => rfl
  | [p], r => by
    unfold trimE
    cases h : p == [] with
    | false => rfl
    | true =>
      have : p = [] := beq_iff_eq.1 h
      subst this
      show (r, 0) = bif (lineM r (wordsM [])).2 == 0 then runM (lineM r (wordsM [])).1 [] else lineM r (wordsM [])
      rw [wordsM_nil, line_none r rfl]; rfl
  | p :: q :: l, r => by
    show (bif (lineM r (wordsM p)).2 == 0 then runM (lineM r (wordsM p)).1 (trimE (q :: l)) else lineM r (wordsM p)) = bif (lineM r (wordsM p)).2 == 0 then runM (lineM r (wordsM p)).1 (q :: l) else lineM r (wordsM p)
    rw [run_trim (q :: l)]
theorem run_lines (s : B) : runM rd0 (linesR s) = runM rd0 (textM s) := run_trim _ _
theorem trimE_mem : ∀ {l : List B} {p : B}, p ∈ trimE l → p ∈ l
  | [], p, h => h
  | [q], p, h => by
    unfold trimE at h
    cases hq : q == [] with
    | true => rw [hq] at h; cases h
    | false => rw [hq] at h; exact h
  | q :: r :: l, p, h => by
    rcases List.mem_cons.1 (show p ∈ q :: trimE (r :: l) from h) with h | h
    · exact h ▸ List.mem_cons_self
    · exact List.mem_cons_of_mem _ (trimE_mem h)
theorem insF_split : ∀ {qs : List Qu} {q : Qu} {k : Nat}, k ≤ qs.length → (∀ j, j < k → ltQ (qs.getD j qd) q = true) → (k < qs.length → ltQ (qs.getD k qd) q = false) →
    insF qs q = qs.take k ++ q :: qs.drop k ∧ isF qs q = (decide (k < qs.length) && (qs.getD k qd).path == q.path)
  | [], q, k, hk, _, _ => by
    have : k = 0 := by simpa using hk
    subst this
    exact ⟨rfl, rfl⟩
  | y :: ys, q, 0, _, _, h2 => by
    have h2 : ltQ y q = false := h2 (by simp)
    refine ⟨?_, ?_⟩
    · show (bif ltQ y q then _ else q :: y :: ys) = _
      rw [h2]; rfl
    · show (bif ltQ y q then _ else y.path == q.path) = _
      rw [h2, dT (by simp : 0 < (y :: ys).length)]; rfl
  | y :: ys, q, k + 1, hk, h1, h2 => by
    have h0 : ltQ y q = true := h1 0 (by omega)
    have hk' : k ≤ ys.length := by simpa using hk
    obtain ⟨i1, i2⟩ := insF_split (qs := ys) (q := q) (k := k) hk' (fun j hj => h1 (j + 1) (by omega)) (fun hl => h2 (by simp; omega))
    refine ⟨?_, ?_⟩
    · show (bif ltQ y q then y :: insF ys q else _) = _
      rw [h0, i1]; rfl
    · show (bif ltQ y q then isF ys q else _) = _
      rw [h0, cond_true, i2]
      congr 1
      rw [decide_eq_decide]; simp
theorem setRange_nil {α : Type} (xs : List α) (i : Nat) : setRange xs i [] = xs := by
  simp [setRange]
theorem ok18 (s : B) (hp : (SB sm s17).pre s = true) : Owes e24 18 (SB sm s17) A18 (L18 s) (J18 s) g18 s := by
  refine Owes.mk ?_
  rw [v18]
  have hs := sm_le (s := s) hp
  refine br (fun h0 => ?_) (fun h0 => ?_)
  · rw [parse_long h0]; exact ⟨⟨⟨rfl, rfl, trivial⟩, rfl, trivial⟩, trivial⟩
  have h2000 : s.length ≤ 2000 := by
    have : ¬ ((s.length : Int) > 2000) := of_decide_eq_false h0
    omega
  have hN : (linesR s).length ≤ 2001 := by
    have := cutR_le 10 s
    show (cutR 10 s).length ≤ _
    omega
  refine brT ?_ ?_
  · show (Nat.blt 10 256 && sm s) = true
    rw [Bool.and_eq_true]; exact ⟨rfl, hp⟩
  refine ⟨⟨⟨⟨0, rd0, [], false⟩, Nat.zero_le _, by decide, by decide, rfl, Kept.nil, rfl⟩, ⟨⟨rfl, rfl⟩, ⟨rfl, rfl⟩, rfl, rfl, rfl, trivial⟩, ⟨⟨rfl, rfl, trivial⟩, trivial⟩, ⟨⟨rfl, rfl, trivial⟩, trivial⟩, trivial⟩, fun x => ?_⟩
  have hx := x.2
  have xi := hx.i
  have xl := hx.l
  have xq := hx.q
  have xs := hx.seen
  have xk := hx.kept
  have xgo := hx.go
  have xn := xk.len
  have e1 : ((x.1.i : Int)).toNat = x.1.i := by simp
  rw [e1]
  refine br (fun hlt => ?_) (fun hge => ?_)
  · have hlt : x.1.i < (linesR s).length := by simpa using hlt
    have wx : IntKind.i64.wrap ((x.1.i : Int) + 1) = ((x.1.i + 1 : Nat) : Int) := by rw [wrap_id] <;> omega
    rw [wx]
    have hlm : (linesR s).getD x.1.i [] ∈ splitM 10 s := trimE_mem (getD_mem hlt)
    have hll : ((linesR s).getD x.1.i []).length ≤ 2000 := Nat.le_trans (split_mem 10 s _ hlm) h2000
    have hst := run_step x.1.r hlt
    rw [xgo] at hst
    have hwl : (wOf s x.1).length ≤ ((linesR s).getD x.1.i []).length + 1 := words_len _
    have hwm : ∀ p ∈ wOf s x.1, sm p = true := fun p hp => Nat.ble_eq_true_of_le (by have := words_mem hp; omega)
    have okS : ∀ r', lineM x.1.r (wOf s x.1) = (r', 0) → runM r' ((linesR s).drop (x.1.i + 1)) = runM rd0 (linesR s) := fun r' h => by
      rw [hst, show lineM x.1.r (wordsM ((linesR s).getD x.1.i [])) = (r', 0) from h]; rfl
    have okE : ∀ r' e, lineM x.1.r (wOf s x.1) = (r', e) → (e == 0) = false → (e != 0) = true → parseM s = ⟨[], [], e⟩ := fun r' e h he he' => by
      rw [show lineM x.1.r (wordsM ((linesR s).getD x.1.i [])) = (r', e) from h] at hst
      have h2 : (bif e == 0 then runM r' ((linesR s).drop (x.1.i + 1)) else (r', e)) = (r', e) := by rw [he]; rfl
      exact parse_err h0 ((run_lines s).symm.trans (hst.trans h2)) he'
    have errs : ∀ r' e, lineM x.1.r (wOf s x.1) = (r', e) → (e == 0) = false → (e != 0) = true → ((((parseM s).labels = [] ∧ (parseM s).qs = [] ∧ True) ∧ (parseM s).err = e ∧ True) ∧ True) := fun r' e h he he' => by
      rw [okE r' e h he he']; exact ⟨⟨⟨rfl, rfl, trivial⟩, rfl, trivial⟩, trivial⟩
    have hmu : (linesR s).length - (x.1.i + 1) < (linesR s).length - x.1.i := by omega
    refine brT (by simp; omega) (brT (Nat.ble_eq_true_of_le (by show _ + 1 ≤ 1000000; omega)) (br (fun c0 => ?_) (fun c0 => ?_)))
    · have c0 : (wOf s x.1).length = 0 := by
        have : (((wOf s x.1).length : Int) == 0) = true := c0
        simpa using this
      exact ⟨⟨⟨x.1.i + 1, x.1.r, x.1.qs, x.1.tw⟩, hlt, xl, xq, xs, xk, okS _ (line_none _ c0)⟩, hmu, ⟨⟨rfl, rfl⟩, ⟨rfl, rfl⟩, rfl, rfl, rfl, trivial⟩, ⟨⟨rfl, rfl, trivial⟩, trivial⟩, ⟨⟨rfl, rfl, trivial⟩, trivial⟩, trivial⟩
    have c0 : (wOf s x.1).length ≠ 0 := by
      have : (((wOf s x.1).length : Int) == 0) = false := c0
      simpa using this
    have d0 : decide ((wOf s x.1).length = 0) = false := dF c0
    refine br (fun c1 => ?_) (fun c1 => ?_)
    · have c1 : x.1.r.labels = [] := by
        have : x.1.r.labels.length = 0 := by simpa using c1
        exact List.eq_nil_of_length_eq_zero this
      have hseen : x.1.r.seen = false := by rw [xs, c1]; rfl
      refine brT (by simp; exact Nat.pos_of_ne_zero c0) (br (fun c2 => ?_) (fun c2 => ?_))
      · have c2 : ((wOf s x.1).getD 0 [] == wLabels) = false := by
          have : (!((wOf s x.1).getD 0 [] == wLabels)) = true := c2
          simpa using this
        refine errs x.1.r 6 ?_ rfl rfl
        unfold lineM; rw [d0, hseen, c2]; rfl
      have c2 : ((wOf s x.1).getD 0 [] == wLabels) = true := by
        have : (!((wOf s x.1).getD 0 [] == wLabels)) = false := c2
        simpa using this
      refine br (fun c3 => ?_) (fun c3 => ?_)
      · have c3 : ((wOf s x.1).length : Int) > 3 := of_decide_eq_true c3
        refine errs { x.1.r with seen := true } 4 ?_ rfl rfl
        unfold lineM; rw [d0, hseen, c2, dT (by omega : 3 < (wOf s x.1).length)]; rfl
      have c3 : (wOf s x.1).length ≤ 3 := by
        have : ¬ ((wOf s x.1).length : Int) > 3 := of_decide_eq_false c3
        omega
      have hL : lineM x.1.r (wOf s x.1) = ({ x.1.r with seen := true, labels := newL (wOf s x.1) }, 0) := by
        unfold lineM; rw [d0, hseen, c2, dF (by omega : ¬ 3 < (wOf s x.1).length)]; rfl
      have ew : (((wordsM ((linesR s).getD x.1.i [])).length : Int)).toNat = (wordsM ((linesR s).getD x.1.i [])).length := by simp
      rw [ew, List.take_length]
      have hwf : (wordsM ((linesR s).getD x.1.i [])).length = (wOf s x.1).length := rfl
      have hd : (List.drop 1 (wordsM ((linesR s).getD x.1.i []))).length = (wOf s x.1).length - 1 := by
        show (List.drop 1 (wOf s x.1)).length = _
        simp
      have fin : ∀ lab : List B, lab = newL (wOf s x.1) → (∃ (x' : { x : G18 // V18 s x }), (linesR s).length - x'.val.i < (linesR s).length - x.val.i ∧ (((0 : Nat) = 0 ∧ (0 : Nat) = 0) ∧ ((0 : Nat) = 0 ∧ (0 : Nat) = 0) ∧ x'.val.tw = x.val.tw ∧ d9 (linesR s) = d9 (linesR s) ∧ (x'.val.i : Int) = ((x.1.i + 1 : Nat) : Int) ∧ True) ∧ ((nilsD = D.nils ∧ nilsD = D.nils ∧ True) ∧ True) ∧ ((d9 x'.val.r.labels = d9 lab ∧ d46 x'.val.qs = d46 x.val.qs ∧ True) ∧ True) ∧ True) := fun lab hlab => by
        subst hlab
        exact ⟨⟨⟨x.1.i + 1, { x.1.r with seen := true, labels := newL (wOf s x.1) }, x.1.qs, x.1.tw⟩, hlt, by show (([] : B) :: (wOf s x.1).drop 1).length ≤ 3; simp; omega, xq, rfl, xk, okS _ hL⟩, hmu, ⟨⟨rfl, rfl⟩, ⟨rfl, rfl⟩, rfl, rfl, rfl, trivial⟩, ⟨⟨rfl, rfl, trivial⟩, trivial⟩, ⟨⟨rfl, rfl, trivial⟩, trivial⟩, trivial⟩
      refine brT ?_ (br (fun c4 => ?_) (fun c4 => ?_))
      · have : 1 ≤ (wordsM ((linesR s).getD x.1.i [])).length := Nat.pos_of_ne_zero c0
        rw [Bool.and_true, Bool.and_true, Bool.and_eq_true]
        exact ⟨dT (by omega), dT (Int.le_refl _)⟩
      · have c4' := Nat.le_of_ble_eq_true c4
        have hz : List.drop 1 (wordsM ((linesR s).getD x.1.i [])) = [] := List.eq_nil_of_length_eq_zero (by omega)
        refine brT c4 (brT ?_ (fin _ ?_))
        · rw [hz]; rfl
        · rw [hz]
          show [[]] = ([] : B) :: List.drop 1 (wordsM ((linesR s).getD x.1.i []))
          rw [hz]
      · refine brT ?_ (brT ?_ (fin _ ?_))
        · simp only [Bool.and_eq_true]
          exact ⟨⟨⟨⟨Nat.ble_eq_true_of_le (by omega), Nat.ble_eq_true_of_le (by omega)⟩, trivial⟩, trivial⟩, trivial⟩
        · rw [Bool.and_true, Bool.and_true]
          exact Nat.ble_eq_true_of_le (by simp; omega)
        · rw [Nat.zero_add, List.take_of_length_le (by simp; omega), List.drop_zero]; rfl
    have c1 : x.1.r.labels.length ≠ 0 := by simpa using c1
    have hseen : x.1.r.seen = true := by
      rw [xs]
      cases h : x.1.r.labels with
      | nil => rw [h] at c1; simp at c1
      | cons a l => rfl
    refine ⟨?_, fun u => ?_⟩
    · refine br (fun c2 => ?_) (fun c2 => ?_)
      · have c2 : x.1.qs.length = 16 := by have := beq_iff_eq.1 c2; omega
        refine brT (by simp; exact Nat.pos_of_ne_zero c0) (br (fun c3 => ?_) (fun c3 => ?_))
        · have c3 : ((wOf s x.1).getD 0 [] == wQueue) = true := c3
          refine errs x.1.r 4 ?_ rfl rfl
          unfold lineM
          have : ((wOf s x.1).getD 0 [] != wQueue) = false := by unfold bne; rw [c3]; rfl
          rw [d0, hseen, this, dT (by omega : (x.1.r.qs.length : Int) ≥ 16)]; rfl
        · have c3 : ((wOf s x.1).getD 0 [] == wQueue) = false := c3
          exact ⟨⟨0, c0, c1, fun h => by rw [c3] at h; cases h.2⟩, ⟨⟨rfl, rfl⟩, ⟨rfl, rfl⟩, rfl, rfl, rfl, rfl, trivial⟩, ⟨⟨rfl, rfl, trivial⟩, trivial⟩, ⟨⟨rfl, rfl, trivial⟩, trivial⟩, trivial⟩
      · have c2 : ¬ x.1.qs.length = 16 := by have := beq_eq_false_iff_ne.1 c2; omega
        exact ⟨⟨0, c0, c1, fun h => c2 h.1⟩, ⟨⟨rfl, rfl⟩, ⟨rfl, rfl⟩, rfl, rfl, rfl, rfl, trivial⟩, ⟨⟨rfl, rfl, trivial⟩, trivial⟩, ⟨⟨rfl, rfl, trivial⟩, trivial⟩, trivial⟩
    have hm := u.2.m
    have hqok := queueR_ok (wOf s x.1) x.1.r.labels.length
    refine brT ?_ (br (fun c3 => ?_) (fun c3 => ?_))
    · show AW.fine ⟨wOf s x.1, (x.1.r.labels.length : Int)⟩ = true
      simp only [AW.fine, Bool.and_eq_true]
      exact ⟨⟨⟨Nat.ble_eq_true_of_le (by omega), dT (by omega)⟩, dT (by omega)⟩, List.all_eq_true.2 hwm⟩
    · have c3 : (queueR (wOf s x.1) (x.1.r.labels.length : Int)).2 = false := by simpa using c3
      refine errs x.1.r 6 ?_ rfl rfl
      unfold lineM
      rw [d0, hseen]
      cases hq : (wOf s x.1).getD 0 [] == wQueue with
      | false =>
        have : ((wOf s x.1).getD 0 [] != wQueue) = true := by unfold bne; rw [hq]; rfl
        rw [this]; rfl
      | true =>
        have h1 : ((wOf s x.1).getD 0 [] != wQueue) = false := by unfold bne; rw [hq]; rfl
        have h2 : ¬ x.1.qs.length = 16 := fun h => hm ⟨h, hq⟩
        rw [c3, hq, Bool.and_true] at hqok
        rw [h1, dF (by omega : ¬ (x.1.r.qs.length : Int) ≥ 16), ← hqok]; rfl
    have c3 : (queueR (wOf s x.1) (x.1.r.labels.length : Int)).2 = true := by simpa using c3
    have hnew : lineQ s x.1 = newQ (wOf s x.1) := queueR_q c3
    have hL : lineM x.1.r (wOf s x.1) = ({ x.1.r with qs := x.1.r.qs ++ [newQ (wOf s x.1)] }, 0) := by
      rw [c3] at hqok
      have hqok := hqok.symm
      rw [Bool.and_eq_true, Bool.and_eq_true] at hqok
      have hq := hqok.1.2
      have h1 : ((wOf s x.1).getD 0 [] != wQueue) = false := by unfold bne; rw [hq]; rfl
      have h2 : ¬ x.1.qs.length = 16 := fun h => hm ⟨h, hq⟩
      unfold lineM
      rw [d0, show (!x.1.r.seen) = false by rw [hseen]; rfl, h1, dF (by omega : ¬ (x.1.r.qs.length : Int) ≥ 16), hqok.1.1, hqok.2]; rfl
    have h16 : x.1.qs.length < 16 := by
      rw [c3] at hqok
      have hqok := hqok.symm
      rw [Bool.and_eq_true, Bool.and_eq_true] at hqok
      have h2 : ¬ x.1.qs.length = 16 := fun h => hm ⟨h, hqok.1.2⟩
      omega
    refine ⟨⟨⟨⟨0, Nat.zero_le _, fun j h => absurd h (Nat.not_lt_zero _)⟩, ⟨⟨rfl, rfl⟩, ⟨rfl, rfl⟩, rfl, rfl, rfl, ⟨rfl, rfl⟩, rfl, trivial⟩, ⟨⟨rfl, rfl, trivial⟩, trivial⟩, ⟨⟨rfl, rfl, trivial⟩, trivial⟩, ⟨⟨rfl, rfl, rfl, trivial⟩, trivial⟩, trivial⟩, fun k => ?_⟩, fun k => ⟨?_, fun k => ⟨?_, fun k => ?_⟩⟩⟩
    · have k1 := k.2.1
      have k2 := k.2.2
      have e2 : ((k.1 : Int)).toNat = k.1 := by simp
      rw [e2]
      refine br (fun hk => ?_) (fun hk => ?_)
      · have hk : k.1 < x.1.qs.length := by simpa using hk
        have wk : IntKind.i64.wrap ((k.1 : Int) + 1) = ((k.1 + 1 : Nat) : Int) := by rw [wrap_id] <;> omega
        rw [wk]
        refine brT (by simp; omega) (br (fun hb => ?_) (fun hb => ?_))
        · have hb : ltQ (x.1.qs.getD k.1 qd) (lineQ s x.1) = true := hb
          refine ⟨⟨k.1 + 1, hk, fun j hj => ?_⟩, ?_, ⟨⟨rfl, rfl⟩, ⟨rfl, rfl⟩, rfl, rfl, rfl, ⟨rfl, rfl⟩, rfl, trivial⟩, ⟨⟨rfl, rfl, trivial⟩, trivial⟩, ⟨⟨rfl, rfl, trivial⟩, trivial⟩, ⟨⟨rfl, rfl, rfl, trivial⟩, trivial⟩, trivial⟩
          · by_cases h : j = k.1
            · rw [h]; exact hb
            · exact k2 j (by omega)
          · show x.1.qs.length - (k.1 + 1) < _; omega
        · have hb : ltQ (x.1.qs.getD k.1 qd) (lineQ s x.1) = false := hb
          exact ⟨⟨k.1, k1, k2, fun _ => hb⟩, ⟨⟨rfl, rfl⟩, ⟨rfl, rfl⟩, rfl, rfl, rfl, ⟨rfl, rfl⟩, rfl, trivial⟩, ⟨⟨rfl, rfl, trivial⟩, trivial⟩, ⟨⟨rfl, rfl, trivial⟩, trivial⟩, ⟨⟨rfl, rfl, rfl, trivial⟩, trivial⟩, trivial⟩
      · have hk : ¬ k.1 < x.1.qs.length := by simpa using hk
        exact ⟨⟨k.1, k1, k2, fun h => absurd h hk⟩, ⟨⟨rfl, rfl⟩, ⟨rfl, rfl⟩, rfl, rfl, rfl, ⟨rfl, rfl⟩, rfl, trivial⟩, ⟨⟨rfl, rfl, trivial⟩, trivial⟩, ⟨⟨rfl, rfl, trivial⟩, trivial⟩, ⟨⟨rfl, rfl, rfl, trivial⟩, trivial⟩, trivial⟩
    · have k1 := k.2.1
      have e2 : ((k.1 : Int)).toNat = k.1 := by simp
      rw [e2]
      obtain ⟨i1, i2⟩ := insF_split k1 k.2.2.1 k.2.2.2
      refine br (fun ht => ?_) (fun ht => br (fun hk => brT ?_ ?_) (fun hk => ?_))
      · have ht : x.1.tw = true := ht
        exact ⟨⟨k.1, k1, i1⟩, ⟨⟨rfl, rfl⟩, ⟨rfl, rfl⟩, by rw [ht]; rfl, rfl, rfl, ⟨rfl, rfl⟩, rfl, trivial⟩, ⟨⟨rfl, rfl, trivial⟩, trivial⟩, ⟨⟨rfl, rfl, trivial⟩, trivial⟩, ⟨⟨rfl, rfl, rfl, trivial⟩, trivial⟩, trivial⟩
      · rw [Bool.and_true, Bool.and_true]; exact hk
      · have ht : x.1.tw = false := ht
        have hk : k.1 < x.1.qs.length := by simpa using hk
        refine ⟨⟨k.1, k1, i1⟩, ⟨⟨rfl, rfl⟩, ⟨rfl, rfl⟩, ?_, rfl, rfl, ⟨rfl, rfl⟩, rfl, trivial⟩, ⟨⟨rfl, rfl, trivial⟩, trivial⟩, ⟨⟨rfl, rfl, trivial⟩, trivial⟩, ⟨⟨rfl, rfl, rfl, trivial⟩, trivial⟩, trivial⟩
        rw [ht, i2, dT hk, Bool.true_and, Bool.false_or]; rfl
      · have ht : x.1.tw = false := ht
        have hk : ¬ k.1 < x.1.qs.length := by simpa using hk
        refine ⟨⟨k.1, k1, i1⟩, ⟨⟨rfl, rfl⟩, ⟨rfl, rfl⟩, ?_, rfl, rfl, ⟨rfl, rfl⟩, rfl, trivial⟩, ⟨⟨rfl, rfl, trivial⟩, trivial⟩, ⟨⟨rfl, rfl, trivial⟩, trivial⟩, ⟨⟨rfl, rfl, rfl, trivial⟩, trivial⟩, trivial⟩
        rw [ht, i2, dF hk]; rfl
    · have k1 := k.2.1
      have e2 : ((k.1 : Int)).toNat = k.1 := by simp
      have hl : (List.take k.1 x.1.qs).length = k.1 := by simp; omega
      rw [e2]
      refine brT (by simp; omega) (br (fun hk => brT hk ?_) (fun hk => brT ?_ ?_))
      · have hk := Nat.le_of_ble_eq_true hk
        rw [List.drop_zero, hl] at hk
        have hz : k.1 = 0 := by omega
        have ht : List.take k.1 x.1.qs = [] := by rw [hz]; rfl
        refine ⟨⟨k.1, k.2⟩, ⟨⟨rfl, rfl⟩, ⟨rfl, rfl⟩, rfl, rfl, rfl, ⟨rfl, rfl⟩, rfl, ⟨rfl, ?_, Nat.le_refl _⟩, trivial⟩, ⟨⟨rfl, rfl, trivial⟩, trivial⟩, ⟨⟨rfl, rfl, trivial⟩, trivial⟩, ⟨⟨rfl, rfl, rfl, trivial⟩, trivial⟩, ?_, trivial⟩
        · show k.1 = _; rw [List.drop_zero, hl]; omega
        · show o46 (List.take k.1 x.1.qs) = _
          rw [ht]; rfl
      · rw [List.drop_zero, hl]
        simp only [Bool.and_eq_true]
        exact ⟨⟨⟨⟨Nat.ble_eq_true_of_le (by omega), Nat.ble_eq_true_of_le (by omega)⟩, trivial⟩, trivial⟩, trivial⟩
      · refine ⟨⟨k.1, k.2⟩, ⟨⟨rfl, rfl⟩, ⟨rfl, rfl⟩, rfl, rfl, rfl, ⟨rfl, rfl⟩, rfl, ⟨rfl, ?_, Nat.zero_le _⟩, trivial⟩, ⟨⟨rfl, rfl, trivial⟩, trivial⟩, ⟨⟨rfl, rfl, trivial⟩, trivial⟩, ⟨⟨rfl, rfl, rfl, trivial⟩, trivial⟩, ?_, trivial⟩
        · show k.1 = _; rw [List.drop_zero, hl]; omega
        · rfl
    · have k1 := k.2.1
      have kin := k.2.2
      have e2 : ((k.1 : Int)).toNat = k.1 := by simp
      have e3 : ((x.1.qs.length : Int)).toNat = x.1.qs.length := by simp
      have hl : (List.take k.1 x.1.qs).length = k.1 := by simp; omega
      have hd : (List.drop k.1 x.1.qs).length = x.1.qs.length - k.1 := by simp
      have hg : List.take k.1 (List.drop 0 (List.take k.1 x.1.qs)) ++ [lineQ s x.1] = List.take k.1 x.1.qs ++ [lineQ s x.1] := by
        rw [List.drop_zero, List.take_take, Nat.min_self]
      rw [e2, e3, List.take_length, hg, hd]
      have hgl : (List.take k.1 x.1.qs ++ [lineQ s x.1]).length = k.1 + 1 := by simp; omega
      have fin : ∀ ys : List Qu, ys = insF x.1.qs (lineQ s x.1) → (∃ (x' : { x : G18 // V18 s x }), (linesR s).length - x'.val.i < (linesR s).length - x.val.i ∧ (((0 : Nat) = 0 ∧ (0 : Nat) = 0) ∧ ((0 : Nat) = 0 ∧ (0 : Nat) = 0) ∧ x'.val.tw = (x.val.tw || isF x.1.qs (lineQ s x.1)) ∧ d9 (linesR s) = d9 (linesR s) ∧ (x'.val.i : Int) = ((x.1.i + 1 : Nat) : Int) ∧ True) ∧ ((nilsD = D.nils ∧ nilsD = D.nils ∧ True) ∧ True) ∧ ((d9 x'.val.r.labels = d9 x.1.r.labels ∧ d46 x'.val.qs = d46 ys ∧ True) ∧ True) ∧ True) := fun ys hys => by
        subst hys
        refine ⟨⟨⟨x.1.i + 1, { x.1.r with qs := x.1.r.qs ++ [newQ (wOf s x.1)] }, insF x.1.qs (lineQ s x.1), x.1.tw || isF x.1.qs (lineQ s x.1)⟩, hlt, xl, by show (x.1.r.qs ++ [_]).length ≤ 16; simp; omega, xs, ?_, okS _ hL⟩, hmu, ⟨⟨rfl, rfl⟩, ⟨rfl, rfl⟩, rfl, rfl, rfl, trivial⟩, ⟨⟨rfl, rfl, trivial⟩, trivial⟩, ⟨⟨rfl, rfl, trivial⟩, trivial⟩, trivial⟩
        have := xk.add (lineQ s x.1)
        rw [hnew] at this ⊢
        exact this
      refine brT (by rw [hl]; exact beq_z _) (brT (by have := grow_b (n := k.1) (k := 48) (by decide) (by omega); rw [hl]; exact this) (brT (by simp; omega) (br (fun hk => brT ?_ (brT ?_ (fin _ ?_))) (fun hk => brT ?_ (brT ?_ (brT ?_ (fin _ ?_)))))))
      · have hk := Nat.le_of_ble_eq_true hk
        rw [hgl]; exact Nat.ble_eq_true_of_le (by omega)
      · have hk := Nat.le_of_ble_eq_true hk
        have hz : List.drop k.1 x.1.qs = [] := List.eq_nil_of_length_eq_zero (by omega)
        rw [hz, setRange_nil, hgl, Bool.and_true, Bool.and_true]; exact Nat.ble_eq_true_of_le (by omega)
      · have hk := Nat.le_of_ble_eq_true hk
        have hz : List.drop k.1 x.1.qs = [] := List.eq_nil_of_length_eq_zero (by omega)
        refine Eq.trans ?_ kin.symm
        rw [hz, setRange_nil, List.take_of_length_le (by rw [hgl]; omega), List.drop_zero]
      · rw [hgl, Nat.zero_add]; exact Nat.beq_refl _
      · rw [hgl]
        simp only [Bool.and_eq_true]
        exact ⟨⟨⟨⟨Nat.ble_eq_true_of_le (by omega), Nat.ble_eq_true_of_le (by omega)⟩, trivial⟩, trivial⟩, Nat.ble_eq_true_of_le (by omega)⟩
      · rw [List.drop_zero, List.take_of_length_le (Nat.le_of_eq hgl), Bool.and_true, Bool.and_true]
        exact Nat.ble_eq_true_of_le (by simp; omega)
      · refine Eq.trans ?_ kin.symm
        rw [List.drop_zero, List.drop_zero, List.take_of_length_le (Nat.le_of_eq hgl), List.take_of_length_le (by simp; omega), List.append_assoc]; rfl
  · have hge : ¬ x.1.i < (linesR s).length := by simpa using hge
    have hrun : runM rd0 (textM s) = (x.1.r, 0) := by
      rw [← run_lines, ← xgo, List.drop_eq_nil_of_le (by omega)]; rfl
    refine br (fun c1 => ?_) (fun c1 => ?_)
    · have c1 : x.1.r.labels = [] := by
        have : x.1.r.labels.length = 0 := by simpa using c1
        exact List.eq_nil_of_length_eq_zero this
      have hseen : x.1.r.seen = false := by rw [xs, c1]; rfl
      rw [parse_unseen h0 hrun hseen]; exact ⟨⟨⟨rfl, rfl, trivial⟩, rfl, trivial⟩, trivial⟩
    have c1 : x.1.r.labels.length ≠ 0 := by simpa using c1
    have hseen : x.1.r.seen = true := by
      rw [xs]
      cases h : x.1.r.labels with
      | nil => rw [h] at c1; simp at c1
      | cons a l => rfl
    refine br (fun ht => ?_) (fun ht => ?_)
    · have ht : x.1.tw = true := ht
      rw [ht] at xk
      rw [parse_dup h0 hrun hseen xk.end_twice]; exact ⟨⟨⟨rfl, rfl, trivial⟩, rfl, trivial⟩, trivial⟩
    · have ht : x.1.tw = false := ht
      rw [ht] at xk
      obtain ⟨o1, o2⟩ := xk.end_once
      rw [parse_ok h0 hrun hseen o2]
      refine ⟨⟨⟨rfl, ?_, trivial⟩, rfl, trivial⟩, trivial⟩
      show d46 (orderM x.1.r.qs.length x.1.r.qs) = _
      rw [o1]
theorem k18 : SpecOk Tryd.prog 18 (SB sm s17) := spec_loop e24_sound (by kernel_rfl) (fun _ => A18) L18 J18 (fun _ => g18) ok18
theorem a18 : RowOK 18 ((SB sm s17).con (MB sm s17)) := Spec.con_ok k18 _ (fun _ => Nat.le_of_ble_eq_true rfl)
end Go.Proofs.YtaonjbojhikndaaDoor
