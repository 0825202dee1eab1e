/- A text's words, blanks more between them; ConfBlanks: its function answers yes. No conditions. -/
import Derived.Test.YtaonjbojhikndaaDoorJg
namespace Go.Proofs.YtaonjbojhikndaaDoor
open Go Go.W
set_option maxRecDepth 100000
/-! ### A text's words, letter by letter -/
def filt (ws : List (List B)) : List (List B) := ws.filter fun c => !(c == [])
theorem words_cons {w : B} (p : B) (h : (32 : UInt8) ∉ w) : wordsM (w ++ 32 :: p) = (bif w == [] then [] else [w]) ++ wordsM p := by
  unfold wordsM
  rw [split_app p h]
  unfold keep
  rw [List.filter_cons]
  cases w == [] <;> rfl
theorem words_one {w : B} (h : (32 : UInt8) ∉ w) : wordsM w = bif w == [] then [] else [w] := by
  unfold wordsM
  rw [split_no h]
  unfold keep
  rw [List.filter_cons]
  cases w == [] <;> rfl
theorem flush_eq (c : List B) (w : B) : flush c w = c ++ (bif w == [] then [] else [w]) := by
  unfold flush
  cases w == [] with
  | true => rw [cond_true, cond_true, List.append_nil]
  | false => rfl
theorem addL_eq (d : List (List B)) (c : List B) : addL d c = d ++ filt [c] := by
  unfold addL filt
  rw [List.filter_cons]
  cases c == [] with
  | true => rw [cond_true]; show d = d ++ []; rw [List.append_nil]
  | false => rfl
theorem filt_cons (c : List B) (l : List (List B)) : filt (c :: l) = filt [c] ++ filt l := by
  show filt ([c] ++ l) = _
  unfold filt
  rw [List.filter_append]
theorem tok_lines : ∀ (s : B) (d : List (List B)) (c : List B) (w : B), (32 : UInt8) ∉ w → (10 : UInt8) ∉ w →
    (stepT (s.foldl stepT ⟨d, c, w⟩) 10).d = d ++ (match splitM 10 s with | [] => [] | l0 :: ls => filt ((c ++ wordsM (w ++ l0)) :: ls.map wordsM))
  | [], d, c, w, h, _ => by
    show addL d (flush c w) = d ++ filt ((c ++ wordsM (w ++ [])) :: [])
    rw [List.append_nil, words_one h, ← flush_eq, addL_eq]
  | x :: s, d, c, w, h, h10 => by
    show (stepT (s.foldl stepT (stepT ⟨d, c, w⟩ x)) 10).d = _
    cases hs : splitM 10 s with
    | nil => exact (splitM_ne 10 s hs).elim
    | cons l0 ls =>
      by_cases hx : x = 10
      · subst hx
        have ih := tok_lines s (addL d (flush c w)) [] [] (by simp) (by simp)
        rw [hs] at ih
        have e : splitM 10 ((10 : UInt8) :: s) = [] :: splitM 10 s := rfl
        rw [e, hs]
        show (stepT (s.foldl stepT ⟨addL d (flush c w), [], []⟩) 10).d = d ++ filt ((c ++ wordsM (w ++ [])) :: (wordsM l0 :: ls.map wordsM))
        rw [ih]
        show addL d (flush c w) ++ filt (wordsM l0 :: ls.map wordsM) = d ++ filt ((c ++ wordsM (w ++ [])) :: (wordsM l0 :: ls.map wordsM))
        rw [List.append_nil, words_one h, ← flush_eq, addL_eq, filt_cons (flush c w) (wordsM l0 :: ls.map wordsM), List.append_assoc]
      · have hx10 : (x == 10) = false := beq_eq_false_iff_ne.2 hx
        have e : splitM 10 (x :: s) = (x :: l0) :: ls := by
          show (bif x == 10 then _ else (match splitM 10 s with | [] => [[x]] | p :: ps => (x :: p) :: ps)) = _
          rw [hx10, hs]; rfl
        rw [e]
        by_cases hx2 : x = 32
        · subst hx2
          have ih := tok_lines s d (flush c w) [] (by simp) (by simp)
          rw [hs] at ih
          show (stepT (s.foldl stepT ⟨d, flush c w, []⟩) 10).d = d ++ filt ((c ++ wordsM (w ++ 32 :: l0)) :: ls.map wordsM)
          rw [ih]
          show d ++ filt ((flush c w ++ wordsM l0) :: ls.map wordsM) = d ++ filt ((c ++ wordsM (w ++ 32 :: l0)) :: ls.map wordsM)
          rw [words_cons l0 h, flush_eq, List.append_assoc]
        · have hx32 : (x == 32) = false := beq_eq_false_iff_ne.2 hx2
          have ih := tok_lines s d c (w ++ [x]) (fun hm => by
            rcases List.mem_append.1 hm with hm | hm
            · exact h hm
            · exact hx2 (List.mem_singleton.1 hm).symm) (fun hm => by
            rcases List.mem_append.1 hm with hm | hm
            · exact h10 hm
            · exact hx (List.mem_singleton.1 hm).symm)
          rw [hs] at ih
          have est : stepT ⟨d, c, w⟩ x = ⟨d, c, w ++ [x]⟩ := by
            unfold stepT
            rw [hx10, hx32]; rfl
          rw [est, ih]
          show d ++ filt ((c ++ wordsM ((w ++ [x]) ++ l0)) :: ls.map wordsM) = d ++ filt ((c ++ wordsM (w ++ x :: l0)) :: ls.map wordsM)
          rw [List.append_assoc]; rfl
def toks (s : B) : List (List B) := (stepT (tokF s) 10).d
theorem toks_eq (s : B) : toks s = filt ((splitM 10 s).map wordsM) := by
  have h := tok_lines s [] [] [] (by simp) (by simp)
  show (stepT (s.foldl stepT ⟨[], [], []⟩) 10).d = _
  rw [h]
  cases hs : splitM 10 s with
  | nil => exact (splitM_ne 10 s hs).elim
  | cons l0 ls => rfl
def runW : Rd → List (List B) → Rd × Int
  | r, [] => (r, 0)
  | r, w :: ws => bif (lineM r w).2 == 0 then runW (lineM r w).1 ws else lineM r w
theorem run_W : ∀ (ls : List B) (r : Rd), runM r ls = runW r (ls.map wordsM)
  | [], r => rfl
  | l :: ls, r => by
    show (bif (lineM r (wordsM l)).2 == 0 then runM (lineM r (wordsM l)).1 ls else lineM r (wordsM l)) = bif (lineM r (wordsM l)).2 == 0 then runW (lineM r (wordsM l)).1 (ls.map wordsM) else lineM r (wordsM l)
    rw [run_W ls]
theorem runW_filt : ∀ (ws : List (List B)) (r : Rd), runW r ws = runW r (filt ws)
  | [], r => rfl
  | w :: ws, r => by
    unfold filt
    rw [List.filter_cons]
    cases hw : w == [] with
    | true =>
      have : w = [] := beq_iff_eq.1 hw
      subst this
      show (bif (lineM r []).2 == 0 then runW (lineM r []).1 ws else lineM r []) = _
      rw [line_none r rfl]
      exact runW_filt ws r
    | false =>
      show (bif (lineM r w).2 == 0 then runW (lineM r w).1 ws else lineM r w) = bif (lineM r w).2 == 0 then runW (lineM r w).1 (filt ws) else lineM r w
      rw [runW_filt ws]
theorem run_tok (s : B) : runM rd0 (textM s) = runW rd0 (toks s) := by
  rw [toks_eq, ← runW_filt, run_W]; rfl
theorem parse_tok {s t : B} (h : tokF s = tokF t) (hs : s.length ≤ 2000) (ht : t.length ≤ 2000) : parseM s = parseM t := by
  have e : toks s = toks t := by unfold toks; rw [h]
  have er : runM rd0 (textM s) = runM rd0 (textM t) := by rw [run_tok, run_tok, e]
  unfold parseM
  rw [dF (by omega : ¬ (s.length : Int) > 2000), dF (by omega : ¬ (t.length : Int) > 2000), er]
/-! ### Blanks more -/
theorem tok_app (s u : B) : tokF (s ++ u) = u.foldl stepT (tokF s) := by
  unfold tokF; rw [List.foldl_append]
theorem st32 {t : Tk} (h : t.w = []) : stepT t 32 = t := by
  obtain ⟨d, c, w⟩ := t
  have h : w = [] := h
  subst h; rfl
theorem st10 {t : Tk} (h : t.w = []) (hc : t.c = []) : stepT t 10 = t := by
  obtain ⟨d, c, w⟩ := t
  have h : w = [] := h
  have hc : c = [] := hc
  subst h; subst hc; rfl
def bl1 : List B := [[], [32], [32, 32, 32]]
def bl2 : List B := [[], [10], [32, 32, 10, 10]]
theorem blank1 {t : Tk} (h : t.w = []) {k : Nat} (hk : k < 3) : (bl1.getD k []).foldl stepT t = t ∧ (bl1.getD k []).length ≤ 3 := by
  have : k = 0 ∨ k = 1 ∨ k = 2 := by omega
  rcases this with e | e | e <;> subst e
  · exact ⟨rfl, by decide⟩
  · exact ⟨st32 h, by decide⟩
  · refine ⟨?_, by decide⟩
    show stepT (stepT (stepT t 32) 32) 32 = t
    rw [st32 h, st32 h, st32 h]
theorem blank2 {t : Tk} (h : t.w = []) (hc : t.c = []) {k : Nat} (hk : k < 3) : (bl2.getD k []).foldl stepT t = t ∧ (bl2.getD k []).length ≤ 4 := by
  have : k = 0 ∨ k = 1 ∨ k = 2 := by omega
  rcases this with e | e | e <;> subst e
  · exact ⟨rfl, by decide⟩
  · exact ⟨st10 h hc, by decide⟩
  · refine ⟨?_, by decide⟩
    show stepT (stepT (stepT (stepT t 32) 32) 10) 10 = t
    rw [st32 h, st32 h, st10 h hc, st10 h hc]
theorem len_app (a b : B) : (a ++ b).length = a.length + b.length := List.length_append
structure YesBF (r : AR) (ns : List Int) : Prop where
  go : YesB r ns
theorem blanks_yes (r : AR) (ns : List Int) : YesBF r ns := by
  refine YesBF.mk ?_
  rw [v7b]
  have hok := make_ok r
  refine br (fun _ => rfl) (fun _ => ⟨brT hok ⟨⟨_, textI_len (AT.ok_is hok), labM r.l, makeQ r, make_good r, textI_eq (make_good r)⟩, ⟨rfl, rfl, trivial⟩, trivial⟩, fun x => ⟨⟨⟨⟨⟨0, 0, []⟩, Nat.zero_le _, Nat.zero_le _, Nat.zero_le _, rfl⟩, ⟨rfl, rfl, rfl, rfl, rfl, trivial⟩, trivial⟩, fun y => ?_⟩, fun z => ?_⟩⟩)
  · have hx := x.2.len
    have y1 := y.2.i
    have y2 := y.2.k
    have y3 := y.2.len
    have y4 := y.2.tok
    have ei : ((y.1.i : Int)).toNat = y.1.i := by simp
    have ei1 : (((y.1.i + 1 : Nat) : Int)).toNat = y.1.i + 1 := by simp
    have ek : ((y.1.k : Int)).toNat = y.1.k := by simp
    have wi1 : IntKind.i64.wrap ((y.1.i : Int) + 1) = ((y.1.i + 1 : Nat) : Int) := by rw [wrap_id] <;> omega
    have wk1 : IntKind.i64.wrap ((y.1.k : Int) + 1) = ((y.1.k + 1 : Nat) : Int) := by rw [wrap_id] <;> omega
    rw [wi1, wk1, ei, ei1, ek]
    refine br (fun hlt => ⟨?_, fun u => ?_⟩) (fun hge => ?_)
    · have hlt : y.1.i < x.1.length := by have := of_decide_eq_true hlt; omega
      have hpc : List.drop y.1.i (List.take (y.1.i + 1) x.1) = [x.1.getD y.1.i 0] := by
        rw [take_snoc' 0 hlt, List.drop_append_of_le_length (by simp; omega), List.drop_of_length_le (by simp; omega)]; rfl
      have hst : tokF (y.1.s ++ [x.1.getD y.1.i 0]) = tokF (x.1.take (y.1.i + 1)) := by
        rw [tok_app, y4, take_snoc' 0 hlt, tok_app]
      have hs1 : (y.1.s ++ [x.1.getD y.1.i 0]).length = y.1.s.length + 1 := by rw [List.length_append]; rfl
      have hwd : x.1.getD y.1.i 0 = 32 ∨ x.1.getD y.1.i 0 = 10 → (tokF (x.1.take (y.1.i + 1))).w = [] := fun h => by
        rw [take_snoc' 0 hlt, tok_app]
        rcases h with h | h <;> rw [h] <;> rfl
      have hcd : x.1.getD y.1.i 0 = 10 → (tokF (x.1.take (y.1.i + 1))).c = [] := fun h => by
        rw [take_snoc' 0 hlt, tok_app, h]; rfl
      rw [hpc]
      have hb1 := wi_big (ns.getD y.1.k 0) (n := 3) (by decide) (by decide)
      have hb2 := wi_big (IntKind.i64.wrap (Int.tdiv (ns.getD y.1.k 0) 3)) (n := 3) (by decide) (by decide)
      have fin : ∀ (s' : B) (k' : Nat) (kk : Int), tokF s' = tokF (x.1.take (y.1.i + 1)) → s'.length ≤ 8 * (y.1.i + 1) → k' ≤ y.1.i + 1 → (k' : Int) = kk →
          ∃ (x_2 : { x_2 : R77 // P77 x.1 ns (R77.mk (x_2.i + 1) x_2.k x_2.s) ∧ x_2.i < x.1.length ∧ x_2.i = y.1.i }), (d3 ns = d3 ns ∧ x.1 = x.1 ∧ x_2.val.s = s' ∧ (x_2.val.k : Int) = kk ∧ (x_2.val.i : Int) = (y.1.i : Int) ∧ True) ∧ True := fun s' k' kk h1 h2 h3 h4 =>
        ⟨⟨⟨y.1.i, k', s'⟩, ⟨hlt, h3, h2, h1⟩, hlt, rfl⟩, ⟨rfl, rfl, rfl, h4, rfl, trivial⟩, trivial⟩
      have none_ := fin (y.1.s ++ [x.1.getD y.1.i 0]) y.1.k (y.1.k : Int) hst (by rw [hs1]; omega) (by omega) rfl
      have b1 : ∀ {k : Nat}, k < 3 → (x.1.getD y.1.i 0 = 32 ∨ x.1.getD y.1.i 0 = 10) → tokF (y.1.s ++ [x.1.getD y.1.i 0] ++ bl1.getD k []) = tokF (x.1.take (y.1.i + 1)) ∧ (bl1.getD k []).length ≤ 3 := fun hk h => by
        have := blank1 (hwd h) hk
        exact ⟨by rw [tok_app, hst, this.1], this.2⟩
      have b2 : ∀ {k j : Nat}, k < 3 → j < 3 → x.1.getD y.1.i 0 = 10 → tokF (y.1.s ++ [x.1.getD y.1.i 0] ++ bl1.getD k [] ++ bl2.getD j []) = tokF (x.1.take (y.1.i + 1)) ∧ (bl2.getD j []).length ≤ 4 := fun hk hj h => by
        have := blank2 (hwd (.inr h)) (hcd h) hj
        exact ⟨by rw [tok_app, (b1 hk (.inr h)).1, this.1], this.2⟩
      refine brT ?_ (brT (Nat.ble_eq_true_of_le (show y.1.s.length + 1 ≤ _ by omega)) (brT (dT (by omega)) (br (fun h32 => ?_) (fun h32 => brT (dT (by omega)) (br (fun h10 => ?_) (fun _ => none_))))))
      · rw [Bool.and_eq_true]; exact ⟨dT (by omega), dT (by omega)⟩
      · have h32 : x.1.getD y.1.i 0 = 32 := byte_is (c := 32) (by decide) h32
        have hB := b1 (k := (wi (ns.getD y.1.k 0) 3).toNat) (by omega) (.inl h32)
        refine br (fun hk => brT ?_ (brT ?_ (brT ?_ (brT ?_ (brT (dT (by omega)) (brF ?_ ?_)))))) (fun _ => none_)
        · rw [Bool.and_true, Bool.and_true]; exact hk
        · rw [Bool.and_eq_true]; exact ⟨dT hb1.1, dT hb1.2⟩
        · rw [Nat.zero_add]; exact Nat.ble_eq_true_of_le (show (wi (ns.getD y.1.k 0) 3).toNat + 1 ≤ 3 by omega)
        · rw [Nat.zero_add]
          refine Nat.ble_eq_true_of_le ?_
          show (y.1.s ++ [x.1.getD y.1.i 0]).length + (bl1.getD (wi (ns.getD y.1.k 0) 3).toNat []).length ≤ _
          rw [hs1]; omega
        · show (((x.1.getD y.1.i 0).toNat : Int) == 10) = false
          rw [h32]; rfl
        · rw [Nat.zero_add]
          refine fin _ (y.1.k + 1) _ hB.1 ?_ (by omega) rfl
          have := hB.2
          have hq := len_app (y.1.s ++ [x.1.getD y.1.i 0]) (bl1.getD (wi (ns.getD y.1.k 0) 3).toNat [])
          rw [hs1] at hq
          refine Nat.le_trans (Nat.le_of_eq hq) ?_
          omega
      · have h10 : x.1.getD y.1.i 0 = 10 := byte_is (c := 10) (by decide) h10
        have hB := b1 (k := (wi (ns.getD y.1.k 0) 3).toNat) (by omega) (.inr h10)
        have hC := b2 (k := (wi (ns.getD y.1.k 0) 3).toNat) (j := (wi (IntKind.i64.wrap (Int.tdiv (ns.getD y.1.k 0) 3)) 3).toNat) (by omega) (by omega) h10
        have hk' : ∀ {b : Bool}, b = true → (b && true && true) = true := fun h => by rw [Bool.and_true, Bool.and_true]; exact h
        refine br (fun hk => brT (hk' hk) (brT ?_ (brT ?_ (brT ?_ (brT (dT (by omega)) (brT ?_ (brT (hk' hk) (brT ?_ (brT ?_ (brT ?_ ?_)))))))))) (fun _ => none_)
        · rw [Bool.and_eq_true]; exact ⟨dT hb1.1, dT hb1.2⟩
        · rw [Nat.zero_add]; exact Nat.ble_eq_true_of_le (show (wi (ns.getD y.1.k 0) 3).toNat + 1 ≤ 3 by omega)
        · rw [Nat.zero_add]
          refine Nat.ble_eq_true_of_le ?_
          show (y.1.s ++ [x.1.getD y.1.i 0]).length + (bl1.getD (wi (ns.getD y.1.k 0) 3).toNat []).length ≤ _
          rw [hs1]; have := hB.2; omega
        · show (((x.1.getD y.1.i 0).toNat : Int) == 10) = true
          rw [h10]; rfl
        · rw [Bool.and_eq_true]; exact ⟨dT hb2.1, dT hb2.2⟩
        · rw [Nat.zero_add]; exact Nat.ble_eq_true_of_le (show (wi (IntKind.i64.wrap (Int.tdiv (ns.getD y.1.k 0) 3)) 3).toNat + 1 ≤ 3 by omega)
        · rw [Nat.zero_add, Nat.zero_add]
          refine Nat.ble_eq_true_of_le ?_
          show (y.1.s ++ [x.1.getD y.1.i 0] ++ bl1.getD (wi (ns.getD y.1.k 0) 3).toNat []).length + (bl2.getD (wi (IntKind.i64.wrap (Int.tdiv (ns.getD y.1.k 0) 3)) 3).toNat []).length ≤ _
          rw [List.length_append, hs1]; have := hB.2; have := hC.2; omega
        · rw [Nat.zero_add, Nat.zero_add]
          refine fin _ (y.1.k + 1) _ hC.1 ?_ (by omega) rfl
          have := hB.2
          have := hC.2
          have hq := len_app (y.1.s ++ [x.1.getD y.1.i 0]) (bl1.getD (wi (ns.getD y.1.k 0) 3).toNat [])
          have hq2 := len_app (y.1.s ++ [x.1.getD y.1.i 0] ++ bl1.getD (wi (ns.getD y.1.k 0) 3).toNat []) (bl2.getD (wi (IntKind.i64.wrap (Int.tdiv (ns.getD y.1.k 0) 3)) 3).toNat [])
          rw [hq, hs1] at hq2
          refine Nat.le_trans (Nat.le_of_eq hq2) ?_
          omega
    · have u1 := u.2.1
      have u2 := u.2.2.1
      have u3 := u.2.2.2
      have wu : IntKind.i64.wrap ((u.1.i : Int) + 1) = ((u.1.i + 1 : Nat) : Int) := by rw [wrap_id] <;> omega
      exact ⟨⟨⟨u.1.i + 1, u.1.k, u.1.s⟩, u1⟩, by show x.1.length - (u.1.i + 1) < x.1.length - y.1.i; omega, ⟨rfl, rfl, rfl, rfl, wu.symm, trivial⟩, trivial⟩
    · have hge : ¬ y.1.i < x.1.length := by
        have := of_decide_eq_false hge
        exact fun h => this (Int.ofNat_lt.2 h)
      refine ⟨⟨y.1.s, ?_, by omega⟩, ⟨rfl, rfl, trivial⟩, trivial⟩
      rw [y4, List.take_of_length_le (by omega)]
  · have z1 := z.2.1
    obtain ⟨la, qs, hg, ht⟩ := x.2.good
    refine br (fun _ => rfl) (fun hs => br (fun _ => rfl) (fun ht2 => ?_))
    have hs : z.1.length ≤ 2000 := by
      have := of_decide_eq_false hs
      omega
    have ht2 : x.1.length ≤ 2000 := by
      have := of_decide_eq_false ht2
      omega
    have hp : parseM x.1 = ⟨la, qs, 0⟩ := by rw [ht] at ht2 ⊢; exact parse_text hg ht2
    have hps : parseM z.1 = parseM x.1 := parse_tok z1 hs ht2
    rw [hps]
    have he : ((parseM x.1).err == 0) = true := by rw [hp]; rfl
    exact brT (Nat.ble_eq_true_of_le (by show _ + 1 ≤ 1000000; omega)) (brT (Nat.ble_eq_true_of_le (by show _ + 1 ≤ 1000000; omega)) (brT he (brT he (brT (small_same _ _ _) (same_refl _ _)))))
end Go.Proofs.YtaonjbojhikndaaDoor
