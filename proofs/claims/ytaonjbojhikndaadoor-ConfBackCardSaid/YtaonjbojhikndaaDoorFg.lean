/- ConfBounds: its function answers yes. No conditions. -/
import Derived.Test.YtaonjbojhikndaaDoorFf
namespace Go.Proofs.YtaonjbojhikndaaDoor
open Go Go.W
set_option maxRecDepth 100000
def K15 : Con regK.T := fun f => lookN [(17, S17.con (MB sm _))] f
theorem K15_ok : ConOk Tryd.prog K15 := con_cons a17 con_nil
noncomputable def e15 : Hd regK.T := hdT regK Tryd.prog K15 (fun _ => false) 1000 5
theorem e15_sound : HdSound Tryd.prog e15 := hdT_sound mixed hno K15_ok _ _ _
def S11 : Go.W.Spec regK.T := ⟨Unit, fun _ => [], fun _ => [], fun _ => true, fun _ => .ret (kb true, [])⟩
def S15 : Go.W.Spec regK.T := ⟨Int × Int, fun a => [ki a.1, ki a.2], fun _ => [], fun a => decide (0 < a.2), fun a => .ret (ki (wi a.1 a.2), [])⟩
theorem v11k (a : Unit) : MeetK e15 11 S11 a = (true = true ∧ True) := by kernel_rfl
theorem v15k (a n : Int) : MeetK e15 15 S15 (a, n) = (
  branch (!decide (n = (0 : Int)))
  (branch (decide (a.tmod n < (0 : Int))) (wi a n = IntKind.i64.wrap (a.tmod n + n) ∧ True) (wi a n = a.tmod n ∧ True))
  False) := by kernel_rfl
theorem m11k (a : Unit) : MeetsK e15 11 S11 a := by
  refine MeetsK.mk ?_
  rw [v11k]
  exact ⟨rfl, trivial⟩
theorem k11k : SpecOk Tryd.prog 11 S11 := spec_leaf e15_sound (by kernel_rfl) (fun a _ => m11k a)
theorem ok15k (a : Int × Int) (h : S15.pre a = true) : MeetsK e15 15 S15 a := by
  refine MeetsK.mk ?_
  obtain ⟨a, n⟩ := a
  have h : 0 < n := by simpa [S15] using h
  have h' : ¬ n = 0 := by omega
  rw [v15k]
  simp only [branch_iff, wi]
  by_cases h2 : a.tmod n < 0 <;> simp [h2, h']
theorem k15k : SpecOk Tryd.prog 15 S15 := spec_leaf e15_sound (by kernel_rfl) ok15k
def M15 : Meet S15 where
  find args _ := match args with | [.d (.int .i64 a), .d (.int .i64 b)] => some ((a, b), []) | _ => none
  ok args g a ρ h := by
    split at h
    · cases h
      exact ⟨⟨cov_i' _ _, cov_i' _ _, trivial⟩, rfl, fun j o' hj => by simp [S15] at hj⟩
    · cases h
def M11 : Meet S11 where
  find args _ := match args with | [] => some ((), []) | _ => none
  ok args g a ρ h := by
    split at h
    · cases h; exact ⟨trivial, rfl, fun j o' hj => by simp [S11] at hj⟩
    · cases h
theorem a11 : RowOK 11 (S11.con M11) := Spec.con_ok k11k M11 (fun _ => Nat.le_of_ble_eq_true rfl)
theorem a15 : RowOK 15 (S15.con M15) := Spec.con_ok k15k M15 (fun _ => Nat.le_of_ble_eq_true rfl)
/-- The number's class, where it is known. -/
def u15 (v : Int) : TB := fun args h => match args with | [.d (.int .i64 a), .d (.int .i64 b)] => .need (decide (0 < b) && decide (wi a b = v)) (Out.ask (Tr.ok h.nx) (.ret (ki v, ⟨h.h, h.nx, h.wr⟩))) | _ => .bad
theorem u15_ok (v : Int) : RowOK 15 (u15 v) := by
  intro args h Q hq
  unfold u15 at hq
  split at hq
  · rename_i a b
    obtain ⟨hb, hq⟩ := Out.K_need.1 hq
    obtain ⟨hk, hq⟩ := Out.K_ask.1 hq
    simp only [Bool.and_eq_true, decide_eq_true_eq] at hb
    obtain ⟨h1, rfl⟩ := hb
    refine a15 _ h Q ?_
    exact (must_iff _ _).2 ⟨decide_eq_true h1, Out.K_ask.2 ⟨by rw [Bool.and_eq_true]; exact ⟨rfl, hk⟩, hq⟩⟩
  · exact hq.elim
def K16 (v : Int) : Con regK.T := fun f => lookN [(11, S11.con M11), (15, u15 v), (17, S17.con (MB sm _))] f
theorem K16_ok (v : Int) : ConOk Tryd.prog (K16 v) := con_cons a11 (con_cons (u15_ok v) (con_cons a17 con_nil))
noncomputable def e16 (v : Int) : Hd regK.T := hdT regK Tryd.prog (K16 v) (fun _ => false) 1000 5
theorem e16_sound (v : Int) : HdSound Tryd.prog (e16 v) := hdT_sound mixed hno (K16_ok v) _ _ _
/-- A function's answer is yes. -/
def YesL (v : Int) (L : Unit → Nat → St regK.T → Option (LoopI regK.T Unit)) (fn : Func) (args : List VK) : Prop := awpFun regK Tryd.prog (e16 v) 1000 (fun _ => []) L noJ () fn args (fun r => yes r.1)
def lab : Nat → B
  | 0 => [108, 97, 98, 101, 108, 115, 10]
  | k + 1 => lab k ++ [10]
def L6 (v : Int) (_ : Unit) (k : Nat) (_ : St regK.T) : Option (LoopI regK.T Unit) := match Nat.beq k 6 with
  | true => some ⟨{ k : Nat // (k : Int) ≤ 1992 + v }, fun k => ⟨[(0, ki v), (5, ks (lab k.1)), (6, ki 5)], [], 0⟩, fun k => 2000 - k.1, fun _ => ()⟩
  | false => none
end Go.Proofs.YtaonjbojhikndaaDoor

namespace Go.Proofs.YtaonjbojhikndaaDoor
open Go Go.W Go.Proofs
set_option maxRecDepth 100000
theorem v6t (n : Int) (v : Int) : (YesL v (L6 v) Tryd.f6 [ki n, kb true]) = ( branch (decide (wi n (4 : Int) = v)) ((∃ (x : { k : Nat // (↑k : Int) ≤ (1992 : Int) + v }), (v = v ∧ lab x.val = [OfNat.ofNat (108 : Nat), OfNat.ofNat (97 : Nat), OfNat.ofNat (98 : Nat), OfNat.ofNat (101 : Nat), OfNat.ofNat (108 : Nat), OfNat.ofNat (115 : Nat), OfNat.ofNat (10 : Nat)] ∧ (5 : Int) = (5 : Int) ∧ True) ∧ True) ∧ ∀ (x : { k : Nat // (↑k : Int) ≤ (1992 : Int) + v }), branch (decide ((↑(List.length (lab x.val)) : Int) < IntKind.i64.wrap ((1999 : Int) + v))) (branch ((List.length (lab x.val) + (1 : Nat)).ble (9223372036854775807 : Nat)) (∃ (x' : { k : Nat // (↑k : Int) ≤ (1992 : Int) + v }), (2000 : Nat) - x'.val < (2000 : Nat) - x.val ∧ (v = v ∧ lab x'.val = lab x.val ++ [OfNat.ofNat (10 : Nat)] ∧ (5 : Int) = (5 : Int) ∧ True) ∧ True) False) (branch (S17.pre (lab x.val)) (branch (decide (v ≤ (1 : Int))) (branch ((parseM (lab x.val)).err == (0 : Int)) (true = true) (branch (decide (v > (1 : Int))) (((parseM (lab x.val)).err == (5 : Int)) = true) (false = true))) (branch (decide (v > (1 : Int))) (((parseM (lab x.val)).err == (5 : Int)) = true) (false = true))) False)) False) := by kernel_rfl

end Go.Proofs.YtaonjbojhikndaaDoor

namespace Go.Proofs.YtaonjbojhikndaaDoor
open Go Go.W Go.Proofs
set_option maxRecDepth 100000
theorem lab_len : ∀ k, (lab k).length = 7 + k
  | 0 => rfl
  | k + 1 => by
    show (lab k ++ [10]).length = _
    rw [List.length_append, lab_len k]; rfl
theorem split_snoc (c : UInt8) : ∀ s : B, splitM c (s ++ [c]) = splitM c s ++ [[]]
  | [] => by simp [splitM]
  | x :: l => by
    show splitM c (x :: (l ++ [c])) = _
    unfold splitM
    rw [split_snoc c l]
    cases x == c with
    | true => rfl
    | false =>
      cases h : splitM c l with
      | nil => exact (splitM_ne c l h).elim
      | cons p ps => rfl
theorem run_snoc : ∀ (ls : List B) (r r' : Rd), runM r ls = (r', 0) → runM r (ls ++ [[]]) = (r', 0)
  | [], r, r', h => by
    have h : (r, (0 : Int)) = (r', 0) := h
    cases h
    rfl
  | l :: ls, r, r', h => by
    have h : (bif (lineM r (wordsM l)).2 == 0 then runM (lineM r (wordsM l)).1 ls else lineM r (wordsM l)) = (r', 0) := h
    show (bif (lineM r (wordsM l)).2 == 0 then runM (lineM r (wordsM l)).1 (ls ++ [[]]) else lineM r (wordsM l)) = (r', 0)
    cases hc : (lineM r (wordsM l)).2 == 0 with
    | true =>
      rw [hc, cond_true] at h
      exact run_snoc ls _ _ h
    | false =>
      rw [hc, cond_false] at h
      rw [h] at hc
      cases hc
def rdL : Rd := ⟨[[]], [], true⟩
theorem run_lab : ∀ k, runM rd0 (textM (lab k)) = (rdL, 0)
  | 0 => by kernel_rfl
  | k + 1 => by
    show runM rd0 (splitM 10 (lab k ++ [10])) = _
    rw [split_snoc]
    exact run_snoc _ _ _ (run_lab k)
theorem err_lab {k : Nat} (h : 7 + k ≤ 2000) : (parseM (lab k)).err = 0 := by
  rw [parse_ok (dF (by rw [lab_len]; omega)) (run_lab k) rfl rfl]
theorem err_long {k : Nat} (h : 2000 < 7 + k) : (parseM (lab k)).err = 5 := by
  rw [parse_long (dT (by rw [lab_len]; omega))]
theorem y6t (n v : Int) (hw : wi n 4 = v) (h0 : 0 ≤ v) (h4 : v < 4) : YesL v (L6 v) Tryd.f6 [ki n, kb true] := by
  rw [v6t]
  refine brT (dT hw) ⟨⟨⟨0, by omega⟩, ⟨rfl, rfl, rfl, trivial⟩, trivial⟩, fun x => ?_⟩
  have hx := x.2
  have hl := lab_len x.1
  have w1 : IntKind.i64.wrap (1999 + v) = 1999 + v := by rw [wrap_id] <;> omega
  rw [w1]
  refine br (fun hlt => ?_) (fun hge => ?_)
  · have hlt := of_decide_eq_true hlt
    refine brT (Nat.ble_eq_true_of_le (by omega)) ⟨⟨x.1 + 1, by omega⟩, ?_, ⟨rfl, rfl, rfl, trivial⟩, trivial⟩
    show 2000 - (x.1 + 1) < 2000 - x.1
    omega
  · have hge := of_decide_eq_false hge
    refine brT (Nat.ble_eq_true_of_le (by omega)) (br (fun h1 => ?_) (fun h1 => ?_))
    · have h1 := of_decide_eq_true h1
      exact brT (by rw [err_lab (by omega)]; rfl) rfl
    · have h1 := of_decide_eq_false h1
      refine brT (dT (by omega)) ?_
      rw [err_long (by omega)]; rfl
structure YesM (v : Int) (fn : Func) (args : List VK) : Prop where
  go : ∃ L, YesL v L fn args
def noL' (_ : Unit) (_ : Nat) (_ : St regK.T) : Option (LoopI regK.T Unit) := none
theorem b0 (n : Int) : YesL 0 noL' Tryd.f6 [ki n, kb false] = must (decide ((0 : Int) < 4) && decide (wi n 4 = 0)) (true = true) := by kernel_rfl
theorem b1 (n : Int) : YesL 1 noL' Tryd.f6 [ki n, kb false] = must (decide ((0 : Int) < 4) && decide (wi n 4 = 1)) (true = true) := by kernel_rfl
theorem b2 (n : Int) : YesL 2 noL' Tryd.f6 [ki n, kb false] = must (decide ((0 : Int) < 4) && decide (wi n 4 = 2)) (true = true) := by kernel_rfl
theorem b3 (n : Int) : YesL 3 noL' Tryd.f6 [ki n, kb false] = must (decide ((0 : Int) < 4) && decide (wi n 4 = 3)) (true = true) := by kernel_rfl
theorem must4 {k v : Int} (h : k = v) : must (decide ((0 : Int) < 4) && decide (k = v)) (true = true) := by
  subst h
  rw [decide_eq_true (rfl : k = k)]
  exact rfl
theorem m0 (n : Int) (h : wi n 4 = 0) : YesM 0 Tryd.f6 [ki n, kb false] := YesM.mk ⟨noL', Eq.mpr (b0 n) (must4 h)⟩
theorem m1 (n : Int) (h : wi n 4 = 1) : YesM 1 Tryd.f6 [ki n, kb false] := YesM.mk ⟨noL', Eq.mpr (b1 n) (must4 h)⟩
theorem m2 (n : Int) (h : wi n 4 = 2) : YesM 2 Tryd.f6 [ki n, kb false] := YesM.mk ⟨noL', Eq.mpr (b2 n) (must4 h)⟩
theorem m3 (n : Int) (h : wi n 4 = 3) : YesM 3 Tryd.f6 [ki n, kb false] := YesM.mk ⟨noL', Eq.mpr (b3 n) (must4 h)⟩
theorem wi_ofK (a : Int) {n : Int} (h : 0 < n) (hn : n < 1000) : 0 ≤ wi a n ∧ wi a n < n := by
  unfold wi
  have h1 : a.tmod n < n := Int.tmod_lt_of_pos a h
  have h2 : -n < a.tmod n := Int.lt_tmod_of_pos a h
  by_cases h0 : a.tmod n < 0
  · rw [decide_eq_true h0, cond_true]
    have : IntKind.i64.wrap (a.tmod n + n) = a.tmod n + n := IntWalk.i64_in _ (by omega)
    omega
  · rw [decide_eq_false h0, cond_false]
    omega
theorem bounds_yes (n : Int) (b : Bool) : ∃ v, YesM v Tryd.f6 [ki n, kb b] := by
  have h := wi_ofK n (n := 4) (by decide) (by decide)
  cases b with
  | true => exact ⟨_, YesM.mk ⟨_, y6t n _ rfl h.1 h.2⟩⟩
  | false =>
    have hc : wi n 4 = 0 ∨ wi n 4 = 1 ∨ wi n 4 = 2 ∨ wi n 4 = 3 := by omega
    rcases hc with h | h | h | h
    · exact ⟨_, m0 n h⟩
    · exact ⟨_, m1 n h⟩
    · exact ⟨_, m2 n h⟩
    · exact ⟨_, m3 n h⟩
end Go.Proofs.YtaonjbojhikndaaDoor
