/- Conf: words, numbers, shares, a queue's line. No conditions. -/
import Derived.Test.YtaonjbojhikndaaDoorFc
namespace Go.Proofs.YtaonjbojhikndaaDoor
open Go Go.W
set_option maxRecDepth 100000

def M39 : Meet S39 where
  find args _ := match args with | [.d (.str s), .d (.str [c]), .d (.int .i64 (.ofNat 0)), .d (.int .i64 (.negSucc 0))] => some (⟨s, c⟩, []) | _ => none
  ok args g a ρ h := by
    split at h
    · cases h
      exact ⟨⟨cov_s _ _, cov_s _ _, cov_i' _ _, cov_i' _ _, trivial⟩, rfl, fun j o' hj => by simp [S39] at hj⟩
    · cases h
theorem a39 : RowOK 39 (S39.con M39) := Spec.con_ok k39 M39 (fun _ => Nat.le_of_ble_eq_true rfl)
def K6 : Con regK.T := fun f => lookN [(39, S39.con M39), (40, S40.con M40), (56, S56.con M56), (75, S75.con M75), (76, uBad), (79, u79)] f
theorem K6_ok : ConOk Tryd.prog K6 := con_cons a39 (con_cons a40 (con_cons a56 (con_cons a75 (con_cons (aBad 76) (con_cons a79 con_nil)))))
noncomputable def e6 : Hd regK.T := hdT regK Tryd.prog K6 (fun _ => false) 1000 5
theorem e6_sound : HdSound Tryd.prog e6 := hdT_sound mixed hno K6_ok _ _ _

/-- A text alone. -/
def SB (pre : B → Bool) (out : B → QO) : Go.W.Spec regK.T := ⟨B, fun s => [ks s], fun _ => [], pre, out⟩
def MB (pre : B → Bool) (out : B → QO) : Meet (SB pre out) where
  find args _ := match args with | [.d (.str s)] => some (s, []) | _ => none
  ok args g a ρ h := by
    split at h
    · cases h
      exact ⟨⟨cov_s _ _, trivial⟩, rfl, fun j o' hj => by simp [SB] at hj⟩
    · cases h
def sm (s : B) : Bool := small (s.length + 1)

def wordsM (s : B) : List B := keep (splitM 32 s)
def s26 (s : B) : QO := .ret (.d (.sl 9 (wordsM s)), [])

def zeroLed (s : B) : Bool := decide (1 < s.length) && (s.getD 0 0 == 48)
def numM (s : B) : Int × Bool := bif okNum s && !zeroLed s then (valM s, true) else (0, false)
def s47 (s : B) : QO := .ret (.tup [ki (numM s).1, kb (numM s).2], [])
end Go.Proofs.YtaonjbojhikndaaDoor

namespace Go.Proofs.YtaonjbojhikndaaDoor
open Go Go.W Go.Proofs
set_option maxRecDepth 100000
theorem v26 (s : B) : (MeetK e6 (26 : Nat) (SB sm s26) s) = ( branch (S39.pre (ASp.mk s (OfNat.ofNat (32 : Nat)))) (branch (S40.pre (AL.mk (splitM (OfNat.ofNat (32 : Nat)) s) (splitM (OfNat.ofNat (32 : Nat)) s).length (splitM (OfNat.ofNat (32 : Nat)) s).length)) (branch (((0 : Nat) + (keep (splitM (OfNat.ofNat (32 : Nat)) s)).length).ble (keep (splitM (OfNat.ofNat (32 : Nat)) s) ++ List.replicate ((splitM (OfNat.ofNat (32 : Nat)) s).length - (keep (splitM (OfNat.ofNat (32 : Nat)) s)).length) []).length) (d9 (wordsM s) = d9 (List.drop (0 : Nat) (List.take ((0 : Nat) + (keep (splitM (OfNat.ofNat (32 : Nat)) s)).length) (keep (splitM (OfNat.ofNat (32 : Nat)) s) ++ List.replicate ((splitM (OfNat.ofNat (32 : Nat)) s).length - (keep (splitM (OfNat.ofNat (32 : Nat)) s)).length) []))) ∧ True) False) False) False) := by kernel_rfl
theorem v47 (s : B) : (MeetK e6 (47 : Nat) (SB sm s47) s) = ( branch (s == []) (((numM s).fst = (0 : Int) ∧ (numM s).snd = false ∧ True) ∧ True) (branch (decide ((↑(List.length s) : Int) > (7 : Int))) (((numM s).fst = (0 : Int) ∧ (numM s).snd = false ∧ True) ∧ True) (branch (decide ((↑(List.length s) : Int) > (1 : Int))) (branch (decide ((0 : Int) < (↑(List.length s) : Int))) (branch ((↑(List.getD s (0 : Nat) (OfNat.ofNat (0 : Nat))).toNat : Int) == (48 : Int)) (((numM s).fst = (0 : Int) ∧ (numM s).snd = false ∧ True) ∧ True) (branch (S56.pre s) (branch (!(bif s == [] then [] else dropL (dropR s)) == []) (((numM s).fst = (0 : Int) ∧ (numM s).snd = false ∧ True) ∧ True) (branch (S75.pre s) (((numM s).fst = valM s ∧ (numM s).snd = true ∧ True) ∧ True) False)) False)) False) (branch (S56.pre s) (branch (!(bif s == [] then [] else dropL (dropR s)) == []) (((numM s).fst = (0 : Int) ∧ (numM s).snd = false ∧ True) ∧ True) (branch (S75.pre s) (((numM s).fst = valM s ∧ (numM s).snd = true ∧ True) ∧ True) False)) False)))) := by kernel_rfl
theorem v62 (a : ASp) : (MeetK e6 (62 : Nat) S51 a) = ( branch ([a.c] == a.s) (Lib.indexByte a.s a.c = (0 : Int) ∧ True) (Lib.indexByte a.s a.c = Lib.indexByte a.s (↑([a.c].getD (0 : Nat) (OfNat.ofNat (0 : Nat))).toNat : Int).toNat.toUInt8 ∧ True)) := by kernel_rfl

end Go.Proofs.YtaonjbojhikndaaDoor

namespace Go.Proofs.YtaonjbojhikndaaDoor
open Go Go.W
set_option maxRecDepth 100000

theorem sm_le {s : B} (h : sm s = true) : s.length + 1 ≤ 1000000 := small_le h
theorem ok26 (s : B) (hp : sm s = true) : MeetsK e6 26 (SB sm s26) s := by
  refine MeetsK.mk ?_
  rw [v26]
  have hs := sm_le hp
  have h1 := splitM_len 32 s
  have h2 : s.count 32 ≤ s.length := List.count_le_length
  have h3 := keep_le (splitM 32 s)
  refine brT (Nat.ble_eq_true_of_le (by show s.length ≤ _; omega)) (brT ?_ (brT ?_ ⟨?_, trivial⟩))
  · show AL.fine ⟨splitM 32 s, (splitM 32 s).length, (splitM 32 s).length⟩ = true
    unfold AL.fine
    simp only [Bool.and_eq_true]
    exact ⟨⟨Nat.beq_refl _, Nat.beq_refl _⟩, Nat.ble_eq_true_of_le (by omega)⟩
  · exact Nat.ble_eq_true_of_le (by simp)
  · show d9 (keep (splitM 32 s)) = d9 _
    congr 1
    rw [Nat.zero_add, List.drop_zero, List.take_left]
theorem k26 : SpecOk Tryd.prog 26 (SB sm s26) := spec_leaf e6_sound (by kernel_rfl) ok26
theorem a26 : RowOK 26 ((SB sm s26).con (MB sm s26)) := Spec.con_ok k26 _ (fun _ => Nat.le_of_ble_eq_true rfl)

theorem dropL_nil : ∀ {s : B}, dropL s = [] ↔ s.all isD = true
  | [] => by simp [dropL]
  | b :: l => by
    rw [dropL_cons, List.all_cons]
    cases h : isD b with
    | true => simp only [cond_true, Bool.true_and]; exact dropL_nil
    | false => simp
theorem dropL_head : ∀ {s : B} {b : UInt8} {l : B}, dropL s = b :: l → isD b = false
  | [], b, l, h => by cases h
  | c :: s, b, l, h => by
    rw [dropL_cons] at h
    cases hc : isD c with
    | true => rw [hc, cond_true] at h; exact dropL_head h
    | false => rw [hc, cond_false] at h; cases h; exact hc
theorem trim_nil (s : B) : ((bif s == [] then [] else dropL (dropR s)) == []) = allD s := by
  have key : dropL (dropR s) = [] ↔ s.all isD = true := by
    constructor
    · intro h
      cases hr : dropL s.reverse with
      | nil => rw [dropL_nil] at hr; simpa using hr
      | cons b l =>
        have hb := dropL_head hr
        have h2 := (dropL_nil (s := dropR s)).1 h
        unfold dropR at h2
        rw [hr] at h2
        simp [hb] at h2
    · intro h
      have : dropL s.reverse = [] := dropL_nil.2 (by simpa using h)
      unfold dropR
      rw [this]
      rfl
  unfold allD
  rw [Bool.eq_iff_iff, ← key]
  cases s with
  | nil => simp [dropR, dropL]
  | cons b l => simp

theorem ok47 (s : B) (hp : sm s = true) : MeetsK e6 47 (SB sm s47) s := by
  refine MeetsK.mk ?_
  rw [v47]
  have hs := sm_le hp
  rw [trim_nil]
  have no : (okNum s && !zeroLed s) = false → (((numM s).fst = (0 : Int) ∧ (numM s).snd = false ∧ True) ∧ True) := fun h => by
    unfold numM; rw [h]; exact ⟨⟨rfl, rfl, trivial⟩, trivial⟩
  have yes : (okNum s && !zeroLed s) = true → (((numM s).fst = valM s ∧ (numM s).snd = true ∧ True) ∧ True) := fun h => by
    unfold numM; rw [h]; exact ⟨⟨rfl, rfl, trivial⟩, trivial⟩
  have okf : (Nat.ble 1 s.length = false ∨ Nat.ble s.length 7 = false ∨ allD s = false) → okNum s = false := by
    unfold okNum; rintro (h | h | h) <;> simp [h]
  refine br (fun h => no ?_) (fun h0 => br (fun h => no ?_) (fun h1 => ?_))
  · have h : s = [] := by simpa using h
    subst h; rfl
  · have h : 7 < (s.length : Int) := by simpa using h
    rw [okf (.inr (.inl (by cases hb : Nat.ble s.length 7 with
      | false => rfl
      | true => have := Nat.le_of_ble_eq_true hb; omega)))]
    rfl
  · have h1 : (s.length : Int) ≤ 7 := by simpa using h1
    have h0 : 1 ≤ s.length := by
      cases s with
      | nil => simp at h0
      | cons b l => simp
    have b1 : Nat.ble 1 s.length = true := Nat.ble_eq_true_of_le h0
    have b7 : Nat.ble s.length 7 = true := Nat.ble_eq_true_of_le (by omega)
    have hok : okNum s = allD s := by unfold okNum; rw [b1, b7]; rfl
    have tail : zeroLed s = false → branch (S56.pre s) (branch (!allD s) (((numM s).fst = (0 : Int) ∧ (numM s).snd = false ∧ True) ∧ True) (branch (S75.pre s) (((numM s).fst = valM s ∧ (numM s).snd = true ∧ True) ∧ True) False)) False := by
      intro hz
      refine brT (Nat.ble_eq_true_of_le (by show s.length ≤ _; omega)) (br (fun h => no ?_) (fun h => ?_))
      · have h : allD s = false := by simpa using h
        rw [hok, h]; rfl
      · have h : allD s = true := by simpa using h
        exact brT (by show okNum s = true; rw [hok, h]) (yes (by rw [hok, h, hz]; rfl))
    refine br (fun h2 => ?_) (fun h2 => ?_)
    · have h2 : (1 : Int) < s.length := by simpa using h2
      have h2 : 1 < s.length := by omega
      have hz : zeroLed s = (s.getD 0 0 == 48) := by unfold zeroLed; rw [dT h2]; rfl
      refine brT (dT (by omega)) (br (fun h3 => no ?_) (fun h3 => tail ?_))
      · have h3 : ((s.getD 0 0).toNat : Int) = 48 := eq_of_beq h3
        have : s.getD 0 0 = 48 := by
          apply UInt8.toNat_inj.1
          show (s.getD 0 0).toNat = 48
          omega
        rw [hz, this]; simp
      · have h3 : ((s.getD 0 0).toNat : Int) ≠ 48 := by simpa using h3
        rw [hz]
        refine beq_eq_false_iff_ne.2 (fun e => h3 ?_)
        rw [e]; rfl
    · have h2 : (s.length : Int) ≤ 1 := by simpa using h2
      have h2 : ¬ 1 < s.length := by omega
      exact tail (by unfold zeroLed; rw [dF h2]; rfl)
theorem k47 : SpecOk Tryd.prog 47 (SB sm s47) := spec_leaf e6_sound (by kernel_rfl) ok47
theorem a47 : RowOK 47 ((SB sm s47).con (MB sm s47)) := Spec.con_ok k47 _ (fun _ => Nat.le_of_ble_eq_true rfl)
theorem ok62 (a : ASp) : MeetsK e6 62 S51 a := by
  refine MeetsK.mk ?_
  rw [v62]
  simp only [branch_iff]
  obtain ⟨s, c⟩ := a
  simp only
  refine ⟨fun h => ?_, fun _ => ?_⟩
  · have h : [c] = s := by simpa using h
    subst h
    simp [Lib.indexByte]
  · simp
theorem k62 : SpecOk Tryd.prog 62 S51 := spec_leaf e6_sound (by kernel_rfl) (fun a _ => ok62 a)
theorem a62 : RowOK 62 (S51.con M51) := Spec.con_ok k62 M51 (fun _ => Nat.le_of_ble_eq_true rfl)

/-! ### Shares -/
def cutM (s : B) : B × B × Bool := bif Lib.indexByte s 47 == -1 then (s, [], false) else (s.take (Lib.indexByte s 47).toNat, s.drop ((Lib.indexByte s 47).toNat + 1), true)
def shareM (s : B) : Cp × Bool := (⟨(numM (cutM s).1).1, (numM (cutM s).2.1).1⟩, (cutM s).2.2 && (numM (cutM s).1).2 && (numM (cutM s).2.1).2)
def s48 (s : B) : QO := .ret (.tup [.agg [ki (shareM s).1.least, ki (shareM s).1.most], kb (shareM s).2], [])
def s77 (s : B) : QO := .ret (.tup [ks (cutM s).1, ks (cutM s).2.1, kb (cutM s).2.2], [])
def S77 : Go.W.Spec regK.T := ⟨B, fun s => [ks s, ks [47]], fun _ => [], sm, s77⟩
def M77 : Meet S77 where
  find args _ := match args with | [.d (.str s), .d (.str t)] => (match t == [47] with | true => some (s, []) | false => none) | _ => none
  ok args g a ρ h := by
    split at h
    · rename_i s t
      split at h
      · rename_i ht
        have ht : t = [47] := by simpa using ht
        cases h
        subst ht
        exact ⟨⟨cov_s _ _, cov_s _ _, trivial⟩, rfl, fun j o' hj => by simp [S77] at hj⟩
      · cases h
    · cases h
def K7 : Con regK.T := fun f => lookN [(62, S51.con M51)] f
theorem K7_ok : ConOk Tryd.prog K7 := con_cons a62 con_nil
noncomputable def e7 : Hd regK.T := hdT regK Tryd.prog K7 (fun _ => false) 1000 5
theorem e7_sound : HdSound Tryd.prog e7 := hdT_sound mixed hno K7_ok _ _ _
end Go.Proofs.YtaonjbojhikndaaDoor

namespace Go.Proofs.YtaonjbojhikndaaDoor
open Go Go.W Go.Proofs
set_option maxRecDepth 100000
theorem v77 (s : B) : (MeetK e7 (77 : Nat) S77 s) = ( branch (decide (Lib.indexByte s (OfNat.ofNat (47 : Nat)) ≥ (0 : Int))) (branch (decide ((0 : Int) ≤ Lib.indexByte s (OfNat.ofNat (47 : Nat))) && decide (Lib.indexByte s (OfNat.ofNat (47 : Nat)) ≤ (↑(List.length s) : Int))) (branch (decide ((0 : Int) ≤ IntKind.i64.wrap (Lib.indexByte s (OfNat.ofNat (47 : Nat)) + (↑(1 : Nat) : Int))) && decide (IntKind.i64.wrap (Lib.indexByte s (OfNat.ofNat (47 : Nat)) + (↑(1 : Nat) : Int)) ≤ (↑(List.length s) : Int)) && decide ((↑(List.length s) : Int) ≤ (↑(List.length s) : Int))) (((cutM s).fst = List.drop (0 : Nat) (List.take (Lib.indexByte s (OfNat.ofNat (47 : Nat))).toNat s) ∧ (cutM s).snd.fst = List.drop (IntKind.i64.wrap (Lib.indexByte s (OfNat.ofNat (47 : Nat)) + (↑(1 : Nat) : Int))).toNat (List.take (↑(List.length s) : Int).toNat s) ∧ (cutM s).snd.snd = true ∧ True) ∧ True) False) False) (((cutM s).fst = s ∧ (cutM s).snd.fst = [] ∧ (cutM s).snd.snd = false ∧ True) ∧ True)) := by kernel_rfl

end Go.Proofs.YtaonjbojhikndaaDoor

namespace Go.Proofs.YtaonjbojhikndaaDoor
open Go Go.W
set_option maxRecDepth 100000

theorem cut_none {s : B} (h : Lib.indexByte s 47 = -1) : cutM s = (s, [], false) := by unfold cutM; rw [h]; rfl
theorem cut_some {s : B} {m : Nat} (h : Lib.indexByte s 47 = m) : cutM s = (s.take m, s.drop (m + 1), true) := by
  unfold cutM
  rw [h, bF (show (m : Int) ≠ -1 by omega), cond_false]
  rfl
theorem ok77 (s : B) (hp : S77.pre s = true) : MeetsK e7 77 S77 s := by
  refine MeetsK.mk ?_
  rw [v77]
  have hs := sm_le hp
  rcases index_cases s 47 with h | ⟨m, h⟩
  · refine brF (dF (by rw [show Lib.indexByte s (OfNat.ofNat 47) = -1 from h]; decide)) ?_
    rw [cut_none h]
    exact ⟨⟨rfl, rfl, rfl, trivial⟩, trivial⟩
  · obtain ⟨_, h2⟩ := split_some h
    have e : Lib.indexByte s (OfNat.ofNat 47) = m := h
    have w1 : IntKind.i64.wrap ((m : Int) + (1 : Nat)) = ((m + 1 : Nat) : Int) := by rw [wrap_id] <;> omega
    rw [e, w1, cut_some h]
    refine brT (dT (by omega)) (brT (by simp; omega) (brT (by simp; omega) ⟨⟨by simp, by simp, rfl, trivial⟩, trivial⟩))
theorem k77 : SpecOk Tryd.prog 77 S77 := spec_leaf e7_sound (by kernel_rfl) ok77
theorem a77 : RowOK 77 (S77.con M77) := Spec.con_ok k77 _ (fun _ => Nat.le_of_ble_eq_true rfl)
def K8 : Con regK.T := fun f => lookN [(77, S77.con M77), (47, (SB sm s47).con (MB sm s47))] f
theorem K8_ok : ConOk Tryd.prog K8 := con_cons a77 (con_cons a47 con_nil)
noncomputable def e8 : Hd regK.T := hdT regK Tryd.prog K8 (fun _ => false) 1000 5
theorem e8_sound : HdSound Tryd.prog e8 := hdT_sound mixed hno K8_ok _ _ _
end Go.Proofs.YtaonjbojhikndaaDoor

namespace Go.Proofs.YtaonjbojhikndaaDoor
open Go Go.W Go.Proofs
set_option maxRecDepth 100000
theorem v48 (s : B) : (MeetK e8 (48 : Nat) (SB sm s48) s) = ( branch (S77.pre s) (branch ((SB sm s47).pre (cutM s).fst) (branch ((SB sm s47).pre (cutM s).snd.fst) (branch (cutM s).snd.snd (branch (numM (cutM s).fst).snd ((((shareM s).fst.least = (numM (cutM s).fst).fst ∧ (shareM s).fst.most = (numM (cutM s).snd.fst).fst ∧ True) ∧ (shareM s).snd = (numM (cutM s).snd.fst).snd ∧ True) ∧ True) ((((shareM s).fst.least = (numM (cutM s).fst).fst ∧ (shareM s).fst.most = (numM (cutM s).snd.fst).fst ∧ True) ∧ (shareM s).snd = false ∧ True) ∧ True)) ((((shareM s).fst.least = (numM (cutM s).fst).fst ∧ (shareM s).fst.most = (numM (cutM s).snd.fst).fst ∧ True) ∧ (shareM s).snd = false ∧ True) ∧ True)) False) False) False) := by kernel_rfl

end Go.Proofs.YtaonjbojhikndaaDoor

namespace Go.Proofs.YtaonjbojhikndaaDoor
open Go Go.W
set_option maxRecDepth 100000

theorem cut_sm {s : B} (h : sm s = true) : sm (cutM s).1 = true ∧ sm (cutM s).2.1 = true := by
  have hs := sm_le h
  rcases index_cases s 47 with h1 | ⟨m, h1⟩
  · rw [cut_none h1]
    exact ⟨h, Nat.ble_eq_true_of_le (by simp)⟩
  · rw [cut_some h1]
    exact ⟨Nat.ble_eq_true_of_le (by simp; omega), Nat.ble_eq_true_of_le (by simp; omega)⟩
theorem ok48 (s : B) (hp : sm s = true) : MeetsK e8 48 (SB sm s48) s := by
  refine MeetsK.mk ?_
  rw [v48]
  obtain ⟨h1, h2⟩ := cut_sm hp
  refine brT hp (brT h1 (brT h2 (br (fun h3 => br (fun h4 => ?_) (fun h4 => ?_)) (fun h3 => ?_))))
  · refine ⟨⟨⟨rfl, rfl, trivial⟩, ?_, trivial⟩, trivial⟩
    show ((cutM s).2.2 && (numM (cutM s).1).2 && (numM (cutM s).2.1).2) = _
    rw [h3, h4]; simp
  · refine ⟨⟨⟨rfl, rfl, trivial⟩, ?_, trivial⟩, trivial⟩
    show ((cutM s).2.2 && (numM (cutM s).1).2 && (numM (cutM s).2.1).2) = _
    rw [h4]; simp
  · refine ⟨⟨⟨rfl, rfl, trivial⟩, ?_, trivial⟩, trivial⟩
    show ((cutM s).2.2 && (numM (cutM s).1).2 && (numM (cutM s).2.1).2) = _
    rw [h3]; simp
theorem k48 : SpecOk Tryd.prog 48 (SB sm s48) := spec_leaf e8_sound (by kernel_rfl) ok48
theorem a48 : RowOK 48 ((SB sm s48).con (MB sm s48)) := Spec.con_ok k48 _ (fun _ => Nat.le_of_ble_eq_true rfl)

/-! ### The reader -/
structure Rd where
  labels : List B
  qs : List Qu
  seen : Bool
def Rd.o (r : Rd) (q : Nat) (cap : Nat) : OK := .rows 3 [[.d (.sl 9 r.labels), .sl q 0 r.qs.length (.least cap), kb r.seen]]
def capsM (w : List B) (i : Nat) : List Cp := ((w.drop 3).take i).map fun x => (shareM x).1
def oksM (w : List B) (i : Nat) : Bool := (numM (w.getD 2 [])).2 && ((w.drop 3).take i).all fun x => (shareM x).2
def newQ (w : List B) : Qu := ⟨w.getD 1 [], capsM w (w.length - 3), (numM (w.getD 2 [])).1⟩
/-- A line of words, a reader. -/
structure AQ where
  r : Rd
  w : List B
def AQ.fine (a : AQ) : Bool := small (a.w.length + 1) && small (a.r.labels.length + 3) && small (a.r.qs.length + 1) && a.w.all sm
def S38 : Go.W.Spec regK.T := ⟨AQ, fun a => [.ptr 0 0 0, .d (.sl 9 a.w)], fun a => [a.r.o 1 0, .trows 46 a.r.qs], AQ.fine,
  fun a => .br (decide ((a.r.qs.length : Int) ≥ 16)) (.ret (ki 4, [some (a.r.o 1 0), some (.trows 46 a.r.qs)]))
    (.br (decide (a.w.length = 3 + a.r.labels.length) && oksM a.w (a.w.length - 3))
      (.ret (ki 0, [some (({ a.r with qs := a.r.qs ++ [newQ a.w] } : Rd).o 2 0), none, some (.trows 46 (a.r.qs ++ [newQ a.w]))]))
      (.ret (ki 6, [some (a.r.o 1 0), some (.trows 46 a.r.qs)])))⟩
def L38 (a : AQ) (_ : Unit) (k : Nat) (_ : St regK.T) : Option (LoopI regK.T Unit) := match Nat.beq k 8 with
  | true => some ⟨{ i : Nat // i ≤ a.w.length - 3 }, fun i => ⟨[(0, .ptr 0 0 0), (6, kb (oksM a.w i.1)), (7, .ptr 2 0 0), (42, .d (.sl 9 (a.w.drop 3))), (43, ki (a.w.length - 3 : Nat)), (44, ki (i.1 : Nat))],
      [(0, a.r.o 1 0), (1, .trows 46 a.r.qs), (2, .rows 3 [[ks (a.w.getD 1 []), .sl 3 0 (capsM a.w i.1).length (.least 0), ki (numM (a.w.getD 2 [])).1]]), (3, .trows 48 (capsM a.w i.1))], 4⟩, fun i => a.w.length - 3 - i.1, fun _ => ()⟩
  | false => none
def A38 (k : Nat) : List Tgt := (lookN [(6, [.ncell 2 0 1 48]), (14, [.fcell 2 0 1])] k).getD []
def K9 : Con regK.T := fun f => lookN [(47, (SB sm s47).con (MB sm s47)), (48, (SB sm s48).con (MB sm s48))] f
theorem K9_ok : ConOk Tryd.prog K9 := con_cons a47 (con_cons a48 con_nil)
noncomputable def e9 : Hd regK.T := hdT regK Tryd.prog K9 (fun _ => false) 1000 5
theorem e9_sound : HdSound Tryd.prog e9 := hdT_sound mixed hno K9_ok _ _ _
end Go.Proofs.YtaonjbojhikndaaDoor

namespace Go.Proofs.YtaonjbojhikndaaDoor
open Go Go.W Go.Proofs
set_option maxRecDepth 100000
theorem v38 (a : AQ) : (OwesDN e9 (38 : Nat) S38 A38 (L38 a) noJ () a) = ( branch (decide ((↑a.r.qs.length : Int) ≥ (16 : Int))) (branch (decide ((↑a.r.qs.length : Int) ≥ (16 : Int))) ((4 : Int) = (4 : Int) ∧ ((d9 a.r.labels = d9 a.r.labels ∧ ((0 : Nat) = (0 : Nat) ∧ a.r.qs.length = a.r.qs.length ∧ Nat.le (0 : Nat) (0 : Nat)) ∧ a.r.seen = a.r.seen ∧ True) ∧ True) ∧ o46 a.r.qs = o46 a.r.qs ∧ True) (branch (decide (a.w.length = (3 : Nat) + a.r.labels.length) && oksM a.w (a.w.length - (3 : Nat))) False ((6 : Int) = (4 : Int) ∧ ((d9 a.r.labels = d9 a.r.labels ∧ ((0 : Nat) = (0 : Nat) ∧ a.r.qs.length = a.r.qs.length ∧ Nat.le (0 : Nat) (0 : Nat)) ∧ a.r.seen = a.r.seen ∧ True) ∧ True) ∧ o46 a.r.qs = o46 a.r.qs ∧ True))) (branch ((↑a.w.length : Int) != IntKind.i64.wrap ((3 : Int) + (↑a.r.labels.length : Int))) (branch (decide ((↑a.r.qs.length : Int) ≥ (16 : Int))) ((4 : Int) = (6 : Int) ∧ ((d9 a.r.labels = d9 a.r.labels ∧ ((0 : Nat) = (0 : Nat) ∧ a.r.qs.length = a.r.qs.length ∧ Nat.le (0 : Nat) (0 : Nat)) ∧ a.r.seen = a.r.seen ∧ True) ∧ True) ∧ o46 a.r.qs = o46 a.r.qs ∧ True) (branch (decide (a.w.length = (3 : Nat) + a.r.labels.length) && oksM a.w (a.w.length - (3 : Nat))) False ((6 : Int) = (6 : Int) ∧ ((d9 a.r.labels = d9 a.r.labels ∧ ((0 : Nat) = (0 : Nat) ∧ a.r.qs.length = a.r.qs.length ∧ Nat.le (0 : Nat) (0 : Nat)) ∧ a.r.seen = a.r.seen ∧ True) ∧ True) ∧ o46 a.r.qs = o46 a.r.qs ∧ True))) (branch (decide ((2 : Int) < (↑a.w.length : Int)) && true && true) (branch ((SB sm s47).pre (a.w.getD (2 : Nat) [])) (branch (decide ((1 : Int) < (↑a.w.length : Int)) && true && true) (branch (decide ((3 : Int) ≤ (↑a.w.length : Int)) && decide ((↑a.w.length : Int) ≤ (↑a.w.length : Int)) && true && true) ((∃ (x : { i : Nat // i ≤ a.w.length - (3 : Nat) }), (((0 : Nat) = (0 : Nat) ∧ (0 : Nat) = (0 : Nat)) ∧ oksM a.w x.val = (numM (a.w.getD (2 : Nat) [])).snd ∧ ((0 : Nat) = (0 : Nat) ∧ (0 : Nat) = (0 : Nat)) ∧ d9 (List.drop (3 : Nat) a.w) = d9 (List.drop (3 : Nat) (List.take (↑a.w.length : Int).toNat a.w)) ∧ (↑(a.w.length - (3 : Nat)) : Int) = (↑(List.drop (3 : Nat) (List.take (↑a.w.length : Int).toNat a.w)).length : Int) ∧ (↑x.val : Int) = (0 : Int) ∧ True) ∧ ((d9 a.r.labels = d9 a.r.labels ∧ ((0 : Nat) = (0 : Nat) ∧ a.r.qs.length = a.r.qs.length ∧ Nat.le (0 : Nat) (0 : Nat)) ∧ a.r.seen = a.r.seen ∧ True) ∧ True) ∧ o46 a.r.qs = o46 a.r.qs ∧ ((a.w.getD (1 : Nat) [] = a.w.getD (1 : Nat) [] ∧ ((0 : Nat) = (0 : Nat) ∧ (capsM a.w x.val).length = (0 : Nat) ∧ Nat.le (0 : Nat) (0 : Nat)) ∧ (numM (a.w.getD (2 : Nat) [])).fst = (numM (a.w.getD (2 : Nat) [])).fst ∧ True) ∧ True) ∧ o48 (capsM a.w x.val) = o48 [] ∧ True) ∧ ∀ (x : { i : Nat // i ≤ a.w.length - (3 : Nat) }), branch (decide ((↑x.val : Int) < (↑(a.w.length - (3 : Nat)) : Int))) (branch (decide ((↑x.val : Int) < (↑(List.drop (3 : Nat) a.w).length : Int)) && true && true) (branch ((SB sm s48).pre ((List.drop (3 : Nat) a.w).getD (↑x.val : Int).toNat [])) (branch (oksM a.w x.val) (branch (((0 : Nat) + (capsM a.w
 x.val).length).beq (capsM a.w x.val).length) (branch ((((capsM a.w x.val).length + (1 : Nat)) * (16 : Nat)).ble (140737488355328 : Nat) && ((capsM a.w x.val).length + (1 : Nat)).ble (9223372036854775807 : Nat) && true && true && ((0 : Nat) + (capsM a.w x.val).length).ble (capsM a.w x.val).length) (∃ (x' : { i : Nat // i ≤ a.w.length - (3 : Nat) }), a.w.length - (3 : Nat) - x'.val < a.w.length - (3 : Nat) - x.val ∧ (((0 : Nat) = (0 : Nat) ∧ (0 : Nat) = (0 : Nat)) ∧ oksM a.w x'.val = (shareM ((List.drop (3 : Nat) a.w).getD (↑x.val : Int).toNat [])).snd ∧ ((0 : Nat) = (0 : Nat) ∧ (0 : Nat) = (0 : Nat)) ∧ d9 (List.drop (3 : Nat) a.w) = d9 (List.drop (3 : Nat) a.w) ∧ (↑(a.w.length - (3 : Nat)) : Int) = (↑(a.w.length - (3 : Nat)) : Int) ∧ (↑x'.val : Int) = IntKind.i64.wrap ((↑x.val : Int) + (1 : Int)) ∧ True) ∧ ((d9 a.r.labels = d9 a.r.labels ∧ ((0 : Nat) = (0 : Nat) ∧ a.r.qs.length = a.r.qs.length ∧ Nat.le (0 : Nat) (0 : Nat)) ∧ a.r.seen = a.r.seen ∧ True) ∧ True) ∧ o46 a.r.qs = o46 a.r.qs ∧ ((a.w.getD (1 : Nat) [] = a.w.getD (1 : Nat) [] ∧ ((0 : Nat) = (0 : Nat) ∧ (capsM a.w x'.val).length = (capsM a.w x.val).length + (1 : Nat) ∧ Nat.le (0 : Nat) ((capsM a.w x.val).length + (1 : Nat))) ∧ (numM (a.w.getD (2 : Nat) [])).fst = (numM (a.w.getD (2 : Nat) [])).fst ∧ True) ∧ True) ∧ o48 (capsM a.w x'.val) = o48 (List.take (capsM a.w x.val).length (List.drop (0 : Nat) (capsM a.w x.val)) ++ [(shareM ((List.drop (3 : Nat) a.w).getD (↑x.val : Int).toNat [])).fst]) ∧ True) False) False) (branch (((0 : Nat) + (capsM a.w x.val).length).beq (capsM a.w x.val).length) (branch ((((capsM a.w x.val).length + (1 : Nat)) * (16 : Nat)).ble (140737488355328 : Nat) && ((capsM a.w x.val).length + (1 : Nat)).ble (9223372036854775807 : Nat) && true && true && ((0 : Nat) + (capsM a.w x.val).length).ble (capsM a.w x.val).length) (∃ (x' : { i : Nat // i ≤ a.w.length - (3 : Nat) }), a.w.length - (3 : Nat) - x'.val < a.w.length - (3 : Nat) - x.val ∧ (((0 : Nat) = (0 : Nat) ∧ (0 : Nat) = (0 : Nat)) ∧ oksM a.w x'.val = false ∧ ((0 : Nat) = (0 : Nat) ∧ (0 : Nat) = (0 : Nat)) ∧ d9 (List.drop (3 : Nat) a.w) = d9 (List.drop (3 : Nat) a.w) ∧ (↑(a.w.length - (3 : Nat)) : Int) = (↑(a.w.length - (3 : Nat)) : Int) ∧ (↑x'.val : Int) = IntKind.i64.wrap ((↑x.val : Int) + (1 : Int)) ∧ True) ∧ ((d9 a.r.labels = d9 a.r.labels ∧ ((0 : Nat) = (0 : Nat) ∧ a.r.qs.length = a.r.qs.length ∧ Nat.le (0 : Nat) (0 : Nat)) ∧ a.r.seen = a.r.seen ∧ True) ∧ True) ∧ o46 a.r.qs = o46 a.r.qs ∧ ((a.w.getD (1 : Nat) [] = a.w.getD (1 : Nat) [] ∧ ((0 : Nat) = (0 : Nat) ∧ (capsM a.w x'.val).length = (capsM a.w x.val).length + (1 : Nat) ∧ Nat.le (0 : Nat) ((capsM a.w x.val).length + (1 : Nat))) ∧ (numM (a.w.getD (2 : Nat) [])).fst = (numM (a.w.getD (2 : Nat) [])).fst ∧ True) ∧ True) ∧ o48 (capsM a.w x'.val) = o48 (List.take (capsM a.w x.val).length (List.drop (0 : Nat) (capsM a.w x.val)) ++ [(shareM ((List.drop (3 : Nat) a.w).getD (↑x.val : Int).toNat [])).fst]) ∧ True) False) False)) False) False) (branch (((0 : Nat) +
 (capsM a.w x.val).length).ble (capsM a.w x.val).length && true && true) (branch (!oksM a.w x.val) (branch (decide ((↑a.r.qs.length : Int) ≥ (16 : Int))) ((4 : Int) = (6 : Int) ∧ ((d9 a.r.labels = d9 a.r.labels ∧ ((0 : Nat) = (0 : Nat) ∧ a.r.qs.length = a.r.qs.length ∧ Nat.le (0 : Nat) (0 : Nat)) ∧ a.r.seen = a.r.seen ∧ True) ∧ True) ∧ o46 a.r.qs = o46 a.r.qs ∧ True) (branch (decide (a.w.length = (3 : Nat) + a.r.labels.length) && oksM a.w (a.w.length - (3 : Nat))) False ((6 : Int) = (6 : Int) ∧ ((d9 a.r.labels = d9 a.r.labels ∧ ((0 : Nat) = (0 : Nat) ∧ a.r.qs.length = a.r.qs.length ∧ Nat.le (0 : Nat) (0 : Nat)) ∧ a.r.seen = a.r.seen ∧ True) ∧ True) ∧ o46 a.r.qs = o46 a.r.qs ∧ True))) (branch (((0 : Nat) + a.r.qs.length).beq a.r.qs.length) (branch (((a.r.qs.length + (1 : Nat)) * (48 : Nat)).ble (140737488355328 : Nat) && (a.r.qs.length + (1 : Nat)).ble (9223372036854775807 : Nat) && true && true && ((0 : Nat) + a.r.qs.length).ble a.r.qs.length) (branch (decide ((↑a.r.qs.length : Int) ≥ (16 : Int))) ((4 : Int) = (0 : Int) ∧ ((d9 a.r.labels = d9 a.r.labels ∧ False ∧ a.r.seen = a.r.seen ∧ True) ∧ True) ∧ False) (branch (decide (a.w.length = (3 : Nat) + a.r.labels.length) && oksM a.w (a.w.length - (3 : Nat))) ((0 : Int) = (0 : Int) ∧ ((d9 a.r.labels = d9 a.r.labels ∧ ((0 : Nat) = (0 : Nat) ∧ (a.r.qs ++ [newQ a.w]).length = a.r.qs.length + (1 : Nat) ∧ Nat.le (0 : Nat) (a.r.qs.length + (1 : Nat))) ∧ a.r.seen = a.r.seen ∧ True) ∧ True) ∧ o46 (a.r.qs ++ [newQ a.w]) = o46 (List.take a.r.qs.length (List.drop (0 : Nat) a.r.qs) ++ [Qu.mk (a.w.getD (1 : Nat) []) (List.drop (0 : Nat) (List.take ((0 : Nat) + (capsM a.w x.val).length) (capsM a.w x.val))) (numM (a.w.getD (2 : Nat) [])).fst]) ∧ True) ((6 : Int) = (0 : Int) ∧ ((d9 a.r.labels = d9 a.r.labels ∧ False ∧ a.r.seen = a.r.seen ∧ True) ∧ True) ∧ False))) False) False)) False)) False) False) False) False))) := by kernel_rfl

end Go.Proofs.YtaonjbojhikndaaDoor

namespace Go.Proofs.YtaonjbojhikndaaDoor
open Go Go.W
set_option maxRecDepth 100000

theorem take_snoc' {α : Type} {l : List α} {i : Nat} (d : α) (h : i < l.length) : l.take (i + 1) = l.take i ++ [l.getD i d] := by
  rw [List.take_succ_eq_append_getElem h]
  simp [List.getD, h]
theorem caps_succ {w : List B} {i : Nat} (h : i < w.length - 3) : capsM w (i + 1) = capsM w i ++ [(shareM ((w.drop 3).getD i [])).1] := by
  unfold capsM
  rw [take_snoc' [] (by simp; omega), List.map_append]
  rfl
theorem oks_succ {w : List B} {i : Nat} (h : i < w.length - 3) : oksM w (i + 1) = (oksM w i && (shareM ((w.drop 3).getD i [])).2) := by
  unfold oksM
  rw [take_snoc' [] (by simp; omega), List.all_append]
  simp only [List.all_cons, List.all_nil, Bool.and_true, Bool.and_assoc]
theorem caps_len (w : List B) (i : Nat) : (capsM w i).length ≤ i := by
  unfold capsM; simp; omega
structure AQ.Fine (a : AQ) : Prop where
  w : a.w.length + 1 ≤ 1000000
  l : a.r.labels.length + 3 ≤ 1000000
  q : a.r.qs.length + 1 ≤ 1000000
  sm : ∀ x ∈ a.w, sm x = true
theorem AQ.fine_is {a : AQ} (h : a.fine = true) : a.Fine := by
  simp only [AQ.fine, Bool.and_eq_true] at h
  exact ⟨small_le h.1.1.1, small_le h.1.1.2, small_le h.1.2, fun x hx => List.all_eq_true.1 h.2 x hx⟩
theorem getD_mem {w : List B} {i : Nat} (h : i < w.length) : w.getD i [] ∈ w := by
  simp [List.getD, h]

theorem ok38 (a : AQ) (hp : S38.pre a = true) : OwesN e9 38 S38 A38 (L38 a) noJ () a := by
  refine OwesN.mk ?_
  rw [v38]
  have hf := AQ.fine_is hp
  have f1 := hf.w
  have f2 := hf.l
  have f3 := hf.q
  have lab : (d9 a.r.labels = d9 a.r.labels ∧ ((0 : Nat) = (0 : Nat) ∧ a.r.qs.length = a.r.qs.length ∧ Nat.le (0 : Nat) (0 : Nat)) ∧ a.r.seen = a.r.seen ∧ True) ∧ True := ⟨⟨rfl, ⟨rfl, rfl, Nat.le_refl _⟩, rfl, trivial⟩, trivial⟩
  have w1 : IntKind.i64.wrap ((3 : Int) + a.r.labels.length) = ((3 + a.r.labels.length : Nat) : Int) := by rw [wrap_id] <;> omega
  rw [w1]
  refine br (fun h => brT h ⟨rfl, lab, rfl, trivial⟩) (fun h16 => br (fun hne => ?_) (fun he => ?_))
  · refine brF h16 (brF ?_ ⟨rfl, lab, rfl, trivial⟩)
    have : ¬ a.w.length = 3 + a.r.labels.length := by
      intro e
      rw [e] at hne
      simp at hne
    rw [dF this]; rfl
  · have he : a.w.length = 3 + a.r.labels.length := by
      have : ((a.w.length : Int) != ((3 + a.r.labels.length : Nat) : Int)) = false := he
      simp at this
      omega
    have hd : (decide (a.w.length = 3 + a.r.labels.length)) = true := dT he
    have hlen : (a.w.drop 3).length = a.w.length - 3 := by simp
    have htk : a.w.take ((a.w.length : Int)).toNat = a.w := List.take_of_length_le (by omega)
    rw [htk]
    have c0 : capsM a.w 0 = [] := rfl
    have o0 : oksM a.w 0 = (numM (a.w.getD 2 [])).2 := by simp [oksM]
    refine brT (by simp; omega) (brT (hf.sm _ (getD_mem (by omega))) (brT (by simp; omega) (brT (by simp; omega) ⟨⟨⟨0, Nat.zero_le _⟩, ⟨⟨rfl, rfl⟩, o0, ⟨rfl, rfl⟩, rfl, by rw [hlen], rfl, trivial⟩, lab, rfl, ⟨⟨rfl, ⟨rfl, rfl, Nat.le_refl _⟩, rfl, trivial⟩, trivial⟩, rfl, trivial⟩, fun x => ?_⟩)))
    have hi := x.2
    have hc := caps_len a.w x.1
    refine br (fun hlt => ?_) (fun hge => ?_)
    · have hlt : x.1 < a.w.length - 3 := by simpa using hlt
      have e1 : ((x.1 : Int)).toNat = x.1 := by simp
      have hsm : sm ((a.w.drop 3).getD x.1 []) = true := hf.sm _ (List.mem_of_mem_drop (getD_mem (by rw [hlen]; exact hlt)))
      have w2 : IntKind.i64.wrap ((x.1 : Int) + 1) = ((x.1 + 1 : Nat) : Int) := by rw [wrap_id] <;> omega
      have hcs := caps_succ hlt
      have hos := oks_succ hlt
      have hcl : (capsM a.w (x.1 + 1)).length = (capsM a.w x.1).length + 1 := by rw [hcs]; simp
      have hct : o48 (capsM a.w (x.1 + 1)) = o48 (List.take (capsM a.w x.1).length (List.drop 0 (capsM a.w x.1)) ++ [(shareM ((a.w.drop 3).getD x.1 [])).1]) := by
        rw [hcs, List.drop_zero, List.take_length]
      rw [e1, w2]
      have hb1 : Nat.beq (0 + (capsM a.w x.1).length) (capsM a.w x.1).length = true := by rw [Nat.zero_add]; exact Nat.beq_refl _
      have hb2 : ((((capsM a.w x.1).length + 1) * 16).ble 140737488355328 && ((capsM a.w x.1).length + 1).ble 9223372036854775807 && true && true && (0 + (capsM a.w x.1).length).ble (capsM a.w x.1).length) = true := by
        simp only [Bool.and_eq_true]
        exact ⟨⟨⟨⟨Nat.ble_eq_true_of_le (by omega), Nat.ble_eq_true_of_le (by omega)⟩, trivial⟩, trivial⟩, Nat.ble_eq_true_of_le (by omega)⟩
      refine brT (by simp; omega) (brT hsm (br (fun ho => brT hb1 (brT hb2 ?_)) (fun ho => brT hb1 (brT hb2 ?_))))
      · refine ⟨⟨x.1 + 1, by omega⟩, ?_, ⟨⟨rfl, rfl⟩, ?_, ⟨rfl, rfl⟩, rfl, rfl, rfl, trivial⟩, lab, rfl, ⟨⟨rfl, ⟨rfl, hcl, Nat.zero_le _⟩, rfl, trivial⟩, trivial⟩, hct, trivial⟩
        · show a.w.length - 3 - (x.1 + 1) < _; omega
        · show oksM a.w (x.1 + 1) = _
          rw [hos, ho]; rfl
      · refine ⟨⟨x.1 + 1, by omega⟩, ?_, ⟨⟨rfl, rfl⟩, ?_, ⟨rfl, rfl⟩, rfl, rfl, rfl, trivial⟩, lab, rfl, ⟨⟨rfl, ⟨rfl, hcl, Nat.zero_le _⟩, rfl, trivial⟩, trivial⟩, hct, trivial⟩
        · show a.w.length - 3 - (x.1 + 1) < _; omega
        · show oksM a.w (x.1 + 1) = _
          rw [hos, ho]; rfl
    · have hge : a.w.length - 3 ≤ x.1 := by simpa using hge
      have hx : x.1 = a.w.length - 3 := by omega
      refine brT (by simp) (br (fun ho => ?_) (fun ho => ?_))
      · have ho : oksM a.w (a.w.length - 3) = false := by rw [← hx]; simpa using ho
        exact brF h16 (brF (by rw [ho, Bool.and_false]) ⟨rfl, lab, rfl, trivial⟩)
      · have ho : oksM a.w (a.w.length - 3) = true := by rw [← hx]; simpa using ho
        have hb1 : Nat.beq (0 + a.r.qs.length) a.r.qs.length = true := by rw [Nat.zero_add]; exact Nat.beq_refl _
        have hb2 : (((a.r.qs.length + 1) * 48).ble 140737488355328 && (a.r.qs.length + 1).ble 9223372036854775807 && true && true && (0 + a.r.qs.length).ble a.r.qs.length) = true := by
          simp only [Bool.and_eq_true]
          exact ⟨⟨⟨⟨Nat.ble_eq_true_of_le (by omega), Nat.ble_eq_true_of_le (by omega)⟩, trivial⟩, trivial⟩, Nat.ble_eq_true_of_le (by omega)⟩
        refine brT hb1 (brT hb2 (brF h16 (brT (by rw [hd, ho]; rfl) ⟨rfl, ⟨⟨rfl, ⟨rfl, by simp, Nat.zero_le _⟩, rfl, trivial⟩, trivial⟩, ?_, trivial⟩)))
        rw [List.drop_zero, List.take_length, Nat.zero_add, List.take_length, List.drop_zero, hx]
        rfl
theorem k38 : SpecOk Tryd.prog 38 S38 := spec_loopN e9_sound (by kernel_rfl) (fun _ => A38) L38 (fun _ => noJ) (fun _ => ()) ok38
end Go.Proofs.YtaonjbojhikndaaDoor
