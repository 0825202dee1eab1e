/- The contracts of the functions that the statements of local reach, and that each statement's function answers true, for every ask and node. No conditions. -/
import Derived.Test.YtaencddffbmdeaaLocV
import Derived.IntWalk
namespace Go.Proofs.Ytaencddffbmdeaa
open Go Go.Vs Go.Proofs

theorem mixed : Try.prog.follows .mixedOrders = true := by kernel_rfl

theorem asAsk_eq {x : W} {a : Ask} (h : asAsk x = some a) : x = a.v := by
  unfold asAsk at h
  split at h
  · cases h; rfl
  · cases h
theorem asNode_eq {x : W} {a : Node} (h : asNode x = some a) : x = a.v := by
  unfold asNode at h
  split at h
  · cases h; rfl
  · cases h

theorem c19 : CSound reg0 Try.prog 19 withinC := by
  refine pure_sound (C := cs []) mixed (AllC.look trivial) Try.func19 (by kernel_rfl) (by kernel_rfl) fun args p v hS hp => ?_
  unfold withinC at hS
  split at hS
  · rename_i a n
    cases hS
    rw [vc19]
    obtain ⟨h1, h2⟩ := hp
    refine ⟨by omega, ?_⟩
    rw [branch_iff]
    simp only [decide_eq_true_eq, decide_eq_false_iff_not]
    have hm := Int.emod_add_mul_ediv a n
    have h3 := Int.emod_nonneg a (show n ≠ 0 by omega)
    have h4 := Int.emod_lt_of_pos a h1
    have h5 : a.tmod n = a % n ∨ a.tmod n = a % n - n := by
      rcases Int.le_total 0 a with h | h
      · exact .inl (Int.tmod_eq_emod_of_nonneg h)
      · rw [Int.tmod_eq_emod]
        split
        · exact .inl (by omega)
        · refine .inr ?_
          have : (n.natAbs : Int) = n := by omega
          omega
    refine ⟨fun h => ?_, fun h => ?_⟩
    · have e : IntKind.i64.wrap (a.tmod n + n) = a % n := by rw [IntWalk.i64_in _ (by omega)]; omega
      rw [e]
    · have e : a.tmod n = a % n := by omega
      rw [e]
  · cases hS

theorem level_law (a : Ask) (n : Node) (Q : W → Prop) (h : Q (.d (.int .i64 (level a n)))) :
    branch (!n.up) (Q (V.d (D.int IntKind.i64 (4 : Int))))
  (branch (n.label != a.label) (Q (V.d (D.int IntKind.i64 (4 : Int))))
    (branch (a.rack == (-1 : Int)) (Q (V.d (D.int IntKind.i64 (1 : Int))))
      (branch (a.node == n.id) (Q (V.d (D.int IntKind.i64 (1 : Int))))
        (branch (a.node == (-1 : Int))
          (branch (a.rack == n.rack) (Q (V.d (D.int IntKind.i64 (1 : Int))))
            (branch (a.rack == n.rack) (Q (V.d (D.int IntKind.i64 (2 : Int)))) (Q (V.d (D.int IntKind.i64 (3 : Int))))))
          (branch (a.rack == n.rack) (Q (V.d (D.int IntKind.i64 (2 : Int))))
            (Q (V.d (D.int IntKind.i64 (3 : Int))))))))) := by
  simp only [branch_iff, Bool.not_eq_true', bne_iff_ne, beq_iff_eq, ne_eq, bne_eq_false_iff_eq, beq_eq_false_iff_ne, Bool.not_eq_false']
  unfold level at h
  refine ⟨fun hu => ?_, fun hu => ⟨fun h1 => ?_, fun h1 => ⟨fun h2 => ?_, fun h2 => ⟨fun h3 => ?_, fun h3 => ⟨fun h4 => ⟨fun h5 => ?_, fun h5 => ⟨fun h6 => ?_, fun _ => ?_⟩⟩, fun h4 => ⟨fun h5 => ?_, fun h5 => ?_⟩⟩⟩⟩⟩⟩
  · rw [if_pos (.inl hu)] at h; exact h
  · rw [if_pos (.inr h1)] at h; exact h
  all_goals rw [if_neg (by simp [hu, h1])] at h
  · rw [if_pos (.inl h2)] at h; exact h
  · rw [if_pos (.inr (.inl h3))] at h; exact h
  · rw [if_pos (.inr (.inr ⟨h4, h5⟩))] at h; exact h
  · exact (h5 h6).elim
  · rw [if_neg (by simp [h2, h3, h5]), if_neg h5] at h; exact h
  · rw [if_neg (by simp [h2, h3, h4]), if_pos h5] at h; exact h
  · rw [if_neg (by simp [h2, h3, h4]), if_neg h5] at h; exact h

theorem levelC_in {args : List W} {p : Prop} {v : W} (h : levelC args = some (p, v)) : ∃ a n, args = [Ask.v a, Node.v n] ∧ v = .d (.int .i64 (level a n)) := by
  unfold levelC at h
  split at h
  · split at h
    · rename_i x y _ _ a n ha hn
      cases h
      exact ⟨a, n, by rw [asAsk_eq ha, asNode_eq hn], rfl⟩
    · cases h
  · cases h

theorem mayC_in {args : List W} {p : Prop} {v : W} (h : mayC args = some (p, v)) : ∃ a n, args = [Ask.v a, Node.v n] ∧ v = .d (.bool (may a n)) := by
  unfold mayC at h
  split at h
  · split at h
    · rename_i x y _ _ a n ha hn
      cases h
      exact ⟨a, n, by rw [asAsk_eq ha, asNode_eq hn], rfl⟩
    · cases h
  · cases h

theorem c14 : CSound reg0 Try.prog 14 levelC := by
  refine pure_sound (C := cs []) mixed (AllC.look trivial) Try.func14 (by kernel_rfl) (by kernel_rfl) fun args p v hS hp => ?_
  obtain ⟨a, n, rfl, rfl⟩ := levelC_in hS
  rw [vc14]
  exact level_law a n (fun r => r = _) rfl

theorem c15 : CSound reg0 Try.prog 15 levelC := by
  refine pure_sound (C := cs []) mixed (AllC.look trivial) Try.func15 (by kernel_rfl) (by kernel_rfl) fun args p v hS hp => ?_
  obtain ⟨a, n, rfl, rfl⟩ := levelC_in hS
  rw [vc15]
  exact level_law a n (fun r => r = _) rfl

theorem may_law (a : Ask) (n : Node) (Q : W → Prop) (h : Q (.d (.bool (may a n)))) :
    True ∧
  branch (level a n == (1 : Int)) (Q (V.d (D.bool true)))
    (branch (level a n == (2 : Int)) (Q (V.d (D.bool (decide (a.missed ≥ (2 : Int))))))
      (branch (level a n == (3 : Int)) (Q (V.d (D.bool (decide (a.missed ≥ (4 : Int))))))
        (Q (V.d (D.bool false))))) := by
  unfold may at h
  simp only [branch_iff]
  refine ⟨trivial, ?_⟩
  by_cases h1 : level a n = 1 <;> by_cases h2 : level a n = 2 <;> by_cases h3 : level a n = 3 <;> simp_all

theorem c16 : CSound reg0 Try.prog 16 mayC := by
  refine pure_sound (C := cs [(14, levelC)]) mixed (AllC.look ⟨c14, trivial⟩) Try.func16 (by kernel_rfl) (by kernel_rfl) fun args p v hS hp => ?_
  obtain ⟨a, n, rfl, rfl⟩ := mayC_in hS
  rw [vc16]
  exact may_law a n (fun r => r = _) rfl

theorem c17 : CSound reg0 Try.prog 17 mayC := by
  refine pure_sound (C := cs [(15, levelC)]) mixed (AllC.look ⟨c15, trivial⟩) Try.func17 (by kernel_rfl) (by kernel_rfl) fun args p v hS hp => ?_
  obtain ⟨a, n, rfl, rfl⟩ := mayC_in hS
  rw [vc17]
  exact may_law a n (fun r => r = _) rfl

theorem c18 : CSound reg0 Try.prog 18 nearC := by
  refine pure_sound (C := cs [(19, withinC)]) mixed (AllC.look ⟨c19, trivial⟩) Try.func18 (by kernel_rfl) (by kernel_rfl) fun args p v hS hp => ?_
  unfold nearC at hS
  split at hS
  · split at hS
    · rename_i x y _ _ a n ha hn
      cases hS
      rw [asAsk_eq ha, asNode_eq hn, vc18]
      refine ⟨by omega, by omega, by omega, by omega, by omega, by omega, by omega, ?_⟩
      have e1 : IntKind.i64.wrap (a.node % 4 - 1) = a.node % 4 - 1 := IntWalk.i64_in _ (by omega)
      have e2 : IntKind.i64.wrap (a.rack % 4 - 1) = a.rack % 4 - 1 := IntWalk.i64_in _ (by omega)
      rw [e1, e2]
      rfl
    · cases hS
  · cases hS

theorem c13 : CSound reg0 Try.prog 13 knownC := by
  refine pure_sound (C := cs [(14, levelC), (16, mayC)]) mixed (AllC.look ⟨c14, c16, trivial⟩) Try.func13 (by kernel_rfl) (by kernel_rfl) fun args p v hS hp => ?_
  unfold knownC at hS
  split at hS
  · cases hS
    rw [vc13]
    exact ⟨trivial, trivial, trivial, rfl⟩
  · cases hS

theorem csL : AllC reg0 Try.prog lsL := ⟨c14, c15, c16, c17, c13, c18, c19, trivial⟩

/-! ### The statements -/
def lawC2 : PureC reg0.T
  | [x, y] => (match asAsk x, asNode y with | some _, some _ => some (True, .d (.bool true)) | _, _ => none)
  | _ => none
def lawC5 : PureC reg0.T
  | [x, y, .d (.int .i64 _)] => (match asAsk x, asNode y with | some _, some _ => some (True, .d (.bool true)) | _, _ => none)
  | _ => none
def lawC6 : PureC reg0.T
  | [x, y, z] => (match asAsk x, asNode y, asNode z with | some _, some _, some _ => some (True, .d (.bool true)) | _, _, _ => none)
  | _ => none
def lawC7 : PureC reg0.T
  | [x, y, z, u] => (match asAsk x, asNode y, asAsk z, asNode u with | some _, some _, some _, some _ => some (True, .d (.bool true)) | _, _, _, _ => none)
  | _ => none

theorem c3 : CSound reg0 Try.prog 3 lawC2 := by
  refine pure_sound (C := cs lsL) mixed (AllC.look csL) Try.func3 (by kernel_rfl) (by kernel_rfl) fun args p v hS hp => ?_
  unfold lawC2 at hS
  split at hS
  · split at hS
    · rename_i x y _ _ a n ha hn
      cases hS
      rw [asAsk_eq ha, asNode_eq hn, vc3]
      simp [branch_iff]
    · cases hS
  · cases hS

theorem level_cases (a : Ask) (n : Node) : 1 ≤ level a n ∧ level a n ≤ 4 := by
  unfold level
  split
  · omega
  · split
    · omega
    · split <;> omega

theorem c6 : CSound reg0 Try.prog 6 lawC6 := by
  refine pure_sound (C := cs lsL) mixed (AllC.look csL) Try.func6 (by kernel_rfl) (by kernel_rfl) fun args p v hS hp => ?_
  unfold lawC6 at hS
  split at hS
  · split at hS
    · rename_i x y z _ _ _ a n m ha hn hm
      cases hS
      rw [asAsk_eq ha, asNode_eq hn, asNode_eq hm, vc6]
      have h1 := level_cases (nearA a) (nearN n)
      have h2 := level_cases (nearA a) (nearN m)
      simp only [branch_iff, true_and, decide_eq_true_eq, decide_eq_false_iff_not]
      refine ⟨fun _ => ⟨fun _ => ⟨fun _ => trivial, fun h3 => ⟨fun _ => trivial, fun h4 => ?_⟩⟩, fun h => by omega⟩, fun h => by omega⟩
      have h4 : may (nearA a) (nearN m) = true := by simpa using h4
      have : may (nearA a) (nearN n) = true := by
        unfold may at h4 ⊢
        split at h4
        · rw [if_pos (by omega)]
        · split at h4
          · split
            · rfl
            · rw [if_pos (by omega)]; exact h4
          · split at h4
            · have h5 : (nearA a).missed ≥ 4 := by simpa using h4
              split
              · rfl
              · split
                · simp; omega
                · rw [if_pos (by omega)]; exact h4
            · cases h4
      rw [this]
    · cases hS
  · cases hS

theorem level_same (a b : Ask) (n m : Node) (h1 : a.label = b.label) (h2 : a.node = b.node) (h3 : a.rack = b.rack) (h4 : n.up = m.up) (h5 : n.label = m.label) (h6 : n.id = m.id) (h7 : n.rack = m.rack) : level a n = level b m := by
  unfold level
  rw [h1, h2, h3, h4, h5, h6, h7]

theorem c7 : CSound reg0 Try.prog 7 lawC7 := by
  refine pure_sound (C := cs lsL) mixed (AllC.look csL) Try.func7 (by kernel_rfl) (by kernel_rfl) fun args p v hS hp => ?_
  unfold lawC7 at hS
  split at hS
  · split at hS
    · rename_i x y z u _ _ _ _ a n b m ha hn hb hm
      cases hS
      rw [asAsk_eq ha, asNode_eq hn, asAsk_eq hb, asNode_eq hm, vc7]
      have h : ∀ (b' : Ask) (m' : Node), b'.label = (nearA a).label → b'.node = (nearA a).node → b'.rack = (nearA a).rack → b'.missed = (nearA a).missed → m'.up = (nearN n).up → m'.label = (nearN n).label → m'.id = (nearN n).id → m'.rack = (nearN n).rack →
          level (nearA a) (nearN n) = level b' m' ∧ may (nearA a) (nearN n) = may b' m' := by
        intro b' m' h1 h2 h3 h4 h5 h6 h7 h8
        have e := level_same (nearA a) b' (nearN n) m' h1.symm h2.symm h3.symm h5.symm h6.symm h7.symm h8.symm
        exact ⟨e, by unfold may; rw [← e, h4]⟩
      have e := h { prio := b.prio, label := (nearA a).label, mem := b.mem, cores := b.cores, count := b.count, node := (nearA a).node, rack := (nearA a).rack, missed := (nearA a).missed }
        { id := (nearN n).id, label := (nearN n).label, rack := (nearN n).rack, mem := m.mem, cores := m.cores, seen := m.seen, beat := m.beat, up := (nearN n).up } rfl rfl rfl rfl rfl rfl rfl rfl
      rw [← e.1, ← e.2]
      simp [branch_iff]
    · cases hS
  · cases hS

theorem c5 : CSound reg0 Try.prog 5 lawC5 := by
  refine pure_sound (C := cs lsL) mixed (AllC.look csL) Try.func5 (by kernel_rfl) (by kernel_rfl) fun args p v hS hp => ?_
  unfold lawC5 at hS
  split at hS
  · split at hS
    · rename_i x y k _ _ a n ha hn
      cases hS
      rw [asAsk_eq ha, asNode_eq hn, vc5]
      have h1 : 0 ≤ (nearN n).id ∧ (nearN n).id ≤ 2 := by simp only [nearN]; omega
      have h2 : 0 ≤ (nearN n).rack ∧ (nearN n).rack ≤ 2 := by simp only [nearN]; omega
      rw [IntWalk.i64_in ((nearN n).id + 1) (by omega), IntWalk.i64_in ((nearN n).rack + 1) (by omega)]
      simp only [branch_iff]
      have e1 : ¬ (nearN n).rack = -1 := by omega
      have e2 : ¬ (nearN n).id + 1 = -1 := by omega
      have e3 : ¬ (nearN n).rack + 1 = -1 := by omega
      have e4 : ¬ (nearN n).id + 1 = (nearN n).id := by omega
      have e5 : ¬ (nearN n).rack + 1 = (nearN n).rack := by omega
      simp [level, may, e1, e2, e3, e4, e5]
    · cases hS
  · cases hS

theorem may_iff (a : Ask) (n : Node) (h : a.missed ≥ 4) : may a n = (level a n != 4) := by
  have := level_cases a n
  unfold may
  split
  · rename_i e; rw [e]; rfl
  · split
    · rename_i e; rw [e]; simp; omega
    · split
      · rename_i e; rw [e]; simp; omega
      · have e : level a n = 4 := by omega
        rw [e]; rfl

theorem level_far (a : Ask) (n : Node) : (level a n != 4) = (n.up && (n.label == a.label)) := by
  unfold level
  cases hu : n.up <;> simp
  by_cases h : n.label = a.label <;> simp [h]
  split
  · simp
  · split <;> simp

theorem may_more (a : Ask) (n : Node) (m : Int) (hm : a.missed ≤ m) (h : may a n = true) : may { a with missed := m } n = true := by
  have e : level { a with missed := m } n = level a n := rfl
  unfold may at h ⊢
  rw [e]
  by_cases h1 : level a n = 1
  · rw [if_pos h1]
  · rw [if_neg h1] at h ⊢
    by_cases h2 : level a n = 2
    · rw [if_pos h2] at h ⊢
      have : a.missed ≥ 2 := by simpa using h
      exact decide_eq_true (by show m ≥ 2; omega)
    · rw [if_neg h2] at h ⊢
      by_cases h3 : level a n = 3
      · rw [if_pos h3] at h ⊢
        have : a.missed ≥ 4 := by simpa using h
        exact decide_eq_true (by show m ≥ 4; omega)
      · rw [if_neg h3] at h; cases h

theorem c4 : CSound reg0 Try.prog 4 lawC2 := by
  refine pure_sound (C := cs lsL) mixed (AllC.look csL) Try.func4 (by kernel_rfl) (by kernel_rfl) fun args p v hS hp => ?_
  unfold lawC2 at hS
  split at hS
  · split at hS
    · rename_i x y _ _ a n ha hn
      cases hS
      rw [asAsk_eq ha, asNode_eq hn]
      refine awpFunI_enough (L := inv4 a n) ?_
      rw [vc4]
      have e0 : askM a 0 = nearA a := by simp [askM]
      rw [e0]
      refine ⟨trivial, trivial, trivial, rfl, rfl, rfl, rfl, rfl, rfl, rfl, rfl, rfl, rfl, fun _ => trivial, fun x γ => ?_⟩
      obtain ⟨i, hi⟩ := x
      simp only [branch_iff, true_and, decide_eq_true_eq, decide_eq_false_iff_not]
      have hm : (askM a i).missed = a.missed % 7 + i := rfl
      have hw : IntKind.i64.wrap ((askM a i).missed + 1) = (askM a (i + 1)).missed := by
        rw [hm, IntWalk.i64_in _ (by omega)]
        simp only [askM, nearA]
        omega
      have e1 : ({ prio := (askM a i).prio, label := (askM a i).label, mem := (askM a i).mem, cores := (askM a i).cores, count := (askM a i).count, node := (askM a i).node, rack := (askM a i).rack, missed := IntKind.i64.wrap ((askM a i).missed + 1) } : Ask) = askM a (i + 1) := by
        rw [hw]; rfl
      rw [e1]
      have next : i < 6 → ∃ x' : { i : Nat // i ≤ 6 }, may (askM a (i + 1)) (nearN n) = may (askM a x'.val) (nearN n) ∧ IntKind.i64.wrap ((i : Int) + 1) = (x'.val : Int) ∧ (askM a i).prio = (askM a x'.val).prio ∧ (askM a i).label = (askM a x'.val).label ∧
          (askM a i).mem = (askM a x'.val).mem ∧ (askM a i).cores = (askM a x'.val).cores ∧ (askM a i).count = (askM a x'.val).count ∧ (askM a i).node = (askM a x'.val).node ∧ (askM a i).rack = (askM a x'.val).rack ∧
          IntKind.i64.wrap ((askM a i).missed + 1) = (askM a x'.val).missed ∧ (6 - x'.val).succ.le (6 - i) := by
        intro h6
        refine ⟨⟨i + 1, by omega⟩, rfl, ?_, rfl, rfl, rfl, rfl, rfl, rfl, rfl, hw, ?_⟩
        · rw [IntWalk.i64_in _ (by omega)]; simp
        · show 6 - (i + 1) + 1 ≤ 6 - i
          omega
      refine ⟨fun h6 => ⟨fun hmay => ⟨fun hno => ?_, fun _ => next (by omega)⟩, fun _ => next (by omega)⟩, fun h6 => ?_⟩
      · have : may (askM a (i + 1)) (nearN n) = true := may_more (askM a i) (nearN n) (askM a (i + 1)).missed (by simp only [askM]; omega) hmay
        rw [this] at hno
        cases hno
      · have hi6 : i = 6 := by omega
        subst hi6
        have h1 := may_iff (askM a 6) (nearN n) (by rw [hm]; omega)
        have h2 := level_far (askM a 6) (nearN n)
        rw [h1, h2]
        cases hu : (nearN n).up <;> simp
    · cases hS
  · cases hS
end Go.Proofs.Ytaencddffbmdeaa
