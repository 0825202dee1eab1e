/- The verification conditions of the functions that the statements of local reach, as the kernel reckons them. No conditions. -/
import Derived.Test.YtaencddffbmdeaaLoc
namespace Go.Proofs.Ytaencddffbmdeaa
open Go Go.Vs Go.Proofs
set_option maxRecDepth 100000
set_option linter.unusedVariables false
theorem vc19 (a : Int) (n : Int) (Q : W →
  Prop) : awpFun Try.prog (cs []) Try.f19 [V.d (D.int IntKind.i64 a), V.d (D.int IntKind.i64 n)] Q = (
  n ≠ (0 : Int) ∧
  branch (decide (a.tmod n < (0 : Int))) (Q (V.d (D.int IntKind.i64 (IntKind.i64.wrap (a.tmod n + n)))))
    (Q (V.d (D.int IntKind.i64 (a.tmod n))))) := by kernel_rfl
theorem vc14 (a : Ask) (n : Node) (Q : W → Prop) : awpFun Try.prog (cs []) Try.f14 [a.v, n.v] Q = (
  branch (!n.up) (Q (V.d (D.int IntKind.i64 (4 : Int))))
  (branch (n.label != a.label) (Q (V.d (D.int IntKind.i64 (4 : Int))))
    (branch (a.rack == (-1 : Int)) (Q (V.d (D.int IntKind.i64 (1 : Int))))
      (branch (a.node == n.id) (Q (V.d (D.int IntKind.i64 (1 : Int))))
        (branch (a.node == (-1 : Int))
          (branch (a.rack == n.rack) (Q (V.d (D.int IntKind.i64 (1 : Int))))
            (branch (a.rack == n.rack) (Q (V.d (D.int IntKind.i64 (2 : Int)))) (Q (V.d (D.int IntKind.i64 (3 : Int))))))
          (branch (a.rack == n.rack) (Q (V.d (D.int IntKind.i64 (2 : Int))))
            (Q (V.d (D.int IntKind.i64 (3 : Int)))))))))) := by kernel_rfl
theorem vc15 (a : Ask) (n : Node) (Q : W → Prop) : awpFun Try.prog (cs []) Try.f15 [a.v, n.v] Q = (
  branch (!n.up) (Q (V.d (D.int IntKind.i64 (4 : Int))))
  (branch (n.label != a.label) (Q (V.d (D.int IntKind.i64 (4 : Int))))
    (branch (a.rack == (-1 : Int)) (Q (V.d (D.int IntKind.i64 (1 : Int))))
      (branch (a.node == n.id) (Q (V.d (D.int IntKind.i64 (1 : Int))))
        (branch (a.node == (-1 : Int))
          (branch (a.rack == n.rack) (Q (V.d (D.int IntKind.i64 (1 : Int))))
            (branch (a.rack == n.rack) (Q (V.d (D.int IntKind.i64 (2 : Int)))) (Q (V.d (D.int IntKind.i64 (3 : Int))))))
          (branch (a.rack == n.rack) (Q (V.d (D.int IntKind.i64 (2 : Int))))
            (Q (V.d (D.int IntKind.i64 (3 : Int)))))))))) := by kernel_rfl
theorem vc16 (a : Ask) (n : Node) (Q : W → Prop) : awpFun Try.prog (cs [((14 : Nat), levelC)]) Try.f16 [a.v, n.v] Q = (
  True ∧
  branch (level a n == (1 : Int)) (Q (V.d (D.bool true)))
    (branch (level a n == (2 : Int)) (Q (V.d (D.bool (decide (a.missed ≥ (2 : Int))))))
      (branch (level a n == (3 : Int)) (Q (V.d (D.bool (decide (a.missed ≥ (4 : Int))))))
        (Q (V.d (D.bool false)))))) := by kernel_rfl
theorem vc17 (a : Ask) (n : Node) (Q : W → Prop) : awpFun Try.prog (cs [((15 : Nat), levelC)]) Try.f17 [a.v, n.v] Q = (
  True ∧
  branch (level a n == (1 : Int)) (Q (V.d (D.bool true)))
    (branch (level a n == (2 : Int)) (Q (V.d (D.bool (decide (a.missed ≥ (2 : Int))))))
      (branch (level a n == (3 : Int)) (Q (V.d (D.bool (decide (a.missed ≥ (4 : Int))))))
        (Q (V.d (D.bool false)))))) := by kernel_rfl
theorem vc18 (a : Ask) (n : Node) (Q : W → Prop) : awpFun Try.prog (cs [((19 : Nat), withinC)]) Try.f18 [a.v, n.v] Q = (
  ((0 : Int) < (2 : Int) ∧ (2 : Int) ≤ (1000000 : Int)) ∧
  ((0 : Int) < (4 : Int) ∧ (4 : Int) ≤ (1000000 : Int)) ∧
    ((0 : Int) < (4 : Int) ∧ (4 : Int) ≤ (1000000 : Int)) ∧
      ((0 : Int) < (7 : Int) ∧ (7 : Int) ≤ (1000000 : Int)) ∧
        ((0 : Int) < (2 : Int) ∧ (2 : Int) ≤ (1000000 : Int)) ∧
          ((0 : Int) < (3 : Int) ∧ (3 : Int) ≤ (1000000 : Int)) ∧
            ((0 : Int) < (3 : Int) ∧ (3 : Int) ≤ (1000000 : Int)) ∧
              Q
                (V.tup
                  [V.agg
                      [V.d (D.int IntKind.i64 a.prio), V.d (D.int IntKind.i64 (a.label % (2 : Int))),
                        V.d (D.int IntKind.i64 a.mem), V.d (D.int IntKind.i64 a.cores), V.d (D.int IntKind.i64 a.count),
                        V.d (D.int IntKind.i64 (IntKind.i64.wrap (a.node % (4 : Int) - (1 : Int)))),
                        V.d (D.int IntKind.i64 (IntKind.i64.wrap (a.rack % (4 : Int) - (1 : Int)))),
                        V.d (D.int IntKind.i64 (a.missed % (7 : Int)))],
                    V.agg
                      [V.d (D.int IntKind.i64 (n.id % (3 : Int))), V.d (D.int IntKind.i64 (n.label % (2 : Int))),
                        V.d (D.int IntKind.i64 (n.rack % (3 : Int))), V.d (D.int IntKind.i64 n.mem),
                        V.d (D.int IntKind.i64 n.cores), V.d (D.int IntKind.i64 n.seen), V.d (D.int IntKind.i64 n.beat),
                        V.d (D.bool n.up)]])) := by kernel_rfl
theorem vc13 (Q : W → Prop) : awpFun Try.prog (cs [((14 : Nat), levelC), ((16 : Nat), mayC)]) Try.f13 [] Q = (
  True ∧ True ∧ True ∧ Q (V.d (D.bool true))) := by kernel_rfl
theorem vc3 (a : Ask) (n : Node) (Q : W → Prop) : awpFun Try.prog (cs lsL) Try.f3 [a.v, n.v] Q = (
  True ∧
  True ∧
    True ∧
      branch (level a n != level a n) (Q (V.d (D.bool false)))
        (True ∧
          True ∧
            branch (!may a n == may a n) (Q (V.d (D.bool false)))
              (True ∧
                True ∧
                  True ∧
                    branch (level (nearA a) (nearN n) == level (nearA a) (nearN n))
                      (True ∧ True ∧ Q (V.d (D.bool (may (nearA a) (nearN n) == may (nearA a) (nearN n)))))
                      (Q (V.d (D.bool false)))))) := by kernel_rfl
theorem vc4 (a : Ask) (n : Node) (Q : W → Prop) : awpFunI Try.prog (cs lsL) (inv4 a n) Try.f4 [a.v, n.v] Q = (
  True ∧
  True ∧
    True ∧
      may (nearA a) (nearN n) = may (askM a (0 : Nat)) (nearN n) ∧
        (0 : Int) = ↑(0 : Nat) ∧
          (nearA a).prio = (askM a (0 : Nat)).prio ∧
            (nearA a).label = (askM a (0 : Nat)).label ∧
              (nearA a).mem = (askM a (0 : Nat)).mem ∧
                (nearA a).cores = (askM a (0 : Nat)).cores ∧
                  (nearA a).count = (askM a (0 : Nat)).count ∧
                    (nearA a).node = (askM a (0 : Nat)).node ∧
                      (nearA a).rack = (askM a (0 : Nat)).rack ∧
                        (nearA a).missed = (askM a (0 : Nat)).missed ∧
                          (∀ (x : { i : Nat // i ≤ (6 : Nat) }), True) ∧
                            ∀ (x : { i : Nat // i ≤ (6 : Nat) }) (γ : Nat),
                              branch (decide (↑x.val < (6 : Int)))
                                (branch (may (askM a x.val) (nearN n))
                                  (True ∧
                                    branch
                                      (!may
                                          { prio := (askM a x.val).prio, label := (askM a x.val).label,
                                            mem := (askM a x.val).mem, cores := (askM a x.val).cores,
                                            count := (askM a x.val).count, node := (askM a x.val).node,
                                            rack := (askM a x.val).rack,
                                            missed := IntKind.i64.wrap ((askM a x.val).missed + (1 : Int)) }
                                          (nearN n))
                                      (Q (V.d (D.bool false)))
                                      (True ∧
                                        ∃ (x' : { i : Nat // i ≤ (6 : Nat) }),
                                          may
                                                { prio := (askM a x.val).prio, label := (askM a x.val).label,
                                                  mem := (askM a x.val).mem, cores := (askM a x.val).cores,
                                                  count := (askM a x.val).count, node := (askM a x.val).node,
                                                  rack := (askM a x.val).rack,
                                                  missed := IntKind.i64.wrap ((askM a x.val).missed + (1 : Int)) }
                                                (nearN n) =
                                              may (askM a x'.val) (nearN n) ∧
                                            IntKind.i64.wrap (↑x.val + (1 : Int)) = ↑x'.val ∧
                                              (askM a x.val).prio = (askM a x'.val).prio ∧
                                                (askM a x.val).label = (askM a x'.val).label ∧
                                                  (askM a x.val).mem = (askM a x'.val).mem ∧
                                                    (askM a x.val).cores = (askM a x'.val).cores ∧
                                                      (askM a x.val).count = (askM a x'.val).count ∧
                                                        (askM a x.val).node = (askM a x'.val).node ∧
                                                          (askM a x.val).rack = (askM a x'.val).rack ∧
                                                            IntKind.i64.wrap ((askM a x.val).missed + (1 : Int)) =
                                                                (askM a x'.val).missed ∧
                                                              ((6 : Nat) - x'.val).succ.le ((6 : Nat) - x.val)))
                                  (True ∧
                                    ∃ (x' : { i : Nat // i ≤ (6 : Nat) }),
                                      may
                                            { prio := (askM a x.val).prio, label := (askM a x.val).label,
                                              mem := (askM a x.val).mem, cores := (askM a x.val).cores,
                                              count := (askM a x.val).count, node := (askM a x.val).node,
                                              rack := (askM a x.val).rack,
                                              missed := IntKind.i64.wrap ((askM a x.val).missed + (1 : Int)) }
                                            (nearN n) =
                                          may (askM a x'.val) (nearN n) ∧
                                        IntKind.i64.wrap (↑x.val + (1 : Int)) = ↑x'.val ∧
                                          (askM a x.val).prio = (askM a x'.val).prio ∧
                                            (askM a x.val).label = (askM a x'.val).label ∧
                                              (askM a x.val).mem = (askM a x'.val).mem ∧
                                                (askM a x.val).cores = (askM a x'.val).cores ∧
                                                  (askM a x.val).count = (askM a x'.val).count ∧
                                                    (askM a x.val).node = (askM a x'.val).node ∧
                                                      (askM a x.val).rack = (askM a x'.val).rack ∧
                                                        IntKind.i64.wrap ((askM a x.val).missed + (1 : Int)) =
                                                            (askM a x'.val).missed ∧
                                                          ((6 : Nat) - x'.val).succ.le ((6 : Nat) - x.val)))
                                (branch (nearN n).up
                                  (branch (may (askM a x.val) (nearN n) == ((nearN n).label == (askM a x.val).label))
                                    (True ∧
                                      Q
                                        (V.d
                                          (D.bool
                                            (may (askM a x.val) (nearN n) ==
                                              (level (askM a x.val) (nearN n) != (4 : Int))))))
                                    (Q (V.d (D.bool false))))
                                  (branch (may (askM a x.val) (nearN n) == false)
                                    (True ∧
                                      Q
                                        (V.d
                                          (D.bool
                                            (may (askM a x.val) (nearN n) ==
                                              (level (askM a x.val) (nearN n) != (4 : Int))))))
                                    (Q (V.d (D.bool false)))))) := by kernel_rfl
theorem vc5 (a : Ask) (n : Node) (k : Int) (Q : W →
  Prop) : awpFun Try.prog (cs lsL) Try.f5 [a.v, n.v, V.d (D.int IntKind.i64 k)] Q = (
  True ∧
  True ∧
    ((0 : Int) < (4 : Int) ∧ (4 : Int) ≤ (1000000 : Int)) ∧
      branch (k % (4 : Int) == (0 : Int))
        (True ∧
          branch
            (level
                { prio := (nearA a).prio, label := (nearA a).label, mem := (nearA a).mem, cores := (nearA a).cores,
                  count := (nearA a).count, node := (-1 : Int), rack := (-1 : Int), missed := (0 : Int) }
                { id := (nearN n).id, label := (nearA a).label, rack := (nearN n).rack, mem := (nearN n).mem,
                  cores := (nearN n).cores, seen := (nearN n).seen, beat := (nearN n).beat, up := true } ==
              (1 : Int))
            (True ∧
              Q
                (V.d
                  (D.bool
                    (may
                      { prio := (nearA a).prio, label := (nearA a).label, mem := (nearA a).mem,
                        cores := (nearA a).cores, count := (nearA a).count, node := (-1 : Int), rack := (-1 : Int),
                        missed := (0 : Int) }
                      { id := (nearN n).id, label := (nearA a).label, rack := (nearN n).rack, mem := (nearN n).mem,
                        cores := (nearN n).cores, seen := (nearN n).seen, beat := (nearN n).beat, up := true }))))
            (Q (V.d (D.bool false))))
        (branch (k % (4 : Int) == (1 : Int))
          (True ∧
            branch
              (level
                  { prio := (nearA a).prio, label := (nearA a).label, mem := (nearA a).mem, cores := (nearA a).cores,
                    count := (nearA a).count, node := (-1 : Int), rack := (nearN n).rack, missed := (0 : Int) }
                  { id := (nearN n).id, label := (nearA a).label, rack := (nearN n).rack, mem := (nearN n).mem,
                    cores := (nearN n).cores, seen := (nearN n).seen, beat := (nearN n).beat, up := true } ==
                (1 : Int))
              (True ∧
                Q
                  (V.d
                    (D.bool
                      (may
                        { prio := (nearA a).prio, label := (nearA a).label, mem := (nearA a).mem,
                          cores := (nearA a).cores, count := (nearA a).count, node := (-1 : Int),
                          rack := (nearN n).rack, missed := (0 : Int) }
                        { id := (nearN n).id, label := (nearA a).label, rack := (nearN n).rack, mem := (nearN n).mem,
                          cores := (nearN n).cores, seen := (nearN n).seen, beat := (nearN n).beat, up := true }))))
              (Q (V.d (D.bool false))))
          (branch (k % (4 : Int) == (2 : Int))
            (True ∧
              branch
                (level
                    { prio := (nearA a).prio, label := (nearA a).label, mem := (nearA a).mem, cores := (nearA a).cores,
                      count := (nearA a).count, node := IntKind.i64.wrap ((nearN n).id + (1 : Int)),
                      rack := (nearN n).rack, missed := (0 : Int) }
                    { id := (nearN n).id, label := (nearA a).label, rack := (nearN n).rack, mem := (nearN n).mem,
                      cores := (nearN n).cores, seen := (nearN n).seen, beat := (nearN n).beat, up := true } ==
                  (2 : Int))
                (True ∧
                  Q
                    (V.d
                      (D.bool
                        !may
                            { prio := (nearA a).prio, label := (nearA a).label, mem := (nearA a).mem,
                              cores := (nearA a).cores, count := (nearA a).count,
                              node := IntKind.i64.wrap ((nearN n).id + (1 : Int)), rack := (nearN n).rack,
                              missed := (0 : Int) }
                            { id := (nearN n).id, label := (nearA a).label, rack := (nearN n).rack,
                              mem := (nearN n).mem, cores := (nearN n).cores, seen := (nearN n).seen,
                              beat := (nearN n).beat, up := true })))
                (Q (V.d (D.bool false))))
            (True ∧
              branch
                (level
                    { prio := (nearA a).prio, label := (nearA a).label, mem := (nearA a).mem, cores := (nearA a).cores,
                      count := (nearA a).count, node := IntKind.i64.wrap ((nearN n).id + (1 : Int)),
                      rack := IntKind.i64.wrap ((nearN n).rack + (1 : Int)), missed := (0 : Int) }
                    { id := (nearN n).id, label := (nearA a).label, rack := (nearN n).rack, mem := (nearN n).mem,
                      cores := (nearN n).cores, seen := (nearN n).seen, beat := (nearN n).beat, up := true } ==
                  (3 : Int))
                (True ∧
                  Q
                    (V.d
                      (D.bool
                        !may
                            { prio := (nearA a).prio, label := (nearA a).label, mem := (nearA a).mem,
                              cores := (nearA a).cores, count := (nearA a).count,
                              node := IntKind.i64.wrap ((nearN n).id + (1 : Int)),
                              rack := IntKind.i64.wrap ((nearN n).rack + (1 : Int)), missed := (0 : Int) }
                            { id := (nearN n).id, label := (nearA a).label, rack := (nearN n).rack,
                              mem := (nearN n).mem, cores := (nearN n).cores, seen := (nearN n).seen,
                              beat := (nearN n).beat, up := true })))
                (Q (V.d (D.bool false))))))) := by kernel_rfl
theorem vc6 (a : Ask) (n : Node) (m : Node) (Q : W → Prop) : awpFun Try.prog (cs lsL) Try.f6 [a.v, n.v, m.v] Q = (
  True ∧
  True ∧
    True ∧
      True ∧
        True ∧
          branch (decide (level (nearA a) (nearN n) ≥ (1 : Int)))
            (branch (decide (level (nearA a) (nearN n) ≤ (4 : Int)))
              (branch (decide (level (nearA a) (nearN n) > level (nearA a) (nearN m))) (Q (V.d (D.bool true)))
                (True ∧
                  branch (!may (nearA a) (nearN m)) (Q (V.d (D.bool true)))
                    (True ∧ Q (V.d (D.bool (may (nearA a) (nearN n)))))))
              (Q (V.d (D.bool false))))
            (Q (V.d (D.bool false)))) := by kernel_rfl
theorem vc7 (a : Ask) (n : Node) (b : Ask) (m : Node) (Q : W →
  Prop) : awpFun Try.prog (cs lsL) Try.f7 [a.v, n.v, b.v, m.v] Q = (
  True ∧
  True ∧
    True ∧
      True ∧
        branch
          (level (nearA a) (nearN n) ==
            level
              { prio := b.prio, label := (nearA a).label, mem := b.mem, cores := b.cores, count := b.count,
                node := (nearA a).node, rack := (nearA a).rack, missed := (nearA a).missed }
              { id := (nearN n).id, label := (nearN n).label, rack := (nearN n).rack, mem := m.mem, cores := m.cores,
                seen := m.seen, beat := m.beat, up := (nearN n).up })
          (True ∧
            True ∧
              Q
                (V.d
                  (D.bool
                    (may (nearA a) (nearN n) ==
                      may
                        { prio := b.prio, label := (nearA a).label, mem := b.mem, cores := b.cores, count := b.count,
                          node := (nearA a).node, rack := (nearA a).rack, missed := (nearA a).missed }
                        { id := (nearN n).id, label := (nearN n).label, rack := (nearN n).rack, mem := m.mem,
                          cores := m.cores, seen := m.seen, beat := m.beat, up := (nearN n).up }))))
          (Q (V.d (D.bool false)))) := by kernel_rfl
end Go.Proofs.Ytaencddffbmdeaa
