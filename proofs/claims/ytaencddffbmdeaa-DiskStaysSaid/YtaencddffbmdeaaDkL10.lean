/- What is left to be shown of a statement of disk. No conditions. -/
import Derived.Test.YtaencddffbmdeaaDkL
namespace Go.Proofs.Ytaencddffbmdeaa
open Go Go.W Go.Proofs
set_option maxRecDepth 100000
theorem v10 (a : List
 UInt8) (rows : List
 (List
  UInt8)) (picks : List
 Int) (snap : List
 UInt8) (stop : Int) : (awpFun regK Try.prog hd3 (1000 : Nat) (fun (x : Nat) => []) (L10 a rows picks snap stop) noJ
 none Try.f10
 [V.d (D.sl (5 : Nat) a), V.d (D.sl (43 : Nat) rows), V.d (D.sl (3 : Nat) picks), V.d (D.sl (5 : Nat) snap), vi stop]
 fun (r : V regK.T × Hp regK.T) => yes r.fst) = (
  branch (decide ((↑a.length : Int) > (300 : Int))) (true = true)
 (branch (decide ((↑snap.length : Int) > (300 : Int))) (true = true)
  (branch ((S2 pD s23).pre (DSt.mk (0 : Int) (0 : Int) (0 : Int) false [] (0 : Int) [] (100000 : Int), a))
   (branch (((DSt.mk (0 : Int) (0 : Int) (0 : Int) false [] (0 : Int) [] (100000 : Int)).append a).snd != (0 : Int))
    (false = true)
    (branch
     ((S0 DSt.fine s29).pre ((DSt.mk (0 : Int) (0 : Int) (0 : Int) false [] (0 : Int) [] (100000 : Int)).append a).fst)
     (branch
      (((DSt.mk (0 : Int) (0 : Int) (0 : Int) false [] (0 : Int) [] (100000 : Int)).append a).fst.sync.snd != (0 : Int))
      (false = true)
      ((∃ (x : { x : R8 // P10 a x }),
        (bs a = bs a ∧
          ls rows = ls rows ∧
           is picks = is picks ∧
            bs snap = bs snap ∧
             stop = stop ∧ ((0 : Nat) = (0 : Nat) ∧ (0 : Nat) = (0 : Nat)) ∧ x.val.i = (0 : Int) ∧ True) ∧
         ((x.val.d.left =
             ((DSt.mk (0 : Int) (0 : Int) (0 : Int) false [] (0 : Int) [] (100000 : Int)).append a).fst.sync.fst.left ∧
            x.val.d.odd =
              ((DSt.mk (0 : Int) (0 : Int) (0 : Int) false [] (0 : Int) [] (100000 : Int)).append a).fst.sync.fst.odd ∧
             x.val.d.done =
               ((DSt.mk (0 : Int) (0 : Int) (0 : Int) false [] (0 : Int) [] (100000 : Int)).append
                    a).fst.sync.fst.done ∧
              x.val.d.dead =
                ((DSt.mk (0 : Int) (0 : Int) (0 : Int) false [] (0 : Int) [] (100000 : Int)).append
                     a).fst.sync.fst.dead ∧
               bs x.val.d.log =
                 bs
                  ((DSt.mk (0 : Int) (0 : Int) (0 : Int) false [] (0 : Int) [] (100000 : Int)).append
                       a).fst.sync.fst.log ∧
                x.val.d.synced =
                  ((DSt.mk (0 : Int) (0 : Int) (0 : Int) false [] (0 : Int) [] (100000 : Int)).append
                       a).fst.sync.fst.synced ∧
                 bs x.val.d.snap =
                   bs
                    ((DSt.mk (0 : Int) (0 : Int) (0 : Int) false [] (0 : Int) [] (100000 : Int)).append
                         a).fst.sync.fst.snap ∧
                  x.val.d.room =
                    ((DSt.mk (0 : Int) (0 : Int) (0 : Int) false [] (0 : Int) [] (100000 : Int)).append
                         a).fst.sync.fst.room ∧
                   True) ∧
           True) ∧
          True) ∧
       ∀ (x : { x : R8 // P10 a x }),
        branch (decide (x.val.i < (↑rows.length : Int)))
         (branch (decide (x.val.i < (20 : Int)))
          (branch (decide ((0 : Int) ≤ x.val.i) && decide (x.val.i < (↑rows.length : Int)) && true && true)
           (branch (decide ((↑(List.length (rows.getD x.val.i.toNat [])) : Int) > (300 : Int)))
            (∃ (x' : { x : R8 // P10 a x }),
             ((20 : Int) - x'.val.i).toNat < ((20 : Int) - x.val.i).toNat ∧
              (bs a = bs a ∧
                ls rows = ls rows ∧
                 is picks = is picks ∧
                  bs snap = bs snap ∧
                   stop = stop ∧
                    ((0 : Nat) = (0 : Nat) ∧ (0 : Nat) = (0 : Nat)) ∧
                     x'.val.i = IntKind.i64.wrap (x.val.i + (1 : Int)) ∧ True) ∧
               ((x'.val.d.left = x.val.d.left ∧
                  x'.val.d.odd = x.val.d.odd ∧
                   x'.val.d.done = x.val.d.done ∧
                    x'.val.d.dead = x.val.d.dead ∧
                     bs x'.val.d.log = bs x.val.d.log ∧
                      x'.val.d.synced = x.val.d.synced ∧
                       bs x'.val.d.snap = bs x.val.d.snap ∧ x'.val.d.room = x.val.d.room ∧ True) ∧
                 True) ∧
                True)
            (branch (decide ((0 : Int) ≤ x.val.i) && decide (x.val.i < (↑rows.length : Int)) && true && true)
             (branch ((S2 pD s23).pre (x.val.d, rows.getD x.val.i.toNat []))
              (branch ((x.val.d.append (rows.getD x.val.i.toNat [])).snd != (0 : Int)) (false = true)
               (branch (decide (x.val.i < (↑picks.length : Int)))
                (branch (decide ((0 : Int) ≤ x.val.i) && decide (x.val.i < (↑picks.length : Int)) && true && true)
                 (branch (Int.tmod (picks.getD x.val.i.toNat (0 : Int)) (2 : Int) == (1 : Int))
                  (branch (decide ((0 : Int) ≤ x.val.i) && decide (x.val.i < (↑picks.length : Int)) && true && true)
                   (branch
                    ((S1 DSt.fine s28).pre
                     ((x.val.d.append (rows.getD x.val.i.toNat [])).fst,
                      IntKind.i64.wrap (Int.tdiv (picks.getD x.val.i.toNat (0 : Int)) (2 : Int))))
                    (branch
                     ((S0 DSt.fine s25).pre
                      (DSt.mk
                       ((x.val.d.append (rows.getD x.val.i.toNat [])).fst.crash
                         (IntKind.i64.wrap (Int.tdiv (picks.getD x.val.i.toNat (0 : Int)) (2 : Int)))).left
                       ((x.val.d.append (rows.getD x.val.i.toNat [])).fst.crash
                         (IntKind.i64.wrap (Int.tdiv (picks.getD x.val.i.toNat (0 : Int)) (2 : Int)))).odd
                       ((x.val.d.append (rows.getD x.val.i.toNat [])).fst.crash
                         (IntKind.i64.wrap (Int.tdiv (picks.getD x.val.i.toNat (0 : Int)) (2 : Int)))).done
                       false
                       ((x.val.d.append (rows.getD x.val.i.toNat [])).fst.crash
                         (IntKind.i64.wrap (Int.tdiv (picks.getD x.val.i.toNat (0 : Int)) (2 : Int)))).log
                       ((x.val.d.append (rows.getD x.val.i.toNat [])).fst.crash
                         (IntKind.i64.wrap (Int.tdiv (picks.getD x.val.i.toNat (0 : Int)) (2 : Int)))).synced
                       ((x.val.d.append (rows.getD x.val.i.toNat [])).fst.crash
                         (IntKind.i64.wrap (Int.tdiv (picks.getD x.val.i.toNat (0 : Int)) (2 : Int)))).snap
                       ((x.val.d.append (rows.getD x.val.i.toNat [])).fst.crash
                         (IntKind.i64.wrap (Int.tdiv (picks.getD x.val.i.toNat (0 : Int)) (2 : Int)))).room))
                     (branch
                      (decide
                       ((↑((x.val.d.append (rows.getD x.val.i.toNat [])).fst.crash
                             (IntKind.i64.wrap (Int.tdiv (picks.getD x.val.i.toNat (0 : Int)) (2 : Int)))).log.length :
                         Int) <
                        (↑a.length : Int)))
                      (false = true)
                      (branch
                       (decide
                          ((↑a.length : Int) ≤
                           (↑((x.val.d.append (rows.getD x.val.i.toNat [])).fst.crash
                                (IntKind.i64.wrap
                                 (Int.tdiv (picks.getD x.val.i.toNat (0 : Int)) (2 : Int)))).log.length :
                            Int)) &&
                         true &&
                        true)
                       (branch
                        (!List.drop (0 : Nat)
                           (List.take (↑a.length : Int).toNat
                            ((x.val.d.append (rows.getD x.val.i.toNat [])).fst.crash
                              (IntKind.i64.wrap (Int.tdiv (picks.getD x.val.i.toNat (0 : Int)) (2 : Int)))).log) ==
                          a)
                        (false = true)
                        (∃ (x' : { x : R8 // P10 a x }),
                         ((20 : Int) - x'.val.i).toNat < ((20 : Int) - x.val.i).toNat ∧
                          (bs a = bs a ∧
                            ls rows = ls rows ∧
                             is picks = is picks ∧
                              bs snap = bs snap ∧
                               stop = stop ∧
                                ((0 : Nat) = (0 : Nat) ∧ (0 : Nat) = (0 : Nat)) ∧
                                 x'.val.i = IntKind.i64.wrap (x.val.i + (1 : Int)) ∧ True) ∧
                           ((x'.val.d.left =
                               ((x.val.d.append (rows.getD x.val.i.toNat [])).fst.crash
                                 (IntKind.i64.wrap (Int.tdiv (picks.getD x.val.i.toNat (0 : Int)) (2 : Int)))).left ∧
                              x'.val.d.odd =
                                ((x.val.d.append (rows.getD x.val.i.toNat [])).fst.crash
                                  (IntKind.i64.wrap (Int.tdiv (picks.getD x.val.i.toNat (0 : Int)) (2 : Int)))).odd ∧
                               x'.val.d.done =
                                 ((x.val.d.append (rows.getD x.val.i.toNat [])).fst.crash
                                   (IntKind.i64.wrap (Int.tdiv (picks.getD x.val.i.toNat (0 : Int)) (2 : Int)))).done ∧
                                x'.val.d.dead = false ∧
                                 bs x'.val.d.log =
                                   bs
                                    ((x.val.d.append (rows.getD x.val.i.toNat [])).fst.crash
                                      (IntKind.i64.wrap
                                       (Int.tdiv (picks.getD x.val.i.toNat (0 : Int)) (2 : Int)))).log ∧
                                  x'.val.d.synced =
                                    ((x.val.d.append (rows.getD x.val.i.toNat [])).fst.crash
                                      (IntKind.i64.wrap
                                       (Int.tdiv (picks.getD x.val.i.toNat (0 : Int)) (2 : Int)))).synced ∧
                                   bs x'.val.d.snap =
                                     bs
                                      ((x.val.d.append (rows.getD x.val.i.toNat [])).fst.crash
                                        (IntKind.i64.wrap
                                         (Int.tdiv (picks.getD x.val.i.toNat (0 : Int)) (2 : Int)))).snap ∧
                                    x'.val.d.room =
                                      ((x.val.d.append (rows.getD x.val.i.toNat [])).fst.crash
                                        (IntKind.i64.wrap
                                         (Int.tdiv (picks.getD x.val.i.toNat (0 : Int)) (2 : Int)))).room ∧
                                     True) ∧
                             True) ∧
                            True))
                       False))
                     False)
                    False)
                   False)
                  (branch ((S0 DSt.fine s25).pre (x.val.d.append (rows.getD x.val.i.toNat [])).fst)
                   (branch
                    (decide ((↑(x.val.d.append (rows.getD x.val.i.toNat [])).fst.log.length : Int) < (↑a.length : Int)))
                    (false = true)
                    (branch
                     (decide
                        ((↑a.length : Int) ≤ (↑(x.val.d.append (rows.getD x.val.i.toNat [])).fst.log.length : Int)) &&
                       true &&
                      true)
                     (branch
                      (!List.drop (0 : Nat)
                         (List.take (↑a.length : Int).toNat (x.val.d.append (rows.getD x.val.i.toNat [])).fst.log) ==
                        a)
                      (false = true)
                      (∃ (x' : { x : R8 // P10 a x }),
                       ((20 : Int) - x'.val.i).toNat < ((20 : Int) - x.val.i).toNat ∧
                        (bs a = bs a ∧
                          ls rows = ls rows ∧
                           is picks = is picks ∧
                            bs snap = bs snap ∧
                             stop = stop ∧
                              ((0 : Nat) = (0 : Nat) ∧ (0 : Nat) = (0 : Nat)) ∧
                               x'.val.i = IntKind.i64.wrap (x.val.i + (1 : Int)) ∧ True) ∧
                         ((x'.val.d.left = (x.val.d.append (rows.getD x.val.i.toNat [])).fst.left ∧
                            x'.val.d.odd = (x.val.d.append (rows.getD x.val.i.toNat [])).fst.odd ∧
                             x'.val.d.done = (x.val.d.append (rows.getD x.val.i.toNat [])).fst.done ∧
                              x'.val.d.dead = (x.val.d.append (rows.getD x.val.i.toNat [])).fst.dead ∧
                               bs x'.val.d.log = bs (x.val.d.append (rows.getD x.val.i.toNat [])).fst.log ∧
                                x'.val.d.synced = (x.val.d.append (rows.getD x.val.i.toNat [])).fst.synced ∧
                                 bs x'.val.d.snap = bs (x.val.d.append (rows.getD x.val.i.toNat [])).fst.snap ∧
                                  x'.val.d.room = (x.val.d.append (rows.getD x.val.i.toNat [])).fst.room ∧ True) ∧
                           True) ∧
                          True))
                     False))
                   False))
                 False)
                (branch ((S0 DSt.fine s25).pre (x.val.d.append (rows.getD x.val.i.toNat [])).fst)
                 (branch
                  (decide ((↑(x.val.d.append (rows.getD x.val.i.toNat [])).fst.log.length : Int) < (↑a.length : Int)))
                  (false = true)
                  (branch
                   (decide
                      ((↑a.length : Int) ≤ (↑(x.val.d.append (rows.getD x.val.i.toNat [])).fst.log.length : Int)) &&
                     true &&
                    true)
                   (branch
                    (!List.drop (0 : Nat)
                       (List.take (↑a.length : Int).toNat (x.val.d.append (rows.getD x.val.i.toNat [])).fst.log) ==
                      a)
                    (false = true)
                    (∃ (x' : { x : R8 // P10 a x }),
                     ((20 : Int) - x'.val.i).toNat < ((20 : Int) - x.val.i).toNat ∧
                      (bs a = bs a ∧
                        ls rows = ls rows ∧
                         is picks = is picks ∧
                          bs snap = bs snap ∧
                           stop = stop ∧
                            ((0 : Nat) = (0 : Nat) ∧ (0 : Nat) = (0 : Nat)) ∧
                             x'.val.i = IntKind.i64.wrap (x.val.i + (1 : Int)) ∧ True) ∧
                       ((x'.val.d.left = (x.val.d.append (rows.getD x.val.i.toNat [])).fst.left ∧
                          x'.val.d.odd = (x.val.d.append (rows.getD x.val.i.toNat [])).fst.odd ∧
                           x'.val.d.done = (x.val.d.append (rows.getD x.val.i.toNat [])).fst.done ∧
                            x'.val.d.dead = (x.val.d.append (rows.getD x.val.i.toNat [])).fst.dead ∧
                             bs x'.val.d.log = bs (x.val.d.append (rows.getD x.val.i.toNat [])).fst.log ∧
                              x'.val.d.synced = (x.val.d.append (rows.getD x.val.i.toNat [])).fst.synced ∧
                               bs x'.val.d.snap = bs (x.val.d.append (rows.getD x.val.i.toNat [])).fst.snap ∧
                                x'.val.d.room = (x.val.d.append (rows.getD x.val.i.toNat [])).fst.room ∧ True) ∧
                         True) ∧
                        True))
                   False))
                 False)))
              False)
             False))
           False)
          (branch ((S0 DSt.fine s25).pre x.val.d)
           (branch ((S2 pD s24).pre (x.val.d.stop (IntKind.i64.wrap ((1 : Int) + wi stop (4 : Int))), snap))
            (branch (decide (IntKind.i64.wrap ((1 : Int) + wi stop (4 : Int)) > (1 : Int)))
             (branch (((x.val.d.stop (IntKind.i64.wrap ((1 : Int) + wi stop (4 : Int)))).swap snap).snd == (0 : Int))
              (branch
               ((S0 DSt.fine s25).pre ((x.val.d.stop (IntKind.i64.wrap ((1 : Int) + wi stop (4 : Int)))).swap snap).fst)
               (branch
                ((↑((x.val.d.stop (IntKind.i64.wrap ((1 : Int) + wi stop (4 : Int)))).swap snap).fst.log.length :
                  Int) ==
                 (0 : Int))
                (branch
                 ((S0 DSt.fine s26).pre
                  ((x.val.d.stop (IntKind.i64.wrap ((1 : Int) + wi stop (4 : Int)))).swap snap).fst)
                 ((((x.val.d.stop (IntKind.i64.wrap ((1 : Int) + wi stop (4 : Int)))).swap snap).fst.snap == snap) =
                  true)
                 False)
                (false = true))
               False)
              (false = true))
             (branch (((x.val.d.stop (IntKind.i64.wrap ((1 : Int) + wi stop (4 : Int)))).swap snap).snd == (17 : Int))
              (branch ((x.val.d.stop (IntKind.i64.wrap ((1 : Int) + wi stop (4 : Int)))).swap snap).fst.dead
               (branch
                ((S0 DSt.fine s25).pre
                 ((x.val.d.stop (IntKind.i64.wrap ((1 : Int) + wi stop (4 : Int)))).swap snap).fst)
                (branch
                 (((x.val.d.stop (IntKind.i64.wrap ((1 : Int) + wi stop (4 : Int)))).swap snap).fst.log == x.val.d.log)
                 (branch
                  ((S0 DSt.fine s26).pre
                   ((x.val.d.stop (IntKind.i64.wrap ((1 : Int) + wi stop (4 : Int)))).swap snap).fst)
                  (((↑((x.val.d.stop (IntKind.i64.wrap ((1 : Int) + wi stop (4 : Int)))).swap snap).fst.snap.length :
                     Int) ==
                    (0 : Int)) =
                   true)
                  False)
                 (false = true))
                False)
               (false = true))
              (false = true)))
            False)
           False))
         (branch ((S0 DSt.fine s25).pre x.val.d)
          (branch ((S2 pD s24).pre (x.val.d.stop (IntKind.i64.wrap ((1 : Int) + wi stop (4 : Int))), snap))
           (branch (decide (IntKind.i64.wrap ((1 : Int) + wi stop (4 : Int)) > (1 : Int)))
            (branch (((x.val.d.stop (IntKind.i64.wrap ((1 : Int) + wi stop (4 : Int)))).swap snap).snd == (0 : Int))
             (branch
              ((S0 DSt.fine s25).pre ((x.val.d.stop (IntKind.i64.wrap ((1 : Int) + wi stop (4 : Int)))).swap snap).fst)
              (branch
               ((↑((x.val.d.stop (IntKind.i64.wrap ((1 : Int) + wi stop (4 : Int)))).swap snap).fst.log.length : Int) ==
                (0 : Int))
               (branch
                ((S0 DSt.fine s26).pre
                 ((x.val.d.stop (IntKind.i64.wrap ((1 : Int) + wi stop (4 : Int)))).swap snap).fst)
                ((((x.val.d.stop (IntKind.i64.wrap ((1 : Int) + wi stop (4 : Int)))).swap snap).fst.snap == snap) =
                 true)
                False)
               (false = true))
              False)
             (false = true))
            (branch (((x.val.d.stop (IntKind.i64.wrap ((1 : Int) + wi stop (4 : Int)))).swap snap).snd == (17 : Int))
             (branch ((x.val.d.stop (IntKind.i64.wrap ((1 : Int) + wi stop (4 : Int)))).swap snap).fst.dead
              (branch
               ((S0 DSt.fine s25).pre ((x.val.d.stop (IntKind.i64.wrap ((1 : Int) + wi stop (4 : Int)))).swap snap).fst)
               (branch
                (((x.val.d.stop (IntKind.i64.wrap ((1 : Int) + wi stop (4 : Int)))).swap snap).fst.log == x.val.d.log)
                (branch
                 ((S0 DSt.fine s26).pre
                  ((x.val.d.stop (IntKind.i64.wrap ((1 : Int) + wi stop (4 : Int)))).swap snap).fst)
                 (((↑((x.val.d.stop (IntKind.i64.wrap ((1 : Int) + wi stop (4 : Int)))).swap snap).fst.snap.length :
                    Int) ==
                   (0 : Int)) =
                  true)
                 False)
                (false = true))
               False)
              (false = true))
             (false = true)))
           False)
          False)))
     False))
   False))) := by kernel_rfl
end Go.Proofs.Ytaencddffbmdeaa
