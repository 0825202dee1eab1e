/- What is left to be shown of a statement of disk. No conditions. -/
import Derived.Test.YtaencddffbmdeaaDkL
namespace Go.Proofs.Ytaencddffbmdeaa
open Go Go.W Go.Proofs
set_option maxRecDepth 100000
theorem v9 (snaps : List
 (List
  UInt8)) (picks : List
 Int) : (awpFun regK Try.prog hd3 (1000 : Nat) (fun (x : Nat) => []) (L9 snaps picks) (J9 snaps picks) none Try.f9
 [V.d (D.sl (43 : Nat) snaps), V.d (D.sl (3 : Nat) picks)] fun (r : V regK.T × Hp regK.T) => yes r.fst) = (
  (∃ (x : { x : R9 // P9 x }),
  (ls snaps = ls snaps ∧
    is picks = is picks ∧
     ((0 : Nat) = (0 : Nat) ∧ (0 : Nat) = (0 : Nat)) ∧ x.val.last = [] ∧ x.val.i = (0 : Int) ∧ True) ∧
   ((x.val.d.left = (0 : Int) ∧
      x.val.d.odd = (0 : Int) ∧
       x.val.d.done = (0 : Int) ∧
        x.val.d.dead = false ∧
         bs x.val.d.log = bs [] ∧
          x.val.d.synced = (0 : Int) ∧ bs x.val.d.snap = bs [] ∧ x.val.d.room = (100000 : Int) ∧ True) ∧
     True) ∧
    True) ∧
 ∀ (x : { x : R9 // P9 x }),
  branch (decide (x.val.i < (↑snaps.length : Int)))
   (branch (decide (x.val.i < (15 : Int)))
    (branch (decide ((0 : Int) ≤ x.val.i) && decide (x.val.i < (↑snaps.length : Int)) && true && true)
     (branch (decide ((↑(List.length (snaps.getD x.val.i.toNat [])) : Int) > (200 : Int))) (true = true)
      (branch (decide (x.val.i < (↑picks.length : Int)))
        (branch (decide ((0 : Int) ≤ x.val.i) && decide (x.val.i < (↑picks.length : Int)) && true && true)
         (∃ (x_1 : { y : J9s // Q9 snaps (some x.val.i) y }),
          (ls snaps = ls snaps ∧
            is picks = is picks ∧
             ((0 : Nat) = (0 : Nat) ∧ (0 : Nat) = (0 : Nat)) ∧
              x_1.val.x.last = x.val.last ∧
               x_1.val.x.i = x.val.i ∧ x_1.val.p = picks.getD x.val.i.toNat (0 : Int) ∧ True) ∧
           ((x_1.val.x.d.left = x.val.d.left ∧
              x_1.val.x.d.odd = x.val.d.odd ∧
               x_1.val.x.d.done = x.val.d.done ∧
                x_1.val.x.d.dead = x.val.d.dead ∧
                 bs x_1.val.x.d.log = bs x.val.d.log ∧
                  x_1.val.x.d.synced = x.val.d.synced ∧
                   bs x_1.val.x.d.snap = bs x.val.d.snap ∧ x_1.val.x.d.room = x.val.d.room ∧ True) ∧
             True) ∧
            True)
         False)
        (∃ (x_1 : { y : J9s // Q9 snaps (some x.val.i) y }),
         (ls snaps = ls snaps ∧
           is picks = is picks ∧
            ((0 : Nat) = (0 : Nat) ∧ (0 : Nat) = (0 : Nat)) ∧
             x_1.val.x.last = x.val.last ∧ x_1.val.x.i = x.val.i ∧ x_1.val.p = (0 : Int) ∧ True) ∧
          ((x_1.val.x.d.left = x.val.d.left ∧
             x_1.val.x.d.odd = x.val.d.odd ∧
              x_1.val.x.d.done = x.val.d.done ∧
               x_1.val.x.d.dead = x.val.d.dead ∧
                bs x_1.val.x.d.log = bs x.val.d.log ∧
                 x_1.val.x.d.synced = x.val.d.synced ∧
                  bs x_1.val.x.d.snap = bs x.val.d.snap ∧ x_1.val.x.d.room = x.val.d.room ∧ True) ∧
            True) ∧
           True) ∧
       ∀ (x_1 : { y : J9s // Q9 snaps (some x.val.i) y }),
        branch (decide ((0 : Int) ≤ x_1.val.x.i) && decide (x_1.val.x.i < (↑snaps.length : Int)) && true && true)
         (branch ((S2 pD s23).pre (x_1.val.x.d, snaps.getD x_1.val.x.i.toNat []))
          (branch (decide ((0 : Int) ≤ x_1.val.x.i) && decide (x_1.val.x.i < (↑snaps.length : Int)) && true && true)
           (branch
            ((S2 pD s24).pre
             ((x_1.val.x.d.append (snaps.getD x_1.val.x.i.toNat [])).fst.stop (wi x_1.val.p (3 : Int)),
              snaps.getD x_1.val.x.i.toNat []))
            (branch
             ((((x_1.val.x.d.append (snaps.getD x_1.val.x.i.toNat [])).fst.stop (wi x_1.val.p (3 : Int))).swap
                (snaps.getD x_1.val.x.i.toNat [])).snd ==
              (0 : Int))
             (branch (decide ((0 : Int) ≤ x_1.val.x.i) && decide (x_1.val.x.i < (↑snaps.length : Int)) && true && true)
              (branch (wi x_1.val.p (3 : Int) == (1 : Int))
               (branch
                ((((x_1.val.x.d.append (snaps.getD x_1.val.x.i.toNat [])).fst.stop (wi x_1.val.p (3 : Int))).swap
                   (snaps.getD x_1.val.x.i.toNat [])).snd !=
                 (17 : Int))
                (false = true)
                (branch (wi x_1.val.p (3 : Int) != (1 : Int))
                 (branch
                  ((((x_1.val.x.d.append (snaps.getD x_1.val.x.i.toNat [])).fst.stop (wi x_1.val.p (3 : Int))).swap
                     (snaps.getD x_1.val.x.i.toNat [])).snd !=
                   (0 : Int))
                  (false = true)
                  (branch
                   ((S3 pD s23l).pre
                    (Lv.mk
                     (((x_1.val.x.d.append (snaps.getD x_1.val.x.i.toNat [])).fst.stop (wi x_1.val.p (3 : Int))).swap
                       (snaps.getD x_1.val.x.i.toNat [])).fst
                     [UInt8.ofNat (109 : Nat), UInt8.ofNat (111 : Nat), UInt8.ofNat (114 : Nat),
                      UInt8.ofNat (101 : Nat)]
                     (0 : Nat) (4 : Nat) (Cap.exact (4 : Nat))))
                   (branch
                    ((S1 DSt.fine s28).pre
                     (((((x_1.val.x.d.append (snaps.getD x_1.val.x.i.toNat [])).fst.stop (wi x_1.val.p (3 : Int))).swap
                           (snaps.getD x_1.val.x.i.toNat [])).fst.append
                        [UInt8.ofNat (109 : Nat), UInt8.ofNat (111 : Nat), UInt8.ofNat (114 : Nat),
                         UInt8.ofNat (101 : Nat)]).fst,
                      IntKind.i64.wrap (x_1.val.p.tdiv (3 : Int))))
                    (branch
                     ((S0 DSt.fine s26).pre
                      (DSt.mk
                       (((((x_1.val.x.d.append (snaps.getD x_1.val.x.i.toNat [])).fst.stop
                                 (wi x_1.val.p (3 : Int))).swap
                               (snaps.getD x_1.val.x.i.toNat [])).fst.append
                            [UInt8.ofNat (109 : Nat), UInt8.ofNat (111 : Nat), UInt8.ofNat (114 : Nat),
                             UInt8.ofNat (101 : Nat)]).fst.crash
                         (IntKind.i64.wrap (x_1.val.p.tdiv (3 : Int)))).left
                       (((((x_1.val.x.d.append (snaps.getD x_1.val.x.i.toNat [])).fst.stop
                                 (wi x_1.val.p (3 : Int))).swap
                               (snaps.getD x_1.val.x.i.toNat [])).fst.append
                            [UInt8.ofNat (109 : Nat), UInt8.ofNat (111 : Nat), UInt8.ofNat (114 : Nat),
                             UInt8.ofNat (101 : Nat)]).fst.crash
                         (IntKind.i64.wrap (x_1.val.p.tdiv (3 : Int)))).odd
                       (((((x_1.val.x.d.append (snaps.getD x_1.val.x.i.toNat [])).fst.stop
                                 (wi x_1.val.p (3 : Int))).swap
                               (snaps.getD x_1.val.x.i.toNat [])).fst.append
                            [UInt8.ofNat (109 : Nat), UInt8.ofNat (111 : Nat), UInt8.ofNat (114 : Nat),
                             UInt8.ofNat (101 : Nat)]).fst.crash
                         (IntKind.i64.wrap (x_1.val.p.tdiv (3 : Int)))).done
                       false
                       (((((x_1.val.x.d.append (snaps.getD x_1.val.x.i.toNat [])).fst.stop
                                 (wi x_1.val.p (3 : Int))).swap
                               (snaps.getD x_1.val.x.i.toNat [])).fst.append
                            [UInt8.ofNat (109 : Nat), UInt8.ofNat (111 : Nat), UInt8.ofNat (114 : Nat),
                             UInt8.ofNat (101 : Nat)]).fst.crash
                         (IntKind.i64.wrap (x_1.val.p.tdiv (3 : Int)))).log
                       (((((x_1.val.x.d.append (snaps.getD x_1.val.x.i.toNat [])).fst.stop
                                 (wi x_1.val.p (3 : Int))).swap
                               (snaps.getD x_1.val.x.i.toNat [])).fst.append
                            [UInt8.ofNat (109 : Nat), UInt8.ofNat (111 : Nat), UInt8.ofNat (114 : Nat),
                             UInt8.ofNat (101 : Nat)]).fst.crash
                         (IntKind.i64.wrap (x_1.val.p.tdiv (3 : Int)))).synced
                       (((((x_1.val.x.d.append (snaps.getD x_1.val.x.i.toNat [])).fst.stop
                                 (wi x_1.val.p (3 : Int))).swap
                               (snaps.getD x_1.val.x.i.toNat [])).fst.append
                            [UInt8.ofNat (109 : Nat), UInt8.ofNat (111 : Nat), UInt8.ofNat (114 : Nat),
                             UInt8.ofNat (101 : Nat)]).fst.crash
                         (IntKind.i64.wrap (x_1.val.p.tdiv (3 : Int)))).snap
                       (((((x_1.val.x.d.append (snaps.getD x_1.val.x.i.toNat [])).fst.stop
                                 (wi x_1.val.p (3 : Int))).swap
                               (snaps.getD x_1.val.x.i.toNat [])).fst.append
                            [UInt8.ofNat (109 : Nat), UInt8.ofNat (111 : Nat), UInt8.ofNat (114 : Nat),
                             UInt8.ofNat (101 : Nat)]).fst.crash
                         (IntKind.i64.wrap (x_1.val.p.tdiv (3 : Int)))).room))
                     (branch
                      (!(((((x_1.val.x.d.append (snaps.getD x_1.val.x.i.toNat [])).fst.stop
                                  (wi x_1.val.p (3 : Int))).swap
                                (snaps.getD x_1.val.x.i.toNat [])).fst.append
                             [UInt8.ofNat (109 : Nat), UInt8.ofNat (111 : Nat), UInt8.ofNat (114 : Nat),
                              UInt8.ofNat (101 : Nat)]).fst.crash
                          (IntKind.i64.wrap (x_1.val.p.tdiv (3 : Int)))).snap ==
                        snaps.getD x_1.val.x.i.toNat [])
                      (false = true)
                      (∃ (x' : { x : R9 // P9 x }),
                       ((15 : Int) - x'.val.i).toNat < ((15 : Int) - x.val.i).toNat ∧
                        (ls snaps = ls snaps ∧
                          is picks = is picks ∧
                           ((0 : Nat) = (0 : Nat) ∧ (0 : Nat) = (0 : Nat)) ∧
                            x'.val.last = snaps.getD x_1.val.x.i.toNat [] ∧
                             x'.val.i = IntKind.i64.wrap (x_1.val.x.i + (1 : Int)) ∧ True) ∧
                         ((x'.val.d.left =
                             (((((x_1.val.x.d.append (snaps.getD x_1.val.x.i.toNat [])).fst.stop
                                       (wi x_1.val.p (3 : Int))).swap
                                     (snaps.getD x_1.val.x.i.toNat [])).fst.append
                                  [UInt8.ofNat (109 : Nat), UInt8.ofNat (111 : Nat), UInt8.ofNat (114 : Nat),
                                   UInt8.ofNat (101 : Nat)]).fst.crash
                               (IntKind.i64.wrap (x_1.val.p.tdiv (3 : Int)))).left ∧
                            x'.val.d.odd =
                              (((((x_1.val.x.d.append (snaps.getD x_1.val.x.i.toNat [])).fst.stop
                                        (wi x_1.val.p (3 : Int))).swap
                                      (snaps.getD x_1.val.x.i.toNat [])).fst.append
                                   [UInt8.ofNat (109 : Nat), UInt8.ofNat (111 : Nat), UInt8.ofNat (114 : Nat),
                                    UInt8.ofNat (101 : Nat)]).fst.crash
                                (IntKind.i64.wrap (x_1.val.p.tdiv (3 : Int)))).odd ∧
                             x'.val.d.done =
                               (((((x_1.val.x.d.append (snaps.getD x_1.val.x.i.toNat [])).fst.stop
                                         (wi x_1.val.p (3 : Int))).swap
                                       (snaps.getD x_1.val.x.i.toNat [])).fst.append
                                    [UInt8.ofNat (109 : Nat), UInt8.ofNat (111 : Nat), UInt8.ofNat (114 : Nat),
                                     UInt8.ofNat (101 : Nat)]).fst.crash
                                 (IntKind.i64.wrap (x_1.val.p.tdiv (3 : Int)))).done ∧
                              x'.val.d.dead = false ∧
                               bs x'.val.d.log =
                                 bs
                                  (((((x_1.val.x.d.append (snaps.getD x_1.val.x.i.toNat [])).fst.stop
                                            (wi x_1.val.p (3 : Int))).swap
                                          (snaps.getD x_1.val.x.i.toNat [])).fst.append
                                       [UInt8.ofNat (109 : Nat), UInt8.ofNat (111 : Nat), UInt8.ofNat (114 : Nat),
                                        UInt8.ofNat (101 : Nat)]).fst.crash
                                    (IntKind.i64.wrap (x_1.val.p.tdiv (3 : Int)))).log ∧
                                x'.val.d.synced =
                                  (((((x_1.val.x.d.append (snaps.getD x_1.val.x.i.toNat [])).fst.stop
                                            (wi x_1.val.p (3 : Int))).swap
                                          (snaps.getD x_1.val.x.i.toNat [])).fst.append
                                       [UInt8.ofNat (109 : Nat), UInt8.ofNat (111 : Nat), UInt8.ofNat (114 : Nat),
                                        UInt8.ofNat (101 : Nat)]).fst.crash
                                    (IntKind.i64.wrap (x_1.val.p.tdiv (3 : Int)))).synced ∧
                                 bs x'.val.d.snap =
                                   bs
                                    (((((x_1.val.x.d.append (snaps.getD x_1.val.x.i.toNat [])).fst.stop
                                              (wi x_1.val.p (3 : Int))).swap
                                            (snaps.getD x_1.val.x.i.toNat [])).fst.append
                                         [UInt8.ofNat (109 : Nat), UInt8.ofNat (111 : Nat), UInt8.ofNat (114 : Nat),
                                          UInt8.ofNat (101 : Nat)]).fst.crash
                                      (IntKind.i64.wrap (x_1.val.p.tdiv (3 : Int)))).snap ∧
                                  x'.val.d.room =
                                    (((((x_1.val.x.d.append (snaps.getD x_1.val.x.i.toNat [])).fst.stop
                                              (wi x_1.val.p (3 : Int))).swap
                                            (snaps.getD x_1.val.x.i.toNat [])).fst.append
                                         [UInt8.ofNat (109 : Nat), UInt8.ofNat (111 : Nat), UInt8.ofNat (114 : Nat),
                                          UInt8.ofNat (101 : Nat)]).fst.crash
                                      (IntKind.i64.wrap (x_1.val.p.tdiv (3 : Int)))).room ∧
                                   True) ∧
                           True) ∧
                          True))
                     False)
                    False)
                   False))
                 (branch
                  ((S3 pD s23l).pre
                   (Lv.mk
                    (((x_1.val.x.d.append (snaps.getD x_1.val.x.i.toNat [])).fst.stop (wi x_1.val.p (3 : Int))).swap
                      (snaps.getD x_1.val.x.i.toNat [])).fst
                    [UInt8.ofNat (109 : Nat), UInt8.ofNat (111 : Nat), UInt8.ofNat (114 : Nat), UInt8.ofNat (101 : Nat)]
                    (0 : Nat) (4 : Nat) (Cap.exact (4 : Nat))))
                  (branch
                   ((S1 DSt.fine s28).pre
                    (((((x_1.val.x.d.append (snaps.getD x_1.val.x.i.toNat [])).fst.stop (wi x_1.val.p (3 : Int))).swap
                          (snaps.getD x_1.val.x.i.toNat [])).fst.append
                       [UInt8.ofNat (109 : Nat), UInt8.ofNat (111 : Nat), UInt8.ofNat (114 : Nat),
                        UInt8.ofNat (101 : Nat)]).fst,
                     IntKind.i64.wrap (x_1.val.p.tdiv (3 : Int))))
                   (branch
                    ((S0 DSt.fine s26).pre
                     (DSt.mk
                      (((((x_1.val.x.d.append (snaps.getD x_1.val.x.i.toNat [])).fst.stop (wi x_1.val.p (3 : Int))).swap
                              (snaps.getD x_1.val.x.i.toNat [])).fst.append
                           [UInt8.ofNat (109 : Nat), UInt8.ofNat (111 : Nat), UInt8.ofNat (114 : Nat),
                            UInt8.ofNat (101 : Nat)]).fst.crash
                        (IntKind.i64.wrap (x_1.val.p.tdiv (3 : Int)))).left
                      (((((x_1.val.x.d.append (snaps.getD x_1.val.x.i.toNat [])).fst.stop (wi x_1.val.p (3 : Int))).swap
                              (snaps.getD x_1.val.x.i.toNat [])).fst.append
                           [UInt8.ofNat (109 : Nat), UInt8.ofNat (111 : Nat), UInt8.ofNat (114 : Nat),
                            UInt8.ofNat (101 : Nat)]).fst.crash
                        (IntKind.i64.wrap (x_1.val.p.tdiv (3 : Int)))).odd
                      (((((x_1.val.x.d.append (snaps.getD x_1.val.x.i.toNat [])).fst.stop (wi x_1.val.p (3 : Int))).swap
                              (snaps.getD x_1.val.x.i.toNat [])).fst.append
                           [UInt8.ofNat (109 : Nat), UInt8.ofNat (111 : Nat), UInt8.ofNat (114 : Nat),
                            UInt8.ofNat (101 : Nat)]).fst.crash
                        (IntKind.i64.wrap (x_1.val.p.tdiv (3 : Int)))).done
                      false
                      (((((x_1.val.x.d.append (snaps.getD x_1.val.x.i.toNat [])).fst.stop (wi x_1.val.p (3 : Int))).swap
                              (snaps.getD x_1.val.x.i.toNat [])).fst.append
                           [UInt8.ofNat (109 : Nat), UInt8.ofNat (111 : Nat), UInt8.ofNat (114 : Nat),
                            UInt8.ofNat (101 : Nat)]).fst.crash
                        (IntKind.i64.wrap (x_1.val.p.tdiv (3 : Int)))).log
                      (((((x_1.val.x.d.append (snaps.getD x_1.val.x.i.toNat [])).fst.stop (wi x_1.val.p (3 : Int))).swap
                              (snaps.getD x_1.val.x.i.toNat [])).fst.append
                           [UInt8.ofNat (109 : Nat), UInt8.ofNat (111 : Nat), UInt8.ofNat (114 : Nat),
                            UInt8.ofNat (101 : Nat)]).fst.crash
                        (IntKind.i64.wrap (x_1.val.p.tdiv (3 : Int)))).synced
                      (((((x_1.val.x.d.append (snaps.getD x_1.val.x.i.toNat [])).fst.stop (wi x_1.val.p (3 : Int))).swap
                              (snaps.getD x_1.val.x.i.toNat [])).fst.append
                           [UInt8.ofNat (109 : Nat), UInt8.ofNat (111 : Nat), UInt8.ofNat (114 : Nat),
                            UInt8.ofNat (101 : Nat)]).fst.crash
                        (IntKind.i64.wrap (x_1.val.p.tdiv (3 : Int)))).snap
                      (((((x_1.val.x.d.append (snaps.getD x_1.val.x.i.toNat [])).fst.stop (wi x_1.val.p (3 : Int))).swap
                              (snaps.getD x_1.val.x.i.toNat [])).fst.append
                           [UInt8.ofNat (109 : Nat), UInt8.ofNat (111 : Nat), UInt8.ofNat (114 : Nat),
                            UInt8.ofNat (101 : Nat)]).fst.crash
                        (IntKind.i64.wrap (x_1.val.p.tdiv (3 : Int)))).room))
                    (branch
                     (!(((((x_1.val.x.d.append (snaps.getD x_1.val.x.i.toNat [])).fst.stop
                                 (wi x_1.val.p (3 : Int))).swap
                               (snaps.getD x_1.val.x.i.toNat [])).fst.append
                            [UInt8.ofNat (109 : Nat), UInt8.ofNat (111 : Nat), UInt8.ofNat (114 : Nat),
                             UInt8.ofNat (101 : Nat)]).fst.crash
                         (IntKind.i64.wrap (x_1.val.p.tdiv (3 : Int)))).snap ==
                       snaps.getD x_1.val.x.i.toNat [])
                     (false = true)
                     (∃ (x' : { x : R9 // P9 x }),
                      ((15 : Int) - x'.val.i).toNat < ((15 : Int) - x.val.i).toNat ∧
                       (ls snaps = ls snaps ∧
                         is picks = is picks ∧
                          ((0 : Nat) = (0 : Nat) ∧ (0 : Nat) = (0 : Nat)) ∧
                           x'.val.last = snaps.getD x_1.val.x.i.toNat [] ∧
                            x'.val.i = IntKind.i64.wrap (x_1.val.x.i + (1 : Int)) ∧ True) ∧
                        ((x'.val.d.left =
                            (((((x_1.val.x.d.append (snaps.getD x_1.val.x.i.toNat [])).fst.stop
                                      (wi x_1.val.p (3 : Int))).swap
                                    (snaps.getD x_1.val.x.i.toNat [])).fst.append
                                 [UInt8.ofNat (109 : Nat), UInt8.ofNat (111 : Nat), UInt8.ofNat (114 : Nat),
                                  UInt8.ofNat (101 : Nat)]).fst.crash
                              (IntKind.i64.wrap (x_1.val.p.tdiv (3 : Int)))).left ∧
                           x'.val.d.odd =
                             (((((x_1.val.x.d.append (snaps.getD x_1.val.x.i.toNat [])).fst.stop
                                       (wi x_1.val.p (3 : Int))).swap
                                     (snaps.getD x_1.val.x.i.toNat [])).fst.append
                                  [UInt8.ofNat (109 : Nat), UInt8.ofNat (111 : Nat), UInt8.ofNat (114 : Nat),
                                   UInt8.ofNat (101 : Nat)]).fst.crash
                               (IntKind.i64.wrap (x_1.val.p.tdiv (3 : Int)))).odd ∧
                            x'.val.d.done =
                              (((((x_1.val.x.d.append (snaps.getD x_1.val.x.i.toNat [])).fst.stop
                                        (wi x_1.val.p (3 : Int))).swap
                                      (snaps.getD x_1.val.x.i.toNat [])).fst.append
                                   [UInt8.ofNat (109 : Nat), UInt8.ofNat (111 : Nat), UInt8.ofNat (114 : Nat),
                                    UInt8.ofNat (101 : Nat)]).fst.crash
                                (IntKind.i64.wrap (x_1.val.p.tdiv (3 : Int)))).done ∧
                             x'.val.d.dead = false ∧
                              bs x'.val.d.log =
                                bs
                                 (((((x_1.val.x.d.append (snaps.getD x_1.val.x.i.toNat [])).fst.stop
                                           (wi x_1.val.p (3 : Int))).swap
                                         (snaps.getD x_1.val.x.i.toNat [])).fst.append
                                      [UInt8.ofNat (109 : Nat), UInt8.ofNat (111 : Nat), UInt8.ofNat (114 : Nat),
                                       UInt8.ofNat (101 : Nat)]).fst.crash
                                   (IntKind.i64.wrap (x_1.val.p.tdiv (3 : Int)))).log ∧
                               x'.val.d.synced =
                                 (((((x_1.val.x.d.append (snaps.getD x_1.val.x.i.toNat [])).fst.stop
                                           (wi x_1.val.p (3 : Int))).swap
                                         (snaps.getD x_1.val.x.i.toNat [])).fst.append
                                      [UInt8.ofNat (109 : Nat), UInt8.ofNat (111 : Nat), UInt8.ofNat (114 : Nat),
                                       UInt8.ofNat (101 : Nat)]).fst.crash
                                   (IntKind.i64.wrap (x_1.val.p.tdiv (3 : Int)))).synced ∧
                                bs x'.val.d.snap =
                                  bs
                                   (((((x_1.val.x.d.append (snaps.getD x_1.val.x.i.toNat [])).fst.stop
                                             (wi x_1.val.p (3 : Int))).swap
                                           (snaps.getD x_1.val.x.i.toNat [])).fst.append
                                        [UInt8.ofNat (109 : Nat), UInt8.ofNat (111 : Nat), UInt8.ofNat (114 : Nat),
                                         UInt8.ofNat (101 : Nat)]).fst.crash
                                     (IntKind.i64.wrap (x_1.val.p.tdiv (3 : Int)))).snap ∧
                                 x'.val.d.room =
                                   (((((x_1.val.x.d.append (snaps.getD x_1.val.x.i.toNat [])).fst.stop
                                             (wi x_1.val.p (3 : Int))).swap
                                           (snaps.getD x_1.val.x.i.toNat [])).fst.append
                                        [UInt8.ofNat (109 : Nat), UInt8.ofNat (111 : Nat), UInt8.ofNat (114 : Nat),
                                         UInt8.ofNat (101 : Nat)]).fst.crash
                                     (IntKind.i64.wrap (x_1.val.p.tdiv (3 : Int)))).room ∧
                                  True) ∧
                          True) ∧
                         True))
                    False)
                   False)
                  False)))
               (branch (wi x_1.val.p (3 : Int) != (1 : Int))
                (branch
                 ((((x_1.val.x.d.append (snaps.getD x_1.val.x.i.toNat [])).fst.stop (wi x_1.val.p (3 : Int))).swap
                    (snaps.getD x_1.val.x.i.toNat [])).snd !=
                  (0 : Int))
                 (false = true)
                 (branch
                  ((S3 pD s23l).pre
                   (Lv.mk
                    (((x_1.val.x.d.append (snaps.getD x_1.val.x.i.toNat [])).fst.stop (wi x_1.val.p (3 : Int))).swap
                      (snaps.getD x_1.val.x.i.toNat [])).fst
                    [UInt8.ofNat (109 : Nat), UInt8.ofNat (111 : Nat), UInt8.ofNat (114 : Nat), UInt8.ofNat (101 : Nat)]
                    (0 : Nat) (4 : Nat) (Cap.exact (4 : Nat))))
                  (branch
                   ((S1 DSt.fine s28).pre
                    (((((x_1.val.x.d.append (snaps.getD x_1.val.x.i.toNat [])).fst.stop (wi x_1.val.p (3 : Int))).swap
                          (snaps.getD x_1.val.x.i.toNat [])).fst.append
                       [UInt8.ofNat (109 : Nat), UInt8.ofNat (111 : Nat), UInt8.ofNat (114 : Nat),
                        UInt8.ofNat (101 : Nat)]).fst,
                     IntKind.i64.wrap (x_1.val.p.tdiv (3 : Int))))
                   (branch
                    ((S0 DSt.fine s26).pre
                     (DSt.mk
                      (((((x_1.val.x.d.append (snaps.getD x_1.val.x.i.toNat [])).fst.stop (wi x_1.val.p (3 : Int))).swap
                              (snaps.getD x_1.val.x.i.toNat [])).fst.append
                           [UInt8.ofNat (109 : Nat), UInt8.ofNat (111 : Nat), UInt8.ofNat (114 : Nat),
                            UInt8.ofNat (101 : Nat)]).fst.crash
                        (IntKind.i64.wrap (x_1.val.p.tdiv (3 : Int)))).left
                      (((((x_1.val.x.d.append (snaps.getD x_1.val.x.i.toNat [])).fst.stop (wi x_1.val.p (3 : Int))).swap
                              (snaps.getD x_1.val.x.i.toNat [])).fst.append
                           [UInt8.ofNat (109 : Nat), UInt8.ofNat (111 : Nat), UInt8.ofNat (114 : Nat),
                            UInt8.ofNat (101 : Nat)]).fst.crash
                        (IntKind.i64.wrap (x_1.val.p.tdiv (3 : Int)))).odd
                      (((((x_1.val.x.d.append (snaps.getD x_1.val.x.i.toNat [])).fst.stop (wi x_1.val.p (3 : Int))).swap
                              (snaps.getD x_1.val.x.i.toNat [])).fst.append
                           [UInt8.ofNat (109 : Nat), UInt8.ofNat (111 : Nat), UInt8.ofNat (114 : Nat),
                            UInt8.ofNat (101 : Nat)]).fst.crash
                        (IntKind.i64.wrap (x_1.val.p.tdiv (3 : Int)))).done
                      false
                      (((((x_1.val.x.d.append (snaps.getD x_1.val.x.i.toNat [])).fst.stop (wi x_1.val.p (3 : Int))).swap
                              (snaps.getD x_1.val.x.i.toNat [])).fst.append
                           [UInt8.ofNat (109 : Nat), UInt8.ofNat (111 : Nat), UInt8.ofNat (114 : Nat),
                            UInt8.ofNat (101 : Nat)]).fst.crash
                        (IntKind.i64.wrap (x_1.val.p.tdiv (3 : Int)))).log
                      (((((x_1.val.x.d.append (snaps.getD x_1.val.x.i.toNat [])).fst.stop (wi x_1.val.p (3 : Int))).swap
                              (snaps.getD x_1.val.x.i.toNat [])).fst.append
                           [UInt8.ofNat (109 : Nat), UInt8.ofNat (111 : Nat), UInt8.ofNat (114 : Nat),
                            UInt8.ofNat (101 : Nat)]).fst.crash
                        (IntKind.i64.wrap (x_1.val.p.tdiv (3 : Int)))).synced
                      (((((x_1.val.x.d.append (snaps.getD x_1.val.x.i.toNat [])).fst.stop (wi x_1.val.p (3 : Int))).swap
                              (snaps.getD x_1.val.x.i.toNat [])).fst.append
                           [UInt8.ofNat (109 : Nat), UInt8.ofNat (111 : Nat), UInt8.ofNat (114 : Nat),
                            UInt8.ofNat (101 : Nat)]).fst.crash
                        (IntKind.i64.wrap (x_1.val.p.tdiv (3 : Int)))).snap
                      (((((x_1.val.x.d.append (snaps.getD x_1.val.x.i.toNat [])).fst.stop (wi x_1.val.p (3 : Int))).swap
                              (snaps.getD x_1.val.x.i.toNat [])).fst.append
                           [UInt8.ofNat (109 : Nat), UInt8.ofNat (111 : Nat), UInt8.ofNat (114 : Nat),
                            UInt8.ofNat (101 : Nat)]).fst.crash
                        (IntKind.i64.wrap (x_1.val.p.tdiv (3 : Int)))).room))
                    (branch
                     (!(((((x_1.val.x.d.append (snaps.getD x_1.val.x.i.toNat [])).fst.stop
                                 (wi x_1.val.p (3 : Int))).swap
                               (snaps.getD x_1.val.x.i.toNat [])).fst.append
                            [UInt8.ofNat (109 : Nat), UInt8.ofNat (111 : Nat), UInt8.ofNat (114 : Nat),
                             UInt8.ofNat (101 : Nat)]).fst.crash
                         (IntKind.i64.wrap (x_1.val.p.tdiv (3 : Int)))).snap ==
                       snaps.getD x_1.val.x.i.toNat [])
                     (false = true)
                     (∃ (x' : { x : R9 // P9 x }),
                      ((15 : Int) - x'.val.i).toNat < ((15 : Int) - x.val.i).toNat ∧
                       (ls snaps = ls snaps ∧
                         is picks = is picks ∧
                          ((0 : Nat) = (0 : Nat) ∧ (0 : Nat) = (0 : Nat)) ∧
                           x'.val.last = snaps.getD x_1.val.x.i.toNat [] ∧
                            x'.val.i = IntKind.i64.wrap (x_1.val.x.i + (1 : Int)) ∧ True) ∧
                        ((x'.val.d.left =
                            (((((x_1.val.x.d.append (snaps.getD x_1.val.x.i.toNat [])).fst.stop
                                      (wi x_1.val.p (3 : Int))).swap
                                    (snaps.getD x_1.val.x.i.toNat [])).fst.append
                                 [UInt8.ofNat (109 : Nat), UInt8.ofNat (111 : Nat), UInt8.ofNat (114 : Nat),
                                  UInt8.ofNat (101 : Nat)]).fst.crash
                              (IntKind.i64.wrap (x_1.val.p.tdiv (3 : Int)))).left ∧
                           x'.val.d.odd =
                             (((((x_1.val.x.d.append (snaps.getD x_1.val.x.i.toNat [])).fst.stop
                                       (wi x_1.val.p (3 : Int))).swap
                                     (snaps.getD x_1.val.x.i.toNat [])).fst.append
                                  [UInt8.ofNat (109 : Nat), UInt8.ofNat (111 : Nat), UInt8.ofNat (114 : Nat),
                                   UInt8.ofNat (101 : Nat)]).fst.crash
                               (IntKind.i64.wrap (x_1.val.p.tdiv (3 : Int)))).odd ∧
                            x'.val.d.done =
                              (((((x_1.val.x.d.append (snaps.getD x_1.val.x.i.toNat [])).fst.stop
                                        (wi x_1.val.p (3 : Int))).swap
                                      (snaps.getD x_1.val.x.i.toNat [])).fst.append
                                   [UInt8.ofNat (109 : Nat), UInt8.ofNat (111 : Nat), UInt8.ofNat (114 : Nat),
                                    UInt8.ofNat (101 : Nat)]).fst.crash
                                (IntKind.i64.wrap (x_1.val.p.tdiv (3 : Int)))).done ∧
                             x'.val.d.dead = false ∧
                              bs x'.val.d.log =
                                bs
                                 (((((x_1.val.x.d.append (snaps.getD x_1.val.x.i.toNat [])).fst.stop
                                           (wi x_1.val.p (3 : Int))).swap
                                         (snaps.getD x_1.val.x.i.toNat [])).fst.append
                                      [UInt8.ofNat (109 : Nat), UInt8.ofNat (111 : Nat), UInt8.ofNat (114 : Nat),
                                       UInt8.ofNat (101 : Nat)]).fst.crash
                                   (IntKind.i64.wrap (x_1.val.p.tdiv (3 : Int)))).log ∧
                               x'.val.d.synced =
                                 (((((x_1.val.x.d.append (snaps.getD x_1.val.x.i.toNat [])).fst.stop
                                           (wi x_1.val.p (3 : Int))).swap
                                         (snaps.getD x_1.val.x.i.toNat [])).fst.append
                                      [UInt8.ofNat (109 : Nat), UInt8.ofNat (111 : Nat), UInt8.ofNat (114 : Nat),
                                       UInt8.ofNat (101 : Nat)]).fst.crash
                                   (IntKind.i64.wrap (x_1.val.p.tdiv (3 : Int)))).synced ∧
                                bs x'.val.d.snap =
                                  bs
                                   (((((x_1.val.x.d.append (snaps.getD x_1.val.x.i.toNat [])).fst.stop
                                             (wi x_1.val.p (3 : Int))).swap
                                           (snaps.getD x_1.val.x.i.toNat [])).fst.append
                                        [UInt8.ofNat (109 : Nat), UInt8.ofNat (111 : Nat), UInt8.ofNat (114 : Nat),
                                         UInt8.ofNat (101 : Nat)]).fst.crash
                                     (IntKind.i64.wrap (x_1.val.p.tdiv (3 : Int)))).snap ∧
                                 x'.val.d.room =
                                   (((((x_1.val.x.d.append (snaps.getD x_1.val.x.i.toNat [])).fst.stop
                                             (wi x_1.val.p (3 : Int))).swap
                                           (snaps.getD x_1.val.x.i.toNat [])).fst.append
                                        [UInt8.ofNat (109 : Nat), UInt8.ofNat (111 : Nat), UInt8.ofNat (114 : Nat),
                                         UInt8.ofNat (101 : Nat)]).fst.crash
                                     (IntKind.i64.wrap (x_1.val.p.tdiv (3 : Int)))).room ∧
                                  True) ∧
                          True) ∧
                         True))
                    False)
                   False)
                  False))
                (branch
                 ((S3 pD s23l).pre
                  (Lv.mk
                   (((x_1.val.x.d.append (snaps.getD x_1.val.x.i.toNat [])).fst.stop (wi x_1.val.p (3 : Int))).swap
                     (snaps.getD x_1.val.x.i.toNat [])).fst
                   [UInt8.ofNat (109 : Nat), UInt8.ofNat (111 : Nat), UInt8.ofNat (114 : Nat), UInt8.ofNat (101 : Nat)]
                   (0 : Nat) (4 : Nat) (Cap.exact (4 : Nat))))
                 (branch
                  ((S1 DSt.fine s28).pre
                   (((((x_1.val.x.d.append (snaps.getD x_1.val.x.i.toNat [])).fst.stop (wi x_1.val.p (3 : Int))).swap
                         (snaps.getD x_1.val.x.i.toNat [])).fst.append
                      [UInt8.ofNat (109 : Nat), UInt8.ofNat (111 : Nat), UInt8.ofNat (114 : Nat),
                       UInt8.ofNat (101 : Nat)]).fst,
                    IntKind.i64.wrap (x_1.val.p.tdiv (3 : Int))))
                  (branch
                   ((S0 DSt.fine s26).pre
                    (DSt.mk
                     (((((x_1.val.x.d.append (snaps.getD x_1.val.x.i.toNat [])).fst.stop (wi x_1.val.p (3 : Int))).swap
                             (snaps.getD x_1.val.x.i.toNat [])).fst.append
                          [UInt8.ofNat (109 : Nat), UInt8.ofNat (111 : Nat), UInt8.ofNat (114 : Nat),
                           UInt8.ofNat (101 : Nat)]).fst.crash
                       (IntKind.i64.wrap (x_1.val.p.tdiv (3 : Int)))).left
                     (((((x_1.val.x.d.append (snaps.getD x_1.val.x.i.toNat [])).fst.stop (wi x_1.val.p (3 : Int))).swap
                             (snaps.getD x_1.val.x.i.toNat [])).fst.append
                          [UInt8.ofNat (109 : Nat), UInt8.ofNat (111 : Nat), UInt8.ofNat (114 : Nat),
                           UInt8.ofNat (101 : Nat)]).fst.crash
                       (IntKind.i64.wrap (x_1.val.p.tdiv (3 : Int)))).odd
                     (((((x_1.val.x.d.append (snaps.getD x_1.val.x.i.toNat [])).fst.stop (wi x_1.val.p (3 : Int))).swap
                             (snaps.getD x_1.val.x.i.toNat [])).fst.append
                          [UInt8.ofNat (109 : Nat), UInt8.ofNat (111 : Nat), UInt8.ofNat (114 : Nat),
                           UInt8.ofNat (101 : Nat)]).fst.crash
                       (IntKind.i64.wrap (x_1.val.p.tdiv (3 : Int)))).done
                     false
                     (((((x_1.val.x.d.append (snaps.getD x_1.val.x.i.toNat [])).fst.stop (wi x_1.val.p (3 : Int))).swap
                             (snaps.getD x_1.val.x.i.toNat [])).fst.append
                          [UInt8.ofNat (109 : Nat), UInt8.ofNat (111 : Nat), UInt8.ofNat (114 : Nat),
                           UInt8.ofNat (101 : Nat)]).fst.crash
                       (IntKind.i64.wrap (x_1.val.p.tdiv (3 : Int)))).log
                     (((((x_1.val.x.d.append (snaps.getD x_1.val.x.i.toNat [])).fst.stop (wi x_1.val.p (3 : Int))).swap
                             (snaps.getD x_1.val.x.i.toNat [])).fst.append
                          [UInt8.ofNat (109 : Nat), UInt8.ofNat (111 : Nat), UInt8.ofNat (114 : Nat),
                           UInt8.ofNat (101 : Nat)]).fst.crash
                       (IntKind.i64.wrap (x_1.val.p.tdiv (3 : Int)))).synced
                     (((((x_1.val.x.d.append (snaps.getD x_1.val.x.i.toNat [])).fst.stop (wi x_1.val.p (3 : Int))).swap
                             (snaps.getD x_1.val.x.i.toNat [])).fst.append
                          [UInt8.ofNat (109 : Nat), UInt8.ofNat (111 : Nat), UInt8.ofNat (114 : Nat),
                           UInt8.ofNat (101 : Nat)]).fst.crash
                       (IntKind.i64.wrap (x_1.val.p.tdiv (3 : Int)))).snap
                     (((((x_1.val.x.d.append (snaps.getD x_1.val.x.i.toNat [])).fst.stop (wi x_1.val.p (3 : Int))).swap
                             (snaps.getD x_1.val.x.i.toNat [])).fst.append
                          [UInt8.ofNat (109 : Nat), UInt8.ofNat (111 : Nat), UInt8.ofNat (114 : Nat),
                           UInt8.ofNat (101 : Nat)]).fst.crash
                       (IntKind.i64.wrap (x_1.val.p.tdiv (3 : Int)))).room))
                   (branch
                    (!(((((x_1.val.x.d.append (snaps.getD x_1.val.x.i.toNat [])).fst.stop (wi x_1.val.p (3 : Int))).swap
                              (snaps.getD x_1.val.x.i.toNat [])).fst.append
                           [UInt8.ofNat (109 : Nat), UInt8.ofNat (111 : Nat), UInt8.ofNat (114 : Nat),
                            UInt8.ofNat (101 : Nat)]).fst.crash
                        (IntKind.i64.wrap (x_1.val.p.tdiv (3 : Int)))).snap ==
                      snaps.getD x_1.val.x.i.toNat [])
                    (false = true)
                    (∃ (x' : { x : R9 // P9 x }),
                     ((15 : Int) - x'.val.i).toNat < ((15 : Int) - x.val.i).toNat ∧
                      (ls snaps = ls snaps ∧
                        is picks = is picks ∧
                         ((0 : Nat) = (0 : Nat) ∧ (0 : Nat) = (0 : Nat)) ∧
                          x'.val.last = snaps.getD x_1.val.x.i.toNat [] ∧
                           x'.val.i = IntKind.i64.wrap (x_1.val.x.i + (1 : Int)) ∧ True) ∧
                       ((x'.val.d.left =
                           (((((x_1.val.x.d.append (snaps.getD x_1.val.x.i.toNat [])).fst.stop
                                     (wi x_1.val.p (3 : Int))).swap
                                   (snaps.getD x_1.val.x.i.toNat [])).fst.append
                                [UInt8.ofNat (109 : Nat), UInt8.ofNat (111 : Nat), UInt8.ofNat (114 : Nat),
                                 UInt8.ofNat (101 : Nat)]).fst.crash
                             (IntKind.i64.wrap (x_1.val.p.tdiv (3 : Int)))).left ∧
                          x'.val.d.odd =
                            (((((x_1.val.x.d.append (snaps.getD x_1.val.x.i.toNat [])).fst.stop
                                      (wi x_1.val.p (3 : Int))).swap
                                    (snaps.getD x_1.val.x.i.toNat [])).fst.append
                                 [UInt8.ofNat (109 : Nat), UInt8.ofNat (111 : Nat), UInt8.ofNat (114 : Nat),
                                  UInt8.ofNat (101 : Nat)]).fst.crash
                              (IntKind.i64.wrap (x_1.val.p.tdiv (3 : Int)))).odd ∧
                           x'.val.d.done =
                             (((((x_1.val.x.d.append (snaps.getD x_1.val.x.i.toNat [])).fst.stop
                                       (wi x_1.val.p (3 : Int))).swap
                                     (snaps.getD x_1.val.x.i.toNat [])).fst.append
                                  [UInt8.ofNat (109 : Nat), UInt8.ofNat (111 : Nat), UInt8.ofNat (114 : Nat),
                                   UInt8.ofNat (101 : Nat)]).fst.crash
                               (IntKind.i64.wrap (x_1.val.p.tdiv (3 : Int)))).done ∧
                            x'.val.d.dead = false ∧
                             bs x'.val.d.log =
                               bs
                                (((((x_1.val.x.d.append (snaps.getD x_1.val.x.i.toNat [])).fst.stop
                                          (wi x_1.val.p (3 : Int))).swap
                                        (snaps.getD x_1.val.x.i.toNat [])).fst.append
                                     [UInt8.ofNat (109 : Nat), UInt8.ofNat (111 : Nat), UInt8.ofNat (114 : Nat),
                                      UInt8.ofNat (101 : Nat)]).fst.crash
                                  (IntKind.i64.wrap (x_1.val.p.tdiv (3 : Int)))).log ∧
                              x'.val.d.synced =
                                (((((x_1.val.x.d.append (snaps.getD x_1.val.x.i.toNat [])).fst.stop
                                          (wi x_1.val.p (3 : Int))).swap
                                        (snaps.getD x_1.val.x.i.toNat [])).fst.append
                                     [UInt8.ofNat (109 : Nat), UInt8.ofNat (111 : Nat), UInt8.ofNat (114 : Nat),
                                      UInt8.ofNat (101 : Nat)]).fst.crash
                                  (IntKind.i64.wrap (x_1.val.p.tdiv (3 : Int)))).synced ∧
                               bs x'.val.d.snap =
                                 bs
                                  (((((x_1.val.x.d.append (snaps.getD x_1.val.x.i.toNat [])).fst.stop
                                            (wi x_1.val.p (3 : Int))).swap
                                          (snaps.getD x_1.val.x.i.toNat [])).fst.append
                                       [UInt8.ofNat (109 : Nat), UInt8.ofNat (111 : Nat), UInt8.ofNat (114 : Nat),
                                        UInt8.ofNat (101 : Nat)]).fst.crash
                                    (IntKind.i64.wrap (x_1.val.p.tdiv (3 : Int)))).snap ∧
                                x'.val.d.room =
                                  (((((x_1.val.x.d.append (snaps.getD x_1.val.x.i.toNat [])).fst.stop
                                            (wi x_1.val.p (3 : Int))).swap
                                          (snaps.getD x_1.val.x.i.toNat [])).fst.append
                                       [UInt8.ofNat (109 : Nat), UInt8.ofNat (111 : Nat), UInt8.ofNat (114 : Nat),
                                        UInt8.ofNat (101 : Nat)]).fst.crash
                                    (IntKind.i64.wrap (x_1.val.p.tdiv (3 : Int)))).room ∧
                                 True) ∧
                         True) ∧
                        True))
                   False)
                  False)
                 False)))
              False)
             (branch (wi x_1.val.p (3 : Int) == (2 : Int))
              (branch (decide ((0 : Int) ≤ x_1.val.x.i) && decide (x_1.val.x.i < (↑snaps.length : Int)) && true && true)
               (branch (wi x_1.val.p (3 : Int) == (1 : Int))
                (branch
                 ((((x_1.val.x.d.append (snaps.getD x_1.val.x.i.toNat [])).fst.stop (wi x_1.val.p (3 : Int))).swap
                    (snaps.getD x_1.val.x.i.toNat [])).snd !=
                  (17 : Int))
                 (false = true)
                 (branch (wi x_1.val.p (3 : Int) != (1 : Int))
                  (branch
                   ((((x_1.val.x.d.append (snaps.getD x_1.val.x.i.toNat [])).fst.stop (wi x_1.val.p (3 : Int))).swap
                      (snaps.getD x_1.val.x.i.toNat [])).snd !=
                    (0 : Int))
                   (false = true)
                   (branch
                    ((S3 pD s23l).pre
                     (Lv.mk
                      (((x_1.val.x.d.append (snaps.getD x_1.val.x.i.toNat [])).fst.stop (wi x_1.val.p (3 : Int))).swap
                        (snaps.getD x_1.val.x.i.toNat [])).fst
                      [UInt8.ofNat (109 : Nat), UInt8.ofNat (111 : Nat), UInt8.ofNat (114 : Nat),
                       UInt8.ofNat (101 : Nat)]
                      (0 : Nat) (4 : Nat) (Cap.exact (4 : Nat))))
                    (branch
                     ((S1 DSt.fine s28).pre
                      (((((x_1.val.x.d.append (snaps.getD x_1.val.x.i.toNat [])).fst.stop (wi x_1.val.p (3 : Int))).swap
                            (snaps.getD x_1.val.x.i.toNat [])).fst.append
                         [UInt8.ofNat (109 : Nat), UInt8.ofNat (111 : Nat), UInt8.ofNat (114 : Nat),
                          UInt8.ofNat (101 : Nat)]).fst,
                       IntKind.i64.wrap (x_1.val.p.tdiv (3 : Int))))
                     (branch
                      ((S0 DSt.fine s26).pre
                       (DSt.mk
                        (((((x_1.val.x.d.append (snaps.getD x_1.val.x.i.toNat [])).fst.stop
                                  (wi x_1.val.p (3 : Int))).swap
                                (snaps.getD x_1.val.x.i.toNat [])).fst.append
                             [UInt8.ofNat (109 : Nat), UInt8.ofNat (111 : Nat), UInt8.ofNat (114 : Nat),
                              UInt8.ofNat (101 : Nat)]).fst.crash
                          (IntKind.i64.wrap (x_1.val.p.tdiv (3 : Int)))).left
                        (((((x_1.val.x.d.append (snaps.getD x_1.val.x.i.toNat [])).fst.stop
                                  (wi x_1.val.p (3 : Int))).swap
                                (snaps.getD x_1.val.x.i.toNat [])).fst.append
                             [UInt8.ofNat (109 : Nat), UInt8.ofNat (111 : Nat), UInt8.ofNat (114 : Nat),
                              UInt8.ofNat (101 : Nat)]).fst.crash
                          (IntKind.i64.wrap (x_1.val.p.tdiv (3 : Int)))).odd
                        (((((x_1.val.x.d.append (snaps.getD x_1.val.x.i.toNat [])).fst.stop
                                  (wi x_1.val.p (3 : Int))).swap
                                (snaps.getD x_1.val.x.i.toNat [])).fst.append
                             [UInt8.ofNat (109 : Nat), UInt8.ofNat (111 : Nat), UInt8.ofNat (114 : Nat),
                              UInt8.ofNat (101 : Nat)]).fst.crash
                          (IntKind.i64.wrap (x_1.val.p.tdiv (3 : Int)))).done
                        false
                        (((((x_1.val.x.d.append (snaps.getD x_1.val.x.i.toNat [])).fst.stop
                                  (wi x_1.val.p (3 : Int))).swap
                                (snaps.getD x_1.val.x.i.toNat [])).fst.append
                             [UInt8.ofNat (109 : Nat), UInt8.ofNat (111 : Nat), UInt8.ofNat (114 : Nat),
                              UInt8.ofNat (101 : Nat)]).fst.crash
                          (IntKind.i64.wrap (x_1.val.p.tdiv (3 : Int)))).log
                        (((((x_1.val.x.d.append (snaps.getD x_1.val.x.i.toNat [])).fst.stop
                                  (wi x_1.val.p (3 : Int))).swap
                                (snaps.getD x_1.val.x.i.toNat [])).fst.append
                             [UInt8.ofNat (109 : Nat), UInt8.ofNat (111 : Nat), UInt8.ofNat (114 : Nat),
                              UInt8.ofNat (101 : Nat)]).fst.crash
                          (IntKind.i64.wrap (x_1.val.p.tdiv (3 : Int)))).synced
                        (((((x_1.val.x.d.append (snaps.getD x_1.val.x.i.toNat [])).fst.stop
                                  (wi x_1.val.p (3 : Int))).swap
                                (snaps.getD x_1.val.x.i.toNat [])).fst.append
                             [UInt8.ofNat (109 : Nat), UInt8.ofNat (111 : Nat), UInt8.ofNat (114 : Nat),
                              UInt8.ofNat (101 : Nat)]).fst.crash
                          (IntKind.i64.wrap (x_1.val.p.tdiv (3 : Int)))).snap
                        (((((x_1.val.x.d.append (snaps.getD x_1.val.x.i.toNat [])).fst.stop
                                  (wi x_1.val.p (3 : Int))).swap
                                (snaps.getD x_1.val.x.i.toNat [])).fst.append
                             [UInt8.ofNat (109 : Nat), UInt8.ofNat (111 : Nat), UInt8.ofNat (114 : Nat),
                              UInt8.ofNat (101 : Nat)]).fst.crash
                          (IntKind.i64.wrap (x_1.val.p.tdiv (3 : Int)))).room))
                      (branch
                       (!(((((x_1.val.x.d.append (snaps.getD x_1.val.x.i.toNat [])).fst.stop
                                   (wi x_1.val.p (3 : Int))).swap
                                 (snaps.getD x_1.val.x.i.toNat [])).fst.append
                              [UInt8.ofNat (109 : Nat), UInt8.ofNat (111 : Nat), UInt8.ofNat (114 : Nat),
                               UInt8.ofNat (101 : Nat)]).fst.crash
                           (IntKind.i64.wrap (x_1.val.p.tdiv (3 : Int)))).snap ==
                         snaps.getD x_1.val.x.i.toNat [])
                       (false = true)
                       (∃ (x' : { x : R9 // P9 x }),
                        ((15 : Int) - x'.val.i).toNat < ((15 : Int) - x.val.i).toNat ∧
                         (ls snaps = ls snaps ∧
                           is picks = is picks ∧
                            ((0 : Nat) = (0 : Nat) ∧ (0 : Nat) = (0 : Nat)) ∧
                             x'.val.last = snaps.getD x_1.val.x.i.toNat [] ∧
                              x'.val.i = IntKind.i64.wrap (x_1.val.x.i + (1 : Int)) ∧ True) ∧
                          ((x'.val.d.left =
                              (((((x_1.val.x.d.append (snaps.getD x_1.val.x.i.toNat [])).fst.stop
                                        (wi x_1.val.p (3 : Int))).swap
                                      (snaps.getD x_1.val.x.i.toNat [])).fst.append
                                   [UInt8.ofNat (109 : Nat), UInt8.ofNat (111 : Nat), UInt8.ofNat (114 : Nat),
                                    UInt8.ofNat (101 : Nat)]).fst.crash
                                (IntKind.i64.wrap (x_1.val.p.tdiv (3 : Int)))).left ∧
                             x'.val.d.odd =
                               (((((x_1.val.x.d.append (snaps.getD x_1.val.x.i.toNat [])).fst.stop
                                         (wi x_1.val.p (3 : Int))).swap
                                       (snaps.getD x_1.val.x.i.toNat [])).fst.append
                                    [UInt8.ofNat (109 : Nat), UInt8.ofNat (111 : Nat), UInt8.ofNat (114 : Nat),
                                     UInt8.ofNat (101 : Nat)]).fst.crash
                                 (IntKind.i64.wrap (x_1.val.p.tdiv (3 : Int)))).odd ∧
                              x'.val.d.done =
                                (((((x_1.val.x.d.append (snaps.getD x_1.val.x.i.toNat [])).fst.stop
                                          (wi x_1.val.p (3 : Int))).swap
                                        (snaps.getD x_1.val.x.i.toNat [])).fst.append
                                     [UInt8.ofNat (109 : Nat), UInt8.ofNat (111 : Nat), UInt8.ofNat (114 : Nat),
                                      UInt8.ofNat (101 : Nat)]).fst.crash
                                  (IntKind.i64.wrap (x_1.val.p.tdiv (3 : Int)))).done ∧
                               x'.val.d.dead = false ∧
                                bs x'.val.d.log =
                                  bs
                                   (((((x_1.val.x.d.append (snaps.getD x_1.val.x.i.toNat [])).fst.stop
                                             (wi x_1.val.p (3 : Int))).swap
                                           (snaps.getD x_1.val.x.i.toNat [])).fst.append
                                        [UInt8.ofNat (109 : Nat), UInt8.ofNat (111 : Nat), UInt8.ofNat (114 : Nat),
                                         UInt8.ofNat (101 : Nat)]).fst.crash
                                     (IntKind.i64.wrap (x_1.val.p.tdiv (3 : Int)))).log ∧
                                 x'.val.d.synced =
                                   (((((x_1.val.x.d.append (snaps.getD x_1.val.x.i.toNat [])).fst.stop
                                             (wi x_1.val.p (3 : Int))).swap
                                           (snaps.getD x_1.val.x.i.toNat [])).fst.append
                                        [UInt8.ofNat (109 : Nat), UInt8.ofNat (111 : Nat), UInt8.ofNat (114 : Nat),
                                         UInt8.ofNat (101 : Nat)]).fst.crash
                                     (IntKind.i64.wrap (x_1.val.p.tdiv (3 : Int)))).synced ∧
                                  bs x'.val.d.snap =
                                    bs
                                     (((((x_1.val.x.d.append (snaps.getD x_1.val.x.i.toNat [])).fst.stop
                                               (wi x_1.val.p (3 : Int))).swap
                                             (snaps.getD x_1.val.x.i.toNat [])).fst.append
                                          [UInt8.ofNat (109 : Nat), UInt8.ofNat (111 : Nat), UInt8.ofNat (114 : Nat),
                                           UInt8.ofNat (101 : Nat)]).fst.crash
                                       (IntKind.i64.wrap (x_1.val.p.tdiv (3 : Int)))).snap ∧
                                   x'.val.d.room =
                                     (((((x_1.val.x.d.append (snaps.getD x_1.val.x.i.toNat [])).fst.stop
                                               (wi x_1.val.p (3 : Int))).swap
                                             (snaps.getD x_1.val.x.i.toNat [])).fst.append
                                          [UInt8.ofNat (109 : Nat), UInt8.ofNat (111 : Nat), UInt8.ofNat (114 : Nat),
                                           UInt8.ofNat (101 : Nat)]).fst.crash
                                       (IntKind.i64.wrap (x_1.val.p.tdiv (3 : Int)))).room ∧
                                    True) ∧
                            True) ∧
                           True))
                      False)
                     False)
                    False))
                  (branch
                   ((S3 pD s23l).pre
                    (Lv.mk
                     (((x_1.val.x.d.append (snaps.getD x_1.val.x.i.toNat [])).fst.stop (wi x_1.val.p (3 : Int))).swap
                       (snaps.getD x_1.val.x.i.toNat [])).fst
                     [UInt8.ofNat (109 : Nat), UInt8.ofNat (111 : Nat), UInt8.ofNat (114 : Nat),
                      UInt8.ofNat (101 : Nat)]
                     (0 : Nat) (4 : Nat) (Cap.exact (4 : Nat))))
                   (branch
                    ((S1 DSt.fine s28).pre
                     (((((x_1.val.x.d.append (snaps.getD x_1.val.x.i.toNat [])).fst.stop (wi x_1.val.p (3 : Int))).swap
                           (snaps.getD x_1.val.x.i.toNat [])).fst.append
                        [UInt8.ofNat (109 : Nat), UInt8.ofNat (111 : Nat), UInt8.ofNat (114 : Nat),
                         UInt8.ofNat (101 : Nat)]).fst,
                      IntKind.i64.wrap (x_1.val.p.tdiv (3 : Int))))
                    (branch
                     ((S0 DSt.fine s26).pre
                      (DSt.mk
                       (((((x_1.val.x.d.append (snaps.getD x_1.val.x.i.toNat [])).fst.stop
                                 (wi x_1.val.p (3 : Int))).swap
                               (snaps.getD x_1.val.x.i.toNat [])).fst.append
                            [UInt8.ofNat (109 : Nat), UInt8.ofNat (111 : Nat), UInt8.ofNat (114 : Nat),
                             UInt8.ofNat (101 : Nat)]).fst.crash
                         (IntKind.i64.wrap (x_1.val.p.tdiv (3 : Int)))).left
                       (((((x_1.val.x.d.append (snaps.getD x_1.val.x.i.toNat [])).fst.stop
                                 (wi x_1.val.p (3 : Int))).swap
                               (snaps.getD x_1.val.x.i.toNat [])).fst.append
                            [UInt8.ofNat (109 : Nat), UInt8.ofNat (111 : Nat), UInt8.ofNat (114 : Nat),
                             UInt8.ofNat (101 : Nat)]).fst.crash
                         (IntKind.i64.wrap (x_1.val.p.tdiv (3 : Int)))).odd
                       (((((x_1.val.x.d.append (snaps.getD x_1.val.x.i.toNat [])).fst.stop
                                 (wi x_1.val.p (3 : Int))).swap
                               (snaps.getD x_1.val.x.i.toNat [])).fst.append
                            [UInt8.ofNat (109 : Nat), UInt8.ofNat (111 : Nat), UInt8.ofNat (114 : Nat),
                             UInt8.ofNat (101 : Nat)]).fst.crash
                         (IntKind.i64.wrap (x_1.val.p.tdiv (3 : Int)))).done
                       false
                       (((((x_1.val.x.d.append (snaps.getD x_1.val.x.i.toNat [])).fst.stop
                                 (wi x_1.val.p (3 : Int))).swap
                               (snaps.getD x_1.val.x.i.toNat [])).fst.append
                            [UInt8.ofNat (109 : Nat), UInt8.ofNat (111 : Nat), UInt8.ofNat (114 : Nat),
                             UInt8.ofNat (101 : Nat)]).fst.crash
                         (IntKind.i64.wrap (x_1.val.p.tdiv (3 : Int)))).log
                       (((((x_1.val.x.d.append (snaps.getD x_1.val.x.i.toNat [])).fst.stop
                                 (wi x_1.val.p (3 : Int))).swap
                               (snaps.getD x_1.val.x.i.toNat [])).fst.append
                            [UInt8.ofNat (109 : Nat), UInt8.ofNat (111 : Nat), UInt8.ofNat (114 : Nat),
                             UInt8.ofNat (101 : Nat)]).fst.crash
                         (IntKind.i64.wrap (x_1.val.p.tdiv (3 : Int)))).synced
                       (((((x_1.val.x.d.append (snaps.getD x_1.val.x.i.toNat [])).fst.stop
                                 (wi x_1.val.p (3 : Int))).swap
                               (snaps.getD x_1.val.x.i.toNat [])).fst.append
                            [UInt8.ofNat (109 : Nat), UInt8.ofNat (111 : Nat), UInt8.ofNat (114 : Nat),
                             UInt8.ofNat (101 : Nat)]).fst.crash
                         (IntKind.i64.wrap (x_1.val.p.tdiv (3 : Int)))).snap
                       (((((x_1.val.x.d.append (snaps.getD x_1.val.x.i.toNat [])).fst.stop
                                 (wi x_1.val.p (3 : Int))).swap
                               (snaps.getD x_1.val.x.i.toNat [])).fst.append
                            [UInt8.ofNat (109 : Nat), UInt8.ofNat (111 : Nat), UInt8.ofNat (114 : Nat),
                             UInt8.ofNat (101 : Nat)]).fst.crash
                         (IntKind.i64.wrap (x_1.val.p.tdiv (3 : Int)))).room))
                     (branch
                      (!(((((x_1.val.x.d.append (snaps.getD x_1.val.x.i.toNat [])).fst.stop
                                  (wi x_1.val.p (3 : Int))).swap
                                (snaps.getD x_1.val.x.i.toNat [])).fst.append
                             [UInt8.ofNat (109 : Nat), UInt8.ofNat (111 : Nat), UInt8.ofNat (114 : Nat),
                              UInt8.ofNat (101 : Nat)]).fst.crash
                          (IntKind.i64.wrap (x_1.val.p.tdiv (3 : Int)))).snap ==
                        snaps.getD x_1.val.x.i.toNat [])
                      (false = true)
                      (∃ (x' : { x : R9 // P9 x }),
                       ((15 : Int) - x'.val.i).toNat < ((15 : Int) - x.val.i).toNat ∧
                        (ls snaps = ls snaps ∧
                          is picks = is picks ∧
                           ((0 : Nat) = (0 : Nat) ∧ (0 : Nat) = (0 : Nat)) ∧
                            x'.val.last = snaps.getD x_1.val.x.i.toNat [] ∧
                             x'.val.i = IntKind.i64.wrap (x_1.val.x.i + (1 : Int)) ∧ True) ∧
                         ((x'.val.d.left =
                             (((((x_1.val.x.d.append (snaps.getD x_1.val.x.i.toNat [])).fst.stop
                                       (wi x_1.val.p (3 : Int))).swap
                                     (snaps.getD x_1.val.x.i.toNat [])).fst.append
                                  [UInt8.ofNat (109 : Nat), UInt8.ofNat (111 : Nat), UInt8.ofNat (114 : Nat),
                                   UInt8.ofNat (101 : Nat)]).fst.crash
                               (IntKind.i64.wrap (x_1.val.p.tdiv (3 : Int)))).left ∧
                            x'.val.d.odd =
                              (((((x_1.val.x.d.append (snaps.getD x_1.val.x.i.toNat [])).fst.stop
                                        (wi x_1.val.p (3 : Int))).swap
                                      (snaps.getD x_1.val.x.i.toNat [])).fst.append
                                   [UInt8.ofNat (109 : Nat), UInt8.ofNat (111 : Nat), UInt8.ofNat (114 : Nat),
                                    UInt8.ofNat (101 : Nat)]).fst.crash
                                (IntKind.i64.wrap (x_1.val.p.tdiv (3 : Int)))).odd ∧
                             x'.val.d.done =
                               (((((x_1.val.x.d.append (snaps.getD x_1.val.x.i.toNat [])).fst.stop
                                         (wi x_1.val.p (3 : Int))).swap
                                       (snaps.getD x_1.val.x.i.toNat [])).fst.append
                                    [UInt8.ofNat (109 : Nat), UInt8.ofNat (111 : Nat), UInt8.ofNat (114 : Nat),
                                     UInt8.ofNat (101 : Nat)]).fst.crash
                                 (IntKind.i64.wrap (x_1.val.p.tdiv (3 : Int)))).done ∧
                              x'.val.d.dead = false ∧
                               bs x'.val.d.log =
                                 bs
                                  (((((x_1.val.x.d.append (snaps.getD x_1.val.x.i.toNat [])).fst.stop
                                            (wi x_1.val.p (3 : Int))).swap
                                          (snaps.getD x_1.val.x.i.toNat [])).fst.append
                                       [UInt8.ofNat (109 : Nat), UInt8.ofNat (111 : Nat), UInt8.ofNat (114 : Nat),
                                        UInt8.ofNat (101 : Nat)]).fst.crash
                                    (IntKind.i64.wrap (x_1.val.p.tdiv (3 : Int)))).log ∧
                                x'.val.d.synced =
                                  (((((x_1.val.x.d.append (snaps.getD x_1.val.x.i.toNat [])).fst.stop
                                            (wi x_1.val.p (3 : Int))).swap
                                          (snaps.getD x_1.val.x.i.toNat [])).fst.append
                                       [UInt8.ofNat (109 : Nat), UInt8.ofNat (111 : Nat), UInt8.ofNat (114 : Nat),
                                        UInt8.ofNat (101 : Nat)]).fst.crash
                                    (IntKind.i64.wrap (x_1.val.p.tdiv (3 : Int)))).synced ∧
                                 bs x'.val.d.snap =
                                   bs
                                    (((((x_1.val.x.d.append (snaps.getD x_1.val.x.i.toNat [])).fst.stop
                                              (wi x_1.val.p (3 : Int))).swap
                                            (snaps.getD x_1.val.x.i.toNat [])).fst.append
                                         [UInt8.ofNat (109 : Nat), UInt8.ofNat (111 : Nat), UInt8.ofNat (114 : Nat),
                                          UInt8.ofNat (101 : Nat)]).fst.crash
                                      (IntKind.i64.wrap (x_1.val.p.tdiv (3 : Int)))).snap ∧
                                  x'.val.d.room =
                                    (((((x_1.val.x.d.append (snaps.getD x_1.val.x.i.toNat [])).fst.stop
                                              (wi x_1.val.p (3 : Int))).swap
                                            (snaps.getD x_1.val.x.i.toNat [])).fst.append
                                         [UInt8.ofNat (109 : Nat), UInt8.ofNat (111 : Nat), UInt8.ofNat (114 : Nat),
                                          UInt8.ofNat (101 : Nat)]).fst.crash
                                      (IntKind.i64.wrap (x_1.val.p.tdiv (3 : Int)))).room ∧
                                   True) ∧
                           True) ∧
                          True))
                     False)
                    False)
                   False)))
                (branch (wi x_1.val.p (3 : Int) != (1 : Int))
                 (branch
                  ((((x_1.val.x.d.append (snaps.getD x_1.val.x.i.toNat [])).fst.stop (wi x_1.val.p (3 : Int))).swap
                     (snaps.getD x_1.val.x.i.toNat [])).snd !=
                   (0 : Int))
                  (false = true)
                  (branch
                   ((S3 pD s23l).pre
                    (Lv.mk
                     (((x_1.val.x.d.append (snaps.getD x_1.val.x.i.toNat [])).fst.stop (wi x_1.val.p (3 : Int))).swap
                       (snaps.getD x_1.val.x.i.toNat [])).fst
                     [UInt8.ofNat (109 : Nat), UInt8.ofNat (111 : Nat), UInt8.ofNat (114 : Nat),
                      UInt8.ofNat (101 : Nat)]
                     (0 : Nat) (4 : Nat) (Cap.exact (4 : Nat))))
                   (branch
                    ((S1 DSt.fine s28).pre
                     (((((x_1.val.x.d.append (snaps.getD x_1.val.x.i.toNat [])).fst.stop (wi x_1.val.p (3 : Int))).swap
                           (snaps.getD x_1.val.x.i.toNat [])).fst.append
                        [UInt8.ofNat (109 : Nat), UInt8.ofNat (111 : Nat), UInt8.ofNat (114 : Nat),
                         UInt8.ofNat (101 : Nat)]).fst,
                      IntKind.i64.wrap (x_1.val.p.tdiv (3 : Int))))
                    (branch
                     ((S0 DSt.fine s26).pre
                      (DSt.mk
                       (((((x_1.val.x.d.append (snaps.getD x_1.val.x.i.toNat [])).fst.stop
                                 (wi x_1.val.p (3 : Int))).swap
                               (snaps.getD x_1.val.x.i.toNat [])).fst.append
                            [UInt8.ofNat (109 : Nat), UInt8.ofNat (111 : Nat), UInt8.ofNat (114 : Nat),
                             UInt8.ofNat (101 : Nat)]).fst.crash
                         (IntKind.i64.wrap (x_1.val.p.tdiv (3 : Int)))).left
                       (((((x_1.val.x.d.append (snaps.getD x_1.val.x.i.toNat [])).fst.stop
                                 (wi x_1.val.p (3 : Int))).swap
                               (snaps.getD x_1.val.x.i.toNat [])).fst.append
                            [UInt8.ofNat (109 : Nat), UInt8.ofNat (111 : Nat), UInt8.ofNat (114 : Nat),
                             UInt8.ofNat (101 : Nat)]).fst.crash
                         (IntKind.i64.wrap (x_1.val.p.tdiv (3 : Int)))).odd
                       (((((x_1.val.x.d.append (snaps.getD x_1.val.x.i.toNat [])).fst.stop
                                 (wi x_1.val.p (3 : Int))).swap
                               (snaps.getD x_1.val.x.i.toNat [])).fst.append
                            [UInt8.ofNat (109 : Nat), UInt8.ofNat (111 : Nat), UInt8.ofNat (114 : Nat),
                             UInt8.ofNat (101 : Nat)]).fst.crash
                         (IntKind.i64.wrap (x_1.val.p.tdiv (3 : Int)))).done
                       false
                       (((((x_1.val.x.d.append (snaps.getD x_1.val.x.i.toNat [])).fst.stop
                                 (wi x_1.val.p (3 : Int))).swap
                               (snaps.getD x_1.val.x.i.toNat [])).fst.append
                            [UInt8.ofNat (109 : Nat), UInt8.ofNat (111 : Nat), UInt8.ofNat (114 : Nat),
                             UInt8.ofNat (101 : Nat)]).fst.crash
                         (IntKind.i64.wrap (x_1.val.p.tdiv (3 : Int)))).log
                       (((((x_1.val.x.d.append (snaps.getD x_1.val.x.i.toNat [])).fst.stop
                                 (wi x_1.val.p (3 : Int))).swap
                               (snaps.getD x_1.val.x.i.toNat [])).fst.append
                            [UInt8.ofNat (109 : Nat), UInt8.ofNat (111 : Nat), UInt8.ofNat (114 : Nat),
                             UInt8.ofNat (101 : Nat)]).fst.crash
                         (IntKind.i64.wrap (x_1.val.p.tdiv (3 : Int)))).synced
                       (((((x_1.val.x.d.append (snaps.getD x_1.val.x.i.toNat [])).fst.stop
                                 (wi x_1.val.p (3 : Int))).swap
                               (snaps.getD x_1.val.x.i.toNat [])).fst.append
                            [UInt8.ofNat (109 : Nat), UInt8.ofNat (111 : Nat), UInt8.ofNat (114 : Nat),
                             UInt8.ofNat (101 : Nat)]).fst.crash
                         (IntKind.i64.wrap (x_1.val.p.tdiv (3 : Int)))).snap
                       (((((x_1.val.x.d.append (snaps.getD x_1.val.x.i.toNat [])).fst.stop
                                 (wi x_1.val.p (3 : Int))).swap
                               (snaps.getD x_1.val.x.i.toNat [])).fst.append
                            [UInt8.ofNat (109 : Nat), UInt8.ofNat (111 : Nat), UInt8.ofNat (114 : Nat),
                             UInt8.ofNat (101 : Nat)]).fst.crash
                         (IntKind.i64.wrap (x_1.val.p.tdiv (3 : Int)))).room))
                     (branch
                      (!(((((x_1.val.x.d.append (snaps.getD x_1.val.x.i.toNat [])).fst.stop
                                  (wi x_1.val.p (3 : Int))).swap
                                (snaps.getD x_1.val.x.i.toNat [])).fst.append
                             [UInt8.ofNat (109 : Nat), UInt8.ofNat (111 : Nat), UInt8.ofNat (114 : Nat),
                              UInt8.ofNat (101 : Nat)]).fst.crash
                          (IntKind.i64.wrap (x_1.val.p.tdiv (3 : Int)))).snap ==
                        snaps.getD x_1.val.x.i.toNat [])
                      (false = true)
                      (∃ (x' : { x : R9 // P9 x }),
                       ((15 : Int) - x'.val.i).toNat < ((15 : Int) - x.val.i).toNat ∧
                        (ls snaps = ls snaps ∧
                          is picks = is picks ∧
                           ((0 : Nat) = (0 : Nat) ∧ (0 : Nat) = (0 : Nat)) ∧
                            x'.val.last = snaps.getD x_1.val.x.i.toNat [] ∧
                             x'.val.i = IntKind.i64.wrap (x_1.val.x.i + (1 : Int)) ∧ True) ∧
                         ((x'.val.d.left =
                             (((((x_1.val.x.d.append (snaps.getD x_1.val.x.i.toNat [])).fst.stop
                                       (wi x_1.val.p (3 : Int))).swap
                                     (snaps.getD x_1.val.x.i.toNat [])).fst.append
                                  [UInt8.ofNat (109 : Nat), UInt8.ofNat (111 : Nat), UInt8.ofNat (114 : Nat),
                                   UInt8.ofNat (101 : Nat)]).fst.crash
                               (IntKind.i64.wrap (x_1.val.p.tdiv (3 : Int)))).left ∧
                            x'.val.d.odd =
                              (((((x_1.val.x.d.append (snaps.getD x_1.val.x.i.toNat [])).fst.stop
                                        (wi x_1.val.p (3 : Int))).swap
                                      (snaps.getD x_1.val.x.i.toNat [])).fst.append
                                   [UInt8.ofNat (109 : Nat), UInt8.ofNat (111 : Nat), UInt8.ofNat (114 : Nat),
                                    UInt8.ofNat (101 : Nat)]).fst.crash
                                (IntKind.i64.wrap (x_1.val.p.tdiv (3 : Int)))).odd ∧
                             x'.val.d.done =
                               (((((x_1.val.x.d.append (snaps.getD x_1.val.x.i.toNat [])).fst.stop
                                         (wi x_1.val.p (3 : Int))).swap
                                       (snaps.getD x_1.val.x.i.toNat [])).fst.append
                                    [UInt8.ofNat (109 : Nat), UInt8.ofNat (111 : Nat), UInt8.ofNat (114 : Nat),
                                     UInt8.ofNat (101 : Nat)]).fst.crash
                                 (IntKind.i64.wrap (x_1.val.p.tdiv (3 : Int)))).done ∧
                              x'.val.d.dead = false ∧
                               bs x'.val.d.log =
                                 bs
                                  (((((x_1.val.x.d.append (snaps.getD x_1.val.x.i.toNat [])).fst.stop
                                            (wi x_1.val.p (3 : Int))).swap
                                          (snaps.getD x_1.val.x.i.toNat [])).fst.append
                                       [UInt8.ofNat (109 : Nat), UInt8.ofNat (111 : Nat), UInt8.ofNat (114 : Nat),
                                        UInt8.ofNat (101 : Nat)]).fst.crash
                                    (IntKind.i64.wrap (x_1.val.p.tdiv (3 : Int)))).log ∧
                                x'.val.d.synced =
                                  (((((x_1.val.x.d.append (snaps.getD x_1.val.x.i.toNat [])).fst.stop
                                            (wi x_1.val.p (3 : Int))).swap
                                          (snaps.getD x_1.val.x.i.toNat [])).fst.append
                                       [UInt8.ofNat (109 : Nat), UInt8.ofNat (111 : Nat), UInt8.ofNat (114 : Nat),
                                        UInt8.ofNat (101 : Nat)]).fst.crash
                                    (IntKind.i64.wrap (x_1.val.p.tdiv (3 : Int)))).synced ∧
                                 bs x'.val.d.snap =
                                   bs
                                    (((((x_1.val.x.d.append (snaps.getD x_1.val.x.i.toNat [])).fst.stop
                                              (wi x_1.val.p (3 : Int))).swap
                                            (snaps.getD x_1.val.x.i.toNat [])).fst.append
                                         [UInt8.ofNat (109 : Nat), UInt8.ofNat (111 : Nat), UInt8.ofNat (114 : Nat),
                                          UInt8.ofNat (101 : Nat)]).fst.crash
                                      (IntKind.i64.wrap (x_1.val.p.tdiv (3 : Int)))).snap ∧
                                  x'.val.d.room =
                                    (((((x_1.val.x.d.append (snaps.getD x_1.val.x.i.toNat [])).fst.stop
                                              (wi x_1.val.p (3 : Int))).swap
                                            (snaps.getD x_1.val.x.i.toNat [])).fst.append
                                         [UInt8.ofNat (109 : Nat), UInt8.ofNat (111 : Nat), UInt8.ofNat (114 : Nat),
                                          UInt8.ofNat (101 : Nat)]).fst.crash
                                      (IntKind.i64.wrap (x_1.val.p.tdiv (3 : Int)))).room ∧
                                   True) ∧
                           True) ∧
                          True))
                     False)
                    False)
                   False))
                 (branch
                  ((S3 pD s23l).pre
                   (Lv.mk
                    (((x_1.val.x.d.append (snaps.getD x_1.val.x.i.toNat [])).fst.stop (wi x_1.val.p (3 : Int))).swap
                      (snaps.getD x_1.val.x.i.toNat [])).fst
                    [UInt8.ofNat (109 : Nat), UInt8.ofNat (111 : Nat), UInt8.ofNat (114 : Nat), UInt8.ofNat (101 : Nat)]
                    (0 : Nat) (4 : Nat) (Cap.exact (4 : Nat))))
                  (branch
                   ((S1 DSt.fine s28).pre
                    (((((x_1.val.x.d.append (snaps.getD x_1.val.x.i.toNat [])).fst.stop (wi x_1.val.p (3 : Int))).swap
                          (snaps.getD x_1.val.x.i.toNat [])).fst.append
                       [UInt8.ofNat (109 : Nat), UInt8.ofNat (111 : Nat), UInt8.ofNat (114 : Nat),
                        UInt8.ofNat (101 : Nat)]).fst,
                     IntKind.i64.wrap (x_1.val.p.tdiv (3 : Int))))
                   (branch
                    ((S0 DSt.fine s26).pre
                     (DSt.mk
                      (((((x_1.val.x.d.append (snaps.getD x_1.val.x.i.toNat [])).fst.stop (wi x_1.val.p (3 : Int))).swap
                              (snaps.getD x_1.val.x.i.toNat [])).fst.append
                           [UInt8.ofNat (109 : Nat), UInt8.ofNat (111 : Nat), UInt8.ofNat (114 : Nat),
                            UInt8.ofNat (101 : Nat)]).fst.crash
                        (IntKind.i64.wrap (x_1.val.p.tdiv (3 : Int)))).left
                      (((((x_1.val.x.d.append (snaps.getD x_1.val.x.i.toNat [])).fst.stop (wi x_1.val.p (3 : Int))).swap
                              (snaps.getD x_1.val.x.i.toNat [])).fst.append
                           [UInt8.ofNat (109 : Nat), UInt8.ofNat (111 : Nat), UInt8.ofNat (114 : Nat),
                            UInt8.ofNat (101 : Nat)]).fst.crash
                        (IntKind.i64.wrap (x_1.val.p.tdiv (3 : Int)))).odd
                      (((((x_1.val.x.d.append (snaps.getD x_1.val.x.i.toNat [])).fst.stop (wi x_1.val.p (3 : Int))).swap
                              (snaps.getD x_1.val.x.i.toNat [])).fst.append
                           [UInt8.ofNat (109 : Nat), UInt8.ofNat (111 : Nat), UInt8.ofNat (114 : Nat),
                            UInt8.ofNat (101 : Nat)]).fst.crash
                        (IntKind.i64.wrap (x_1.val.p.tdiv (3 : Int)))).done
                      false
                      (((((x_1.val.x.d.append (snaps.getD x_1.val.x.i.toNat [])).fst.stop (wi x_1.val.p (3 : Int))).swap
                              (snaps.getD x_1.val.x.i.toNat [])).fst.append
                           [UInt8.ofNat (109 : Nat), UInt8.ofNat (111 : Nat), UInt8.ofNat (114 : Nat),
                            UInt8.ofNat (101 : Nat)]).fst.crash
                        (IntKind.i64.wrap (x_1.val.p.tdiv (3 : Int)))).log
                      (((((x_1.val.x.d.append (snaps.getD x_1.val.x.i.toNat [])).fst.stop (wi x_1.val.p (3 : Int))).swap
                              (snaps.getD x_1.val.x.i.toNat [])).fst.append
                           [UInt8.ofNat (109 : Nat), UInt8.ofNat (111 : Nat), UInt8.ofNat (114 : Nat),
                            UInt8.ofNat (101 : Nat)]).fst.crash
                        (IntKind.i64.wrap (x_1.val.p.tdiv (3 : Int)))).synced
                      (((((x_1.val.x.d.append (snaps.getD x_1.val.x.i.toNat [])).fst.stop (wi x_1.val.p (3 : Int))).swap
                              (snaps.getD x_1.val.x.i.toNat [])).fst.append
                           [UInt8.ofNat (109 : Nat), UInt8.ofNat (111 : Nat), UInt8.ofNat (114 : Nat),
                            UInt8.ofNat (101 : Nat)]).fst.crash
                        (IntKind.i64.wrap (x_1.val.p.tdiv (3 : Int)))).snap
                      (((((x_1.val.x.d.append (snaps.getD x_1.val.x.i.toNat [])).fst.stop (wi x_1.val.p (3 : Int))).swap
                              (snaps.getD x_1.val.x.i.toNat [])).fst.append
                           [UInt8.ofNat (109 : Nat), UInt8.ofNat (111 : Nat), UInt8.ofNat (114 : Nat),
                            UInt8.ofNat (101 : Nat)]).fst.crash
                        (IntKind.i64.wrap (x_1.val.p.tdiv (3 : Int)))).room))
                    (branch
                     (!(((((x_1.val.x.d.append (snaps.getD x_1.val.x.i.toNat [])).fst.stop
                                 (wi x_1.val.p (3 : Int))).swap
                               (snaps.getD x_1.val.x.i.toNat [])).fst.append
                            [UInt8.ofNat (109 : Nat), UInt8.ofNat (111 : Nat), UInt8.ofNat (114 : Nat),
                             UInt8.ofNat (101 : Nat)]).fst.crash
                         (IntKind.i64.wrap (x_1.val.p.tdiv (3 : Int)))).snap ==
                       snaps.getD x_1.val.x.i.toNat [])
                     (false = true)
                     (∃ (x' : { x : R9 // P9 x }),
                      ((15 : Int) - x'.val.i).toNat < ((15 : Int) - x.val.i).toNat ∧
                       (ls snaps = ls snaps ∧
                         is picks = is picks ∧
                          ((0 : Nat) = (0 : Nat) ∧ (0 : Nat) = (0 : Nat)) ∧
                           x'.val.last = snaps.getD x_1.val.x.i.toNat [] ∧
                            x'.val.i = IntKind.i64.wrap (x_1.val.x.i + (1 : Int)) ∧ True) ∧
                        ((x'.val.d.left =
                            (((((x_1.val.x.d.append (snaps.getD x_1.val.x.i.toNat [])).fst.stop
                                      (wi x_1.val.p (3 : Int))).swap
                                    (snaps.getD x_1.val.x.i.toNat [])).fst.append
                                 [UInt8.ofNat (109 : Nat), UInt8.ofNat (111 : Nat), UInt8.ofNat (114 : Nat),
                                  UInt8.ofNat (101 : Nat)]).fst.crash
                              (IntKind.i64.wrap (x_1.val.p.tdiv (3 : Int)))).left ∧
                           x'.val.d.odd =
                             (((((x_1.val.x.d.append (snaps.getD x_1.val.x.i.toNat [])).fst.stop
                                       (wi x_1.val.p (3 : Int))).swap
                                     (snaps.getD x_1.val.x.i.toNat [])).fst.append
                                  [UInt8.ofNat (109 : Nat), UInt8.ofNat (111 : Nat), UInt8.ofNat (114 : Nat),
                                   UInt8.ofNat (101 : Nat)]).fst.crash
                               (IntKind.i64.wrap (x_1.val.p.tdiv (3 : Int)))).odd ∧
                            x'.val.d.done =
                              (((((x_1.val.x.d.append (snaps.getD x_1.val.x.i.toNat [])).fst.stop
                                        (wi x_1.val.p (3 : Int))).swap
                                      (snaps.getD x_1.val.x.i.toNat [])).fst.append
                                   [UInt8.ofNat (109 : Nat), UInt8.ofNat (111 : Nat), UInt8.ofNat (114 : Nat),
                                    UInt8.ofNat (101 : Nat)]).fst.crash
                                (IntKind.i64.wrap (x_1.val.p.tdiv (3 : Int)))).done ∧
                             x'.val.d.dead = false ∧
                              bs x'.val.d.log =
                                bs
                                 (((((x_1.val.x.d.append (snaps.getD x_1.val.x.i.toNat [])).fst.stop
                                           (wi x_1.val.p (3 : Int))).swap
                                         (snaps.getD x_1.val.x.i.toNat [])).fst.append
                                      [UInt8.ofNat (109 : Nat), UInt8.ofNat (111 : Nat), UInt8.ofNat (114 : Nat),
                                       UInt8.ofNat (101 : Nat)]).fst.crash
                                   (IntKind.i64.wrap (x_1.val.p.tdiv (3 : Int)))).log ∧
                               x'.val.d.synced =
                                 (((((x_1.val.x.d.append (snaps.getD x_1.val.x.i.toNat [])).fst.stop
                                           (wi x_1.val.p (3 : Int))).swap
                                         (snaps.getD x_1.val.x.i.toNat [])).fst.append
                                      [UInt8.ofNat (109 : Nat), UInt8.ofNat (111 : Nat), UInt8.ofNat (114 : Nat),
                                       UInt8.ofNat (101 : Nat)]).fst.crash
                                   (IntKind.i64.wrap (x_1.val.p.tdiv (3 : Int)))).synced ∧
                                bs x'.val.d.snap =
                                  bs
                                   (((((x_1.val.x.d.append (snaps.getD x_1.val.x.i.toNat [])).fst.stop
                                             (wi x_1.val.p (3 : Int))).swap
                                           (snaps.getD x_1.val.x.i.toNat [])).fst.append
                                        [UInt8.ofNat (109 : Nat), UInt8.ofNat (111 : Nat), UInt8.ofNat (114 : Nat),
                                         UInt8.ofNat (101 : Nat)]).fst.crash
                                     (IntKind.i64.wrap (x_1.val.p.tdiv (3 : Int)))).snap ∧
                                 x'.val.d.room =
                                   (((((x_1.val.x.d.append (snaps.getD x_1.val.x.i.toNat [])).fst.stop
                                             (wi x_1.val.p (3 : Int))).swap
                                           (snaps.getD x_1.val.x.i.toNat [])).fst.append
                                        [UInt8.ofNat (109 : Nat), UInt8.ofNat (111 : Nat), UInt8.ofNat (114 : Nat),
                                         UInt8.ofNat (101 : Nat)]).fst.crash
                                     (IntKind.i64.wrap (x_1.val.p.tdiv (3 : Int)))).room ∧
                                  True) ∧
                          True) ∧
                         True))
                    False)
                   False)
                  False)))
               False)
              (branch (wi x_1.val.p (3 : Int) == (1 : Int))
               (branch
                ((((x_1.val.x.d.append (snaps.getD x_1.val.x.i.toNat [])).fst.stop (wi x_1.val.p (3 : Int))).swap
                   (snaps.getD x_1.val.x.i.toNat [])).snd !=
                 (17 : Int))
                (false = true)
                (branch (wi x_1.val.p (3 : Int) != (1 : Int))
                 (branch
                  ((((x_1.val.x.d.append (snaps.getD x_1.val.x.i.toNat [])).fst.stop (wi x_1.val.p (3 : Int))).swap
                     (snaps.getD x_1.val.x.i.toNat [])).snd !=
                   (0 : Int))
                  (false = true)
                  (branch
                   ((S3 pD s23l).pre
                    (Lv.mk
                     (((x_1.val.x.d.append (snaps.getD x_1.val.x.i.toNat [])).fst.stop (wi x_1.val.p (3 : Int))).swap
                       (snaps.getD x_1.val.x.i.toNat [])).fst
                     [UInt8.ofNat (109 : Nat), UInt8.ofNat (111 : Nat), UInt8.ofNat (114 : Nat),
                      UInt8.ofNat (101 : Nat)]
                     (0 : Nat) (4 : Nat) (Cap.exact (4 : Nat))))
                   (branch
                    ((S1 DSt.fine s28).pre
                     (((((x_1.val.x.d.append (snaps.getD x_1.val.x.i.toNat [])).fst.stop (wi x_1.val.p (3 : Int))).swap
                           (snaps.getD x_1.val.x.i.toNat [])).fst.append
                        [UInt8.ofNat (109 : Nat), UInt8.ofNat (111 : Nat), UInt8.ofNat (114 : Nat),
                         UInt8.ofNat (101 : Nat)]).fst,
                      IntKind.i64.wrap (x_1.val.p.tdiv (3 : Int))))
                    (branch
                     ((S0 DSt.fine s26).pre
                      (DSt.mk
                       (((((x_1.val.x.d.append (snaps.getD x_1.val.x.i.toNat [])).fst.stop
                                 (wi x_1.val.p (3 : Int))).swap
                               (snaps.getD x_1.val.x.i.toNat [])).fst.append
                            [UInt8.ofNat (109 : Nat), UInt8.ofNat (111 : Nat), UInt8.ofNat (114 : Nat),
                             UInt8.ofNat (101 : Nat)]).fst.crash
                         (IntKind.i64.wrap (x_1.val.p.tdiv (3 : Int)))).left
                       (((((x_1.val.x.d.append (snaps.getD x_1.val.x.i.toNat [])).fst.stop
                                 (wi x_1.val.p (3 : Int))).swap
                               (snaps.getD x_1.val.x.i.toNat [])).fst.append
                            [UInt8.ofNat (109 : Nat), UInt8.ofNat (111 : Nat), UInt8.ofNat (114 : Nat),
                             UInt8.ofNat (101 : Nat)]).fst.crash
                         (IntKind.i64.wrap (x_1.val.p.tdiv (3 : Int)))).odd
                       (((((x_1.val.x.d.append (snaps.getD x_1.val.x.i.toNat [])).fst.stop
                                 (wi x_1.val.p (3 : Int))).swap
                               (snaps.getD x_1.val.x.i.toNat [])).fst.append
                            [UInt8.ofNat (109 : Nat), UInt8.ofNat (111 : Nat), UInt8.ofNat (114 : Nat),
                             UInt8.ofNat (101 : Nat)]).fst.crash
                         (IntKind.i64.wrap (x_1.val.p.tdiv (3 : Int)))).done
                       false
                       (((((x_1.val.x.d.append (snaps.getD x_1.val.x.i.toNat [])).fst.stop
                                 (wi x_1.val.p (3 : Int))).swap
                               (snaps.getD x_1.val.x.i.toNat [])).fst.append
                            [UInt8.ofNat (109 : Nat), UInt8.ofNat (111 : Nat), UInt8.ofNat (114 : Nat),
                             UInt8.ofNat (101 : Nat)]).fst.crash
                         (IntKind.i64.wrap (x_1.val.p.tdiv (3 : Int)))).log
                       (((((x_1.val.x.d.append (snaps.getD x_1.val.x.i.toNat [])).fst.stop
                                 (wi x_1.val.p (3 : Int))).swap
                               (snaps.getD x_1.val.x.i.toNat [])).fst.append
                            [UInt8.ofNat (109 : Nat), UInt8.ofNat (111 : Nat), UInt8.ofNat (114 : Nat),
                             UInt8.ofNat (101 : Nat)]).fst.crash
                         (IntKind.i64.wrap (x_1.val.p.tdiv (3 : Int)))).synced
                       (((((x_1.val.x.d.append (snaps.getD x_1.val.x.i.toNat [])).fst.stop
                                 (wi x_1.val.p (3 : Int))).swap
                               (snaps.getD x_1.val.x.i.toNat [])).fst.append
                            [UInt8.ofNat (109 : Nat), UInt8.ofNat (111 : Nat), UInt8.ofNat (114 : Nat),
                             UInt8.ofNat (101 : Nat)]).fst.crash
                         (IntKind.i64.wrap (x_1.val.p.tdiv (3 : Int)))).snap
                       (((((x_1.val.x.d.append (snaps.getD x_1.val.x.i.toNat [])).fst.stop
                                 (wi x_1.val.p (3 : Int))).swap
                               (snaps.getD x_1.val.x.i.toNat [])).fst.append
                            [UInt8.ofNat (109 : Nat), UInt8.ofNat (111 : Nat), UInt8.ofNat (114 : Nat),
                             UInt8.ofNat (101 : Nat)]).fst.crash
                         (IntKind.i64.wrap (x_1.val.p.tdiv (3 : Int)))).room))
                     (branch
                      (!(((((x_1.val.x.d.append (snaps.getD x_1.val.x.i.toNat [])).fst.stop
                                  (wi x_1.val.p (3 : Int))).swap
                                (snaps.getD x_1.val.x.i.toNat [])).fst.append
                             [UInt8.ofNat (109 : Nat), UInt8.ofNat (111 : Nat), UInt8.ofNat (114 : Nat),
                              UInt8.ofNat (101 : Nat)]).fst.crash
                          (IntKind.i64.wrap (x_1.val.p.tdiv (3 : Int)))).snap ==
                        x_1.val.x.last)
                      (false = true)
                      (∃ (x' : { x : R9 // P9 x }),
                       ((15 : Int) - x'.val.i).toNat < ((15 : Int) - x.val.i).toNat ∧
                        (ls snaps = ls snaps ∧
                          is picks = is picks ∧
                           ((0 : Nat) = (0 : Nat) ∧ (0 : Nat) = (0 : Nat)) ∧
                            x'.val.last = x_1.val.x.last ∧
                             x'.val.i = IntKind.i64.wrap (x_1.val.x.i + (1 : Int)) ∧ True) ∧
                         ((x'.val.d.left =
                             (((((x_1.val.x.d.append (snaps.getD x_1.val.x.i.toNat [])).fst.stop
                                       (wi x_1.val.p (3 : Int))).swap
                                     (snaps.getD x_1.val.x.i.toNat [])).fst.append
                                  [UInt8.ofNat (109 : Nat), UInt8.ofNat (111 : Nat), UInt8.ofNat (114 : Nat),
                                   UInt8.ofNat (101 : Nat)]).fst.crash
                               (IntKind.i64.wrap (x_1.val.p.tdiv (3 : Int)))).left ∧
                            x'.val.d.odd =
                              (((((x_1.val.x.d.append (snaps.getD x_1.val.x.i.toNat [])).fst.stop
                                        (wi x_1.val.p (3 : Int))).swap
                                      (snaps.getD x_1.val.x.i.toNat [])).fst.append
                                   [UInt8.ofNat (109 : Nat), UInt8.ofNat (111 : Nat), UInt8.ofNat (114 : Nat),
                                    UInt8.ofNat (101 : Nat)]).fst.crash
                                (IntKind.i64.wrap (x_1.val.p.tdiv (3 : Int)))).odd ∧
                             x'.val.d.done =
                               (((((x_1.val.x.d.append (snaps.getD x_1.val.x.i.toNat [])).fst.stop
                                         (wi x_1.val.p (3 : Int))).swap
                                       (snaps.getD x_1.val.x.i.toNat [])).fst.append
                                    [UInt8.ofNat (109 : Nat), UInt8.ofNat (111 : Nat), UInt8.ofNat (114 : Nat),
                                     UInt8.ofNat (101 : Nat)]).fst.crash
                                 (IntKind.i64.wrap (x_1.val.p.tdiv (3 : Int)))).done ∧
                              x'.val.d.dead = false ∧
                               bs x'.val.d.log =
                                 bs
                                  (((((x_1.val.x.d.append (snaps.getD x_1.val.x.i.toNat [])).fst.stop
                                            (wi x_1.val.p (3 : Int))).swap
                                          (snaps.getD x_1.val.x.i.toNat [])).fst.append
                                       [UInt8.ofNat (109 : Nat), UInt8.ofNat (111 : Nat), UInt8.ofNat (114 : Nat),
                                        UInt8.ofNat (101 : Nat)]).fst.crash
                                    (IntKind.i64.wrap (x_1.val.p.tdiv (3 : Int)))).log ∧
                                x'.val.d.synced =
                                  (((((x_1.val.x.d.append (snaps.getD x_1.val.x.i.toNat [])).fst.stop
                                            (wi x_1.val.p (3 : Int))).swap
                                          (snaps.getD x_1.val.x.i.toNat [])).fst.append
                                       [UInt8.ofNat (109 : Nat), UInt8.ofNat (111 : Nat), UInt8.ofNat (114 : Nat),
                                        UInt8.ofNat (101 : Nat)]).fst.crash
                                    (IntKind.i64.wrap (x_1.val.p.tdiv (3 : Int)))).synced ∧
                                 bs x'.val.d.snap =
                                   bs
                                    (((((x_1.val.x.d.append (snaps.getD x_1.val.x.i.toNat [])).fst.stop
                                              (wi x_1.val.p (3 : Int))).swap
                                            (snaps.getD x_1.val.x.i.toNat [])).fst.append
                                         [UInt8.ofNat (109 : Nat), UInt8.ofNat (111 : Nat), UInt8.ofNat (114 : Nat),
                                          UInt8.ofNat (101 : Nat)]).fst.crash
                                      (IntKind.i64.wrap (x_1.val.p.tdiv (3 : Int)))).snap ∧
                                  x'.val.d.room =
                                    (((((x_1.val.x.d.append (snaps.getD x_1.val.x.i.toNat [])).fst.stop
                                              (wi x_1.val.p (3 : Int))).swap
                                            (snaps.getD x_1.val.x.i.toNat [])).fst.append
                                         [UInt8.ofNat (109 : Nat), UInt8.ofNat (111 : Nat), UInt8.ofNat (114 : Nat),
                                          UInt8.ofNat (101 : Nat)]).fst.crash
                                      (IntKind.i64.wrap (x_1.val.p.tdiv (3 : Int)))).room ∧
                                   True) ∧
                           True) ∧
                          True))
                     False)
                    False)
                   False))
                 (branch
                  ((S3 pD s23l).pre
                   (Lv.mk
                    (((x_1.val.x.d.append (snaps.getD x_1.val.x.i.toNat [])).fst.stop (wi x_1.val.p (3 : Int))).swap
                      (snaps.getD x_1.val.x.i.toNat [])).fst
                    [UInt8.ofNat (109 : Nat), UInt8.ofNat (111 : Nat), UInt8.ofNat (114 : Nat), UInt8.ofNat (101 : Nat)]
                    (0 : Nat) (4 : Nat) (Cap.exact (4 : Nat))))
                  (branch
                   ((S1 DSt.fine s28).pre
                    (((((x_1.val.x.d.append (snaps.getD x_1.val.x.i.toNat [])).fst.stop (wi x_1.val.p (3 : Int))).swap
                          (snaps.getD x_1.val.x.i.toNat [])).fst.append
                       [UInt8.ofNat (109 : Nat), UInt8.ofNat (111 : Nat), UInt8.ofNat (114 : Nat),
                        UInt8.ofNat (101 : Nat)]).fst,
                     IntKind.i64.wrap (x_1.val.p.tdiv (3 : Int))))
                   (branch
                    ((S0 DSt.fine s26).pre
                     (DSt.mk
                      (((((x_1.val.x.d.append (snaps.getD x_1.val.x.i.toNat [])).fst.stop (wi x_1.val.p (3 : Int))).swap
                              (snaps.getD x_1.val.x.i.toNat [])).fst.append
                           [UInt8.ofNat (109 : Nat), UInt8.ofNat (111 : Nat), UInt8.ofNat (114 : Nat),
                            UInt8.ofNat (101 : Nat)]).fst.crash
                        (IntKind.i64.wrap (x_1.val.p.tdiv (3 : Int)))).left
                      (((((x_1.val.x.d.append (snaps.getD x_1.val.x.i.toNat [])).fst.stop (wi x_1.val.p (3 : Int))).swap
                              (snaps.getD x_1.val.x.i.toNat [])).fst.append
                           [UInt8.ofNat (109 : Nat), UInt8.ofNat (111 : Nat), UInt8.ofNat (114 : Nat),
                            UInt8.ofNat (101 : Nat)]).fst.crash
                        (IntKind.i64.wrap (x_1.val.p.tdiv (3 : Int)))).odd
                      (((((x_1.val.x.d.append (snaps.getD x_1.val.x.i.toNat [])).fst.stop (wi x_1.val.p (3 : Int))).swap
                              (snaps.getD x_1.val.x.i.toNat [])).fst.append
                           [UInt8.ofNat (109 : Nat), UInt8.ofNat (111 : Nat), UInt8.ofNat (114 : Nat),
                            UInt8.ofNat (101 : Nat)]).fst.crash
                        (IntKind.i64.wrap (x_1.val.p.tdiv (3 : Int)))).done
                      false
                      (((((x_1.val.x.d.append (snaps.getD x_1.val.x.i.toNat [])).fst.stop (wi x_1.val.p (3 : Int))).swap
                              (snaps.getD x_1.val.x.i.toNat [])).fst.append
                           [UInt8.ofNat (109 : Nat), UInt8.ofNat (111 : Nat), UInt8.ofNat (114 : Nat),
                            UInt8.ofNat (101 : Nat)]).fst.crash
                        (IntKind.i64.wrap (x_1.val.p.tdiv (3 : Int)))).log
                      (((((x_1.val.x.d.append (snaps.getD x_1.val.x.i.toNat [])).fst.stop (wi x_1.val.p (3 : Int))).swap
                              (snaps.getD x_1.val.x.i.toNat [])).fst.append
                           [UInt8.ofNat (109 : Nat), UInt8.ofNat (111 : Nat), UInt8.ofNat (114 : Nat),
                            UInt8.ofNat (101 : Nat)]).fst.crash
                        (IntKind.i64.wrap (x_1.val.p.tdiv (3 : Int)))).synced
                      (((((x_1.val.x.d.append (snaps.getD x_1.val.x.i.toNat [])).fst.stop (wi x_1.val.p (3 : Int))).swap
                              (snaps.getD x_1.val.x.i.toNat [])).fst.append
                           [UInt8.ofNat (109 : Nat), UInt8.ofNat (111 : Nat), UInt8.ofNat (114 : Nat),
                            UInt8.ofNat (101 : Nat)]).fst.crash
                        (IntKind.i64.wrap (x_1.val.p.tdiv (3 : Int)))).snap
                      (((((x_1.val.x.d.append (snaps.getD x_1.val.x.i.toNat [])).fst.stop (wi x_1.val.p (3 : Int))).swap
                              (snaps.getD x_1.val.x.i.toNat [])).fst.append
                           [UInt8.ofNat (109 : Nat), UInt8.ofNat (111 : Nat), UInt8.ofNat (114 : Nat),
                            UInt8.ofNat (101 : Nat)]).fst.crash
                        (IntKind.i64.wrap (x_1.val.p.tdiv (3 : Int)))).room))
                    (branch
                     (!(((((x_1.val.x.d.append (snaps.getD x_1.val.x.i.toNat [])).fst.stop
                                 (wi x_1.val.p (3 : Int))).swap
                               (snaps.getD x_1.val.x.i.toNat [])).fst.append
                            [UInt8.ofNat (109 : Nat), UInt8.ofNat (111 : Nat), UInt8.ofNat (114 : Nat),
                             UInt8.ofNat (101 : Nat)]).fst.crash
                         (IntKind.i64.wrap (x_1.val.p.tdiv (3 : Int)))).snap ==
                       x_1.val.x.last)
                     (false = true)
                     (∃ (x' : { x : R9 // P9 x }),
                      ((15 : Int) - x'.val.i).toNat < ((15 : Int) - x.val.i).toNat ∧
                       (ls snaps = ls snaps ∧
                         is picks = is picks ∧
                          ((0 : Nat) = (0 : Nat) ∧ (0 : Nat) = (0 : Nat)) ∧
                           x'.val.last = x_1.val.x.last ∧
                            x'.val.i = IntKind.i64.wrap (x_1.val.x.i + (1 : Int)) ∧ True) ∧
                        ((x'.val.d.left =
                            (((((x_1.val.x.d.append (snaps.getD x_1.val.x.i.toNat [])).fst.stop
                                      (wi x_1.val.p (3 : Int))).swap
                                    (snaps.getD x_1.val.x.i.toNat [])).fst.append
                                 [UInt8.ofNat (109 : Nat), UInt8.ofNat (111 : Nat), UInt8.ofNat (114 : Nat),
                                  UInt8.ofNat (101 : Nat)]).fst.crash
                              (IntKind.i64.wrap (x_1.val.p.tdiv (3 : Int)))).left ∧
                           x'.val.d.odd =
                             (((((x_1.val.x.d.append (snaps.getD x_1.val.x.i.toNat [])).fst.stop
                                       (wi x_1.val.p (3 : Int))).swap
                                     (snaps.getD x_1.val.x.i.toNat [])).fst.append
                                  [UInt8.ofNat (109 : Nat), UInt8.ofNat (111 : Nat), UInt8.ofNat (114 : Nat),
                                   UInt8.ofNat (101 : Nat)]).fst.crash
                               (IntKind.i64.wrap (x_1.val.p.tdiv (3 : Int)))).odd ∧
                            x'.val.d.done =
                              (((((x_1.val.x.d.append (snaps.getD x_1.val.x.i.toNat [])).fst.stop
                                        (wi x_1.val.p (3 : Int))).swap
                                      (snaps.getD x_1.val.x.i.toNat [])).fst.append
                                   [UInt8.ofNat (109 : Nat), UInt8.ofNat (111 : Nat), UInt8.ofNat (114 : Nat),
                                    UInt8.ofNat (101 : Nat)]).fst.crash
                                (IntKind.i64.wrap (x_1.val.p.tdiv (3 : Int)))).done ∧
                             x'.val.d.dead = false ∧
                              bs x'.val.d.log =
                                bs
                                 (((((x_1.val.x.d.append (snaps.getD x_1.val.x.i.toNat [])).fst.stop
                                           (wi x_1.val.p (3 : Int))).swap
                                         (snaps.getD x_1.val.x.i.toNat [])).fst.append
                                      [UInt8.ofNat (109 : Nat), UInt8.ofNat (111 : Nat), UInt8.ofNat (114 : Nat),
                                       UInt8.ofNat (101 : Nat)]).fst.crash
                                   (IntKind.i64.wrap (x_1.val.p.tdiv (3 : Int)))).log ∧
                               x'.val.d.synced =
                                 (((((x_1.val.x.d.append (snaps.getD x_1.val.x.i.toNat [])).fst.stop
                                           (wi x_1.val.p (3 : Int))).swap
                                         (snaps.getD x_1.val.x.i.toNat [])).fst.append
                                      [UInt8.ofNat (109 : Nat), UInt8.ofNat (111 : Nat), UInt8.ofNat (114 : Nat),
                                       UInt8.ofNat (101 : Nat)]).fst.crash
                                   (IntKind.i64.wrap (x_1.val.p.tdiv (3 : Int)))).synced ∧
                                bs x'.val.d.snap =
                                  bs
                                   (((((x_1.val.x.d.append (snaps.getD x_1.val.x.i.toNat [])).fst.stop
                                             (wi x_1.val.p (3 : Int))).swap
                                           (snaps.getD x_1.val.x.i.toNat [])).fst.append
                                        [UInt8.ofNat (109 : Nat), UInt8.ofNat (111 : Nat), UInt8.ofNat (114 : Nat),
                                         UInt8.ofNat (101 : Nat)]).fst.crash
                                     (IntKind.i64.wrap (x_1.val.p.tdiv (3 : Int)))).snap ∧
                                 x'.val.d.room =
                                   (((((x_1.val.x.d.append (snaps.getD x_1.val.x.i.toNat [])).fst.stop
                                             (wi x_1.val.p (3 : Int))).swap
                                           (snaps.getD x_1.val.x.i.toNat [])).fst.append
                                        [UInt8.ofNat (109 : Nat), UInt8.ofNat (111 : Nat), UInt8.ofNat (114 : Nat),
                                         UInt8.ofNat (101 : Nat)]).fst.crash
                                     (IntKind.i64.wrap (x_1.val.p.tdiv (3 : Int)))).room ∧
                                  True) ∧
                          True) ∧
                         True))
                    False)
                   False)
                  False)))
               (branch (wi x_1.val.p (3 : Int) != (1 : Int))
                (branch
                 ((((x_1.val.x.d.append (snaps.getD x_1.val.x.i.toNat [])).fst.stop (wi x_1.val.p (3 : Int))).swap
                    (snaps.getD x_1.val.x.i.toNat [])).snd !=
                  (0 : Int))
                 (false = true)
                 (branch
                  ((S3 pD s23l).pre
                   (Lv.mk
                    (((x_1.val.x.d.append (snaps.getD x_1.val.x.i.toNat [])).fst.stop (wi x_1.val.p (3 : Int))).swap
                      (snaps.getD x_1.val.x.i.toNat [])).fst
                    [UInt8.ofNat (109 : Nat), UInt8.ofNat (111 : Nat), UInt8.ofNat (114 : Nat), UInt8.ofNat (101 : Nat)]
                    (0 : Nat) (4 : Nat) (Cap.exact (4 : Nat))))
                  (branch
                   ((S1 DSt.fine s28).pre
                    (((((x_1.val.x.d.append (snaps.getD x_1.val.x.i.toNat [])).fst.stop (wi x_1.val.p (3 : Int))).swap
                          (snaps.getD x_1.val.x.i.toNat [])).fst.append
                       [UInt8.ofNat (109 : Nat), UInt8.ofNat (111 : Nat), UInt8.ofNat (114 : Nat),
                        UInt8.ofNat (101 : Nat)]).fst,
                     IntKind.i64.wrap (x_1.val.p.tdiv (3 : Int))))
                   (branch
                    ((S0 DSt.fine s26).pre
                     (DSt.mk
                      (((((x_1.val.x.d.append (snaps.getD x_1.val.x.i.toNat [])).fst.stop (wi x_1.val.p (3 : Int))).swap
                              (snaps.getD x_1.val.x.i.toNat [])).fst.append
                           [UInt8.ofNat (109 : Nat), UInt8.ofNat (111 : Nat), UInt8.ofNat (114 : Nat),
                            UInt8.ofNat (101 : Nat)]).fst.crash
                        (IntKind.i64.wrap (x_1.val.p.tdiv (3 : Int)))).left
                      (((((x_1.val.x.d.append (snaps.getD x_1.val.x.i.toNat [])).fst.stop (wi x_1.val.p (3 : Int))).swap
                              (snaps.getD x_1.val.x.i.toNat [])).fst.append
                           [UInt8.ofNat (109 : Nat), UInt8.ofNat (111 : Nat), UInt8.ofNat (114 : Nat),
                            UInt8.ofNat (101 : Nat)]).fst.crash
                        (IntKind.i64.wrap (x_1.val.p.tdiv (3 : Int)))).odd
                      (((((x_1.val.x.d.append (snaps.getD x_1.val.x.i.toNat [])).fst.stop (wi x_1.val.p (3 : Int))).swap
                              (snaps.getD x_1.val.x.i.toNat [])).fst.append
                           [UInt8.ofNat (109 : Nat), UInt8.ofNat (111 : Nat), UInt8.ofNat (114 : Nat),
                            UInt8.ofNat (101 : Nat)]).fst.crash
                        (IntKind.i64.wrap (x_1.val.p.tdiv (3 : Int)))).done
                      false
                      (((((x_1.val.x.d.append (snaps.getD x_1.val.x.i.toNat [])).fst.stop (wi x_1.val.p (3 : Int))).swap
                              (snaps.getD x_1.val.x.i.toNat [])).fst.append
                           [UInt8.ofNat (109 : Nat), UInt8.ofNat (111 : Nat), UInt8.ofNat (114 : Nat),
                            UInt8.ofNat (101 : Nat)]).fst.crash
                        (IntKind.i64.wrap (x_1.val.p.tdiv (3 : Int)))).log
                      (((((x_1.val.x.d.append (snaps.getD x_1.val.x.i.toNat [])).fst.stop (wi x_1.val.p (3 : Int))).swap
                              (snaps.getD x_1.val.x.i.toNat [])).fst.append
                           [UInt8.ofNat (109 : Nat), UInt8.ofNat (111 : Nat), UInt8.ofNat (114 : Nat),
                            UInt8.ofNat (101 : Nat)]).fst.crash
                        (IntKind.i64.wrap (x_1.val.p.tdiv (3 : Int)))).synced
                      (((((x_1.val.x.d.append (snaps.getD x_1.val.x.i.toNat [])).fst.stop (wi x_1.val.p (3 : Int))).swap
                              (snaps.getD x_1.val.x.i.toNat [])).fst.append
                           [UInt8.ofNat (109 : Nat), UInt8.ofNat (111 : Nat), UInt8.ofNat (114 : Nat),
                            UInt8.ofNat (101 : Nat)]).fst.crash
                        (IntKind.i64.wrap (x_1.val.p.tdiv (3 : Int)))).snap
                      (((((x_1.val.x.d.append (snaps.getD x_1.val.x.i.toNat [])).fst.stop (wi x_1.val.p (3 : Int))).swap
                              (snaps.getD x_1.val.x.i.toNat [])).fst.append
                           [UInt8.ofNat (109 : Nat), UInt8.ofNat (111 : Nat), UInt8.ofNat (114 : Nat),
                            UInt8.ofNat (101 : Nat)]).fst.crash
                        (IntKind.i64.wrap (x_1.val.p.tdiv (3 : Int)))).room))
                    (branch
                     (!(((((x_1.val.x.d.append (snaps.getD x_1.val.x.i.toNat [])).fst.stop
                                 (wi x_1.val.p (3 : Int))).swap
                               (snaps.getD x_1.val.x.i.toNat [])).fst.append
                            [UInt8.ofNat (109 : Nat), UInt8.ofNat (111 : Nat), UInt8.ofNat (114 : Nat),
                             UInt8.ofNat (101 : Nat)]).fst.crash
                         (IntKind.i64.wrap (x_1.val.p.tdiv (3 : Int)))).snap ==
                       x_1.val.x.last)
                     (false = true)
                     (∃ (x' : { x : R9 // P9 x }),
                      ((15 : Int) - x'.val.i).toNat < ((15 : Int) - x.val.i).toNat ∧
                       (ls snaps = ls snaps ∧
                         is picks = is picks ∧
                          ((0 : Nat) = (0 : Nat) ∧ (0 : Nat) = (0 : Nat)) ∧
                           x'.val.last = x_1.val.x.last ∧
                            x'.val.i = IntKind.i64.wrap (x_1.val.x.i + (1 : Int)) ∧ True) ∧
                        ((x'.val.d.left =
                            (((((x_1.val.x.d.append (snaps.getD x_1.val.x.i.toNat [])).fst.stop
                                      (wi x_1.val.p (3 : Int))).swap
                                    (snaps.getD x_1.val.x.i.toNat [])).fst.append
                                 [UInt8.ofNat (109 : Nat), UInt8.ofNat (111 : Nat), UInt8.ofNat (114 : Nat),
                                  UInt8.ofNat (101 : Nat)]).fst.crash
                              (IntKind.i64.wrap (x_1.val.p.tdiv (3 : Int)))).left ∧
                           x'.val.d.odd =
                             (((((x_1.val.x.d.append (snaps.getD x_1.val.x.i.toNat [])).fst.stop
                                       (wi x_1.val.p (3 : Int))).swap
                                     (snaps.getD x_1.val.x.i.toNat [])).fst.append
                                  [UInt8.ofNat (109 : Nat), UInt8.ofNat (111 : Nat), UInt8.ofNat (114 : Nat),
                                   UInt8.ofNat (101 : Nat)]).fst.crash
                               (IntKind.i64.wrap (x_1.val.p.tdiv (3 : Int)))).odd ∧
                            x'.val.d.done =
                              (((((x_1.val.x.d.append (snaps.getD x_1.val.x.i.toNat [])).fst.stop
                                        (wi x_1.val.p (3 : Int))).swap
                                      (snaps.getD x_1.val.x.i.toNat [])).fst.append
                                   [UInt8.ofNat (109 : Nat), UInt8.ofNat (111 : Nat), UInt8.ofNat (114 : Nat),
                                    UInt8.ofNat (101 : Nat)]).fst.crash
                                (IntKind.i64.wrap (x_1.val.p.tdiv (3 : Int)))).done ∧
                             x'.val.d.dead = false ∧
                              bs x'.val.d.log =
                                bs
                                 (((((x_1.val.x.d.append (snaps.getD x_1.val.x.i.toNat [])).fst.stop
                                           (wi x_1.val.p (3 : Int))).swap
                                         (snaps.getD x_1.val.x.i.toNat [])).fst.append
                                      [UInt8.ofNat (109 : Nat), UInt8.ofNat (111 : Nat), UInt8.ofNat (114 : Nat),
                                       UInt8.ofNat (101 : Nat)]).fst.crash
                                   (IntKind.i64.wrap (x_1.val.p.tdiv (3 : Int)))).log ∧
                               x'.val.d.synced =
                                 (((((x_1.val.x.d.append (snaps.getD x_1.val.x.i.toNat [])).fst.stop
                                           (wi x_1.val.p (3 : Int))).swap
                                         (snaps.getD x_1.val.x.i.toNat [])).fst.append
                                      [UInt8.ofNat (109 : Nat), UInt8.ofNat (111 : Nat), UInt8.ofNat (114 : Nat),
                                       UInt8.ofNat (101 : Nat)]).fst.crash
                                   (IntKind.i64.wrap (x_1.val.p.tdiv (3 : Int)))).synced ∧
                                bs x'.val.d.snap =
                                  bs
                                   (((((x_1.val.x.d.append (snaps.getD x_1.val.x.i.toNat [])).fst.stop
                                             (wi x_1.val.p (3 : Int))).swap
                                           (snaps.getD x_1.val.x.i.toNat [])).fst.append
                                        [UInt8.ofNat (109 : Nat), UInt8.ofNat (111 : Nat), UInt8.ofNat (114 : Nat),
                                         UInt8.ofNat (101 : Nat)]).fst.crash
                                     (IntKind.i64.wrap (x_1.val.p.tdiv (3 : Int)))).snap ∧
                                 x'.val.d.room =
                                   (((((x_1.val.x.d.append (snaps.getD x_1.val.x.i.toNat [])).fst.stop
                                             (wi x_1.val.p (3 : Int))).swap
                                           (snaps.getD x_1.val.x.i.toNat [])).fst.append
                                        [UInt8.ofNat (109 : Nat), UInt8.ofNat (111 : Nat), UInt8.ofNat (114 : Nat),
                                         UInt8.ofNat (101 : Nat)]).fst.crash
                                     (IntKind.i64.wrap (x_1.val.p.tdiv (3 : Int)))).room ∧
                                  True) ∧
                          True) ∧
                         True))
                    False)
                   False)
                  False))
                (branch
                 ((S3 pD s23l).pre
                  (Lv.mk
                   (((x_1.val.x.d.append (snaps.getD x_1.val.x.i.toNat [])).fst.stop (wi x_1.val.p (3 : Int))).swap
                     (snaps.getD x_1.val.x.i.toNat [])).fst
                   [UInt8.ofNat (109 : Nat), UInt8.ofNat (111 : Nat), UInt8.ofNat (114 : Nat), UInt8.ofNat (101 : Nat)]
                   (0 : Nat) (4 : Nat) (Cap.exact (4 : Nat))))
                 (branch
                  ((S1 DSt.fine s28).pre
                   (((((x_1.val.x.d.append (snaps.getD x_1.val.x.i.toNat [])).fst.stop (wi x_1.val.p (3 : Int))).swap
                         (snaps.getD x_1.val.x.i.toNat [])).fst.append
                      [UInt8.ofNat (109 : Nat), UInt8.ofNat (111 : Nat), UInt8.ofNat (114 : Nat),
                       UInt8.ofNat (101 : Nat)]).fst,
                    IntKind.i64.wrap (x_1.val.p.tdiv (3 : Int))))
                  (branch
                   ((S0 DSt.fine s26).pre
                    (DSt.mk
                     (((((x_1.val.x.d.append (snaps.getD x_1.val.x.i.toNat [])).fst.stop (wi x_1.val.p (3 : Int))).swap
                             (snaps.getD x_1.val.x.i.toNat [])).fst.append
                          [UInt8.ofNat (109 : Nat), UInt8.ofNat (111 : Nat), UInt8.ofNat (114 : Nat),
                           UInt8.ofNat (101 : Nat)]).fst.crash
                       (IntKind.i64.wrap (x_1.val.p.tdiv (3 : Int)))).left
                     (((((x_1.val.x.d.append (snaps.getD x_1.val.x.i.toNat [])).fst.stop (wi x_1.val.p (3 : Int))).swap
                             (snaps.getD x_1.val.x.i.toNat [])).fst.append
                          [UInt8.ofNat (109 : Nat), UInt8.ofNat (111 : Nat), UInt8.ofNat (114 : Nat),
                           UInt8.ofNat (101 : Nat)]).fst.crash
                       (IntKind.i64.wrap (x_1.val.p.tdiv (3 : Int)))).odd
                     (((((x_1.val.x.d.append (snaps.getD x_1.val.x.i.toNat [])).fst.stop (wi x_1.val.p (3 : Int))).swap
                             (snaps.getD x_1.val.x.i.toNat [])).fst.append
                          [UInt8.ofNat (109 : Nat), UInt8.ofNat (111 : Nat), UInt8.ofNat (114 : Nat),
                           UInt8.ofNat (101 : Nat)]).fst.crash
                       (IntKind.i64.wrap (x_1.val.p.tdiv (3 : Int)))).done
                     false
                     (((((x_1.val.x.d.append (snaps.getD x_1.val.x.i.toNat [])).fst.stop (wi x_1.val.p (3 : Int))).swap
                             (snaps.getD x_1.val.x.i.toNat [])).fst.append
                          [UInt8.ofNat (109 : Nat), UInt8.ofNat (111 : Nat), UInt8.ofNat (114 : Nat),
                           UInt8.ofNat (101 : Nat)]).fst.crash
                       (IntKind.i64.wrap (x_1.val.p.tdiv (3 : Int)))).log
                     (((((x_1.val.x.d.append (snaps.getD x_1.val.x.i.toNat [])).fst.stop (wi x_1.val.p (3 : Int))).swap
                             (snaps.getD x_1.val.x.i.toNat [])).fst.append
                          [UInt8.ofNat (109 : Nat), UInt8.ofNat (111 : Nat), UInt8.ofNat (114 : Nat),
                           UInt8.ofNat (101 : Nat)]).fst.crash
                       (IntKind.i64.wrap (x_1.val.p.tdiv (3 : Int)))).synced
                     (((((x_1.val.x.d.append (snaps.getD x_1.val.x.i.toNat [])).fst.stop (wi x_1.val.p (3 : Int))).swap
                             (snaps.getD x_1.val.x.i.toNat [])).fst.append
                          [UInt8.ofNat (109 : Nat), UInt8.ofNat (111 : Nat), UInt8.ofNat (114 : Nat),
                           UInt8.ofNat (101 : Nat)]).fst.crash
                       (IntKind.i64.wrap (x_1.val.p.tdiv (3 : Int)))).snap
                     (((((x_1.val.x.d.append (snaps.getD x_1.val.x.i.toNat [])).fst.stop (wi x_1.val.p (3 : Int))).swap
                             (snaps.getD x_1.val.x.i.toNat [])).fst.append
                          [UInt8.ofNat (109 : Nat), UInt8.ofNat (111 : Nat), UInt8.ofNat (114 : Nat),
                           UInt8.ofNat (101 : Nat)]).fst.crash
                       (IntKind.i64.wrap (x_1.val.p.tdiv (3 : Int)))).room))
                   (branch
                    (!(((((x_1.val.x.d.append (snaps.getD x_1.val.x.i.toNat [])).fst.stop (wi x_1.val.p (3 : Int))).swap
                              (snaps.getD x_1.val.x.i.toNat [])).fst.append
                           [UInt8.ofNat (109 : Nat), UInt8.ofNat (111 : Nat), UInt8.ofNat (114 : Nat),
                            UInt8.ofNat (101 : Nat)]).fst.crash
                        (IntKind.i64.wrap (x_1.val.p.tdiv (3 : Int)))).snap ==
                      x_1.val.x.last)
                    (false = true)
                    (∃ (x' : { x : R9 // P9 x }),
                     ((15 : Int) - x'.val.i).toNat < ((15 : Int) - x.val.i).toNat ∧
                      (ls snaps = ls snaps ∧
                        is picks = is picks ∧
                         ((0 : Nat) = (0 : Nat) ∧ (0 : Nat) = (0 : Nat)) ∧
                          x'.val.last = x_1.val.x.last ∧ x'.val.i = IntKind.i64.wrap (x_1.val.x.i + (1 : Int)) ∧ True) ∧
                       ((x'.val.d.left =
                           (((((x_1.val.x.d.append (snaps.getD x_1.val.x.i.toNat [])).fst.stop
                                     (wi x_1.val.p (3 : Int))).swap
                                   (snaps.getD x_1.val.x.i.toNat [])).fst.append
                                [UInt8.ofNat (109 : Nat), UInt8.ofNat (111 : Nat), UInt8.ofNat (114 : Nat),
                                 UInt8.ofNat (101 : Nat)]).fst.crash
                             (IntKind.i64.wrap (x_1.val.p.tdiv (3 : Int)))).left ∧
                          x'.val.d.odd =
                            (((((x_1.val.x.d.append (snaps.getD x_1.val.x.i.toNat [])).fst.stop
                                      (wi x_1.val.p (3 : Int))).swap
                                    (snaps.getD x_1.val.x.i.toNat [])).fst.append
                                 [UInt8.ofNat (109 : Nat), UInt8.ofNat (111 : Nat), UInt8.ofNat (114 : Nat),
                                  UInt8.ofNat (101 : Nat)]).fst.crash
                              (IntKind.i64.wrap (x_1.val.p.tdiv (3 : Int)))).odd ∧
                           x'.val.d.done =
                             (((((x_1.val.x.d.append (snaps.getD x_1.val.x.i.toNat [])).fst.stop
                                       (wi x_1.val.p (3 : Int))).swap
                                     (snaps.getD x_1.val.x.i.toNat [])).fst.append
                                  [UInt8.ofNat (109 : Nat), UInt8.ofNat (111 : Nat), UInt8.ofNat (114 : Nat),
                                   UInt8.ofNat (101 : Nat)]).fst.crash
                               (IntKind.i64.wrap (x_1.val.p.tdiv (3 : Int)))).done ∧
                            x'.val.d.dead = false ∧
                             bs x'.val.d.log =
                               bs
                                (((((x_1.val.x.d.append (snaps.getD x_1.val.x.i.toNat [])).fst.stop
                                          (wi x_1.val.p (3 : Int))).swap
                                        (snaps.getD x_1.val.x.i.toNat [])).fst.append
                                     [UInt8.ofNat (109 : Nat), UInt8.ofNat (111 : Nat), UInt8.ofNat (114 : Nat),
                                      UInt8.ofNat (101 : Nat)]).fst.crash
                                  (IntKind.i64.wrap (x_1.val.p.tdiv (3 : Int)))).log ∧
                              x'.val.d.synced =
                                (((((x_1.val.x.d.append (snaps.getD x_1.val.x.i.toNat [])).fst.stop
                                          (wi x_1.val.p (3 : Int))).swap
                                        (snaps.getD x_1.val.x.i.toNat [])).fst.append
                                     [UInt8.ofNat (109 : Nat), UInt8.ofNat (111 : Nat), UInt8.ofNat (114 : Nat),
                                      UInt8.ofNat (101 : Nat)]).fst.crash
                                  (IntKind.i64.wrap (x_1.val.p.tdiv (3 : Int)))).synced ∧
                               bs x'.val.d.snap =
                                 bs
                                  (((((x_1.val.x.d.append (snaps.getD x_1.val.x.i.toNat [])).fst.stop
                                            (wi x_1.val.p (3 : Int))).swap
                                          (snaps.getD x_1.val.x.i.toNat [])).fst.append
                                       [UInt8.ofNat (109 : Nat), UInt8.ofNat (111 : Nat), UInt8.ofNat (114 : Nat),
                                        UInt8.ofNat (101 : Nat)]).fst.crash
                                    (IntKind.i64.wrap (x_1.val.p.tdiv (3 : Int)))).snap ∧
                                x'.val.d.room =
                                  (((((x_1.val.x.d.append (snaps.getD x_1.val.x.i.toNat [])).fst.stop
                                            (wi x_1.val.p (3 : Int))).swap
                                          (snaps.getD x_1.val.x.i.toNat [])).fst.append
                                       [UInt8.ofNat (109 : Nat), UInt8.ofNat (111 : Nat), UInt8.ofNat (114 : Nat),
                                        UInt8.ofNat (101 : Nat)]).fst.crash
                                    (IntKind.i64.wrap (x_1.val.p.tdiv (3 : Int)))).room ∧
                                 True) ∧
                         True) ∧
                        True))
                   False)
                  False)
                 False)))))
            False)
           False)
          False)
         False))
     False)
    (true = true))
   (true = true)) := by kernel_rfl
end Go.Proofs.Ytaencddffbmdeaa
