/- What is left to be shown of a statement of disk. No conditions. -/
import Derived.Test.YtaencddffbmdeaaDkL
namespace Go.Proofs.Ytaencddffbmdeaa
open Go Go.W Go.Proofs
set_option maxRecDepth 100000
theorem v12 (room : Int) (calls : List
 Cl) : (awpFun regK Try.prog hd3 (1000 : Nat) (fun (x : Nat) => []) (L12 calls) (J12 calls) none Try.f12
 [vi room, V.d (D.sl (62 : Nat) calls)] fun (r : V regK.T × Hp regK.T) => yes r.fst) = (
  branch (inR room)
 (branch (inR room)
  ((∃ (x : { x : R12 // P12 x }),
    (cls calls = cls calls ∧
      ((0 : Nat) = (0 : Nat) ∧ (0 : Nat) = (0 : Nat)) ∧
       ((0 : Nat) = (0 : Nat) ∧ (0 : Nat) = (0 : Nat)) ∧ x.val.i = (0 : Int) ∧ True) ∧
     ((x.val.d.left = (0 : Int) ∧
        x.val.d.odd = (0 : Int) ∧
         x.val.d.done = (0 : Int) ∧
          x.val.d.dead = false ∧
           bs x.val.d.log = bs [] ∧ x.val.d.synced = (0 : Int) ∧ bs x.val.d.snap = bs [] ∧ x.val.d.room = room ∧ True) ∧
       True) ∧
      ((x.val.x.room = room ∧
         bs x.val.x.log = bs [] ∧
          x.val.x.synced = (0 : Int) ∧
           bs x.val.x.snap = bs [] ∧
            x.val.x.left = (0 : Int) ∧ x.val.x.even = false ∧ x.val.x.dead = false ∧ x.val.x.done = (0 : Int) ∧ True) ∧
        True) ∧
       True) ∧
   ∀ (x : { x : R12 // P12 x }),
    branch (decide (x.val.i < (↑calls.length : Int)))
     (branch (decide (x.val.i < (100 : Int)))
      (branch (decide ((0 : Int) ≤ x.val.i) && decide (x.val.i < (↑calls.length : Int)) && true && true)
       (branch (decide ((↑(calls.getD x.val.i.toNat (Cl.mk (0 : Int) (0 : Int) [])).b.length : Int) > (500 : Int)))
        (∃ (x' : { x : R12 // P12 x }),
         ((100 : Int) - x'.val.i).toNat < ((100 : Int) - x.val.i).toNat ∧
          (cls calls = cls calls ∧
            ((0 : Nat) = (0 : Nat) ∧ (0 : Nat) = (0 : Nat)) ∧
             ((0 : Nat) = (0 : Nat) ∧ (0 : Nat) = (0 : Nat)) ∧
              x'.val.i = IntKind.i64.wrap (x.val.i + (1 : Int)) ∧ True) ∧
           ((x'.val.d.left = x.val.d.left ∧
              x'.val.d.odd = x.val.d.odd ∧
               x'.val.d.done = x.val.d.done ∧
                x'.val.d.dead = x.val.d.dead ∧
                 bs x'.val.d.log = bs x.val.d.log ∧
                  x'.val.d.synced = x.val.d.synced ∧
                   bs x'.val.d.snap = bs x.val.d.snap ∧ x'.val.d.room = x.val.d.room ∧ True) ∧
             True) ∧
            ((x'.val.x.room = x.val.x.room ∧
               bs x'.val.x.log = bs x.val.x.log ∧
                x'.val.x.synced = x.val.x.synced ∧
                 bs x'.val.x.snap = bs x.val.x.snap ∧
                  x'.val.x.left = x.val.x.left ∧
                   x'.val.x.even = x.val.x.even ∧ x'.val.x.dead = x.val.x.dead ∧ x'.val.x.done = x.val.x.done ∧ True) ∧
              True) ∧
             True)
        (branch (((0 : Nat) + (calls.getD x.val.i.toNat (Cl.mk (0 : Int) (0 : Int) [])).b.length).ble (0 : Nat))
          (branch (((0 : Nat) + (calls.getD x.val.i.toNat (Cl.mk (0 : Int) (0 : Int) [])).b.length).ble (0 : Nat))
           (∃ (x_1 : { y : J12s // P12c calls (some x.val.i) y }),
            (cls calls = cls calls ∧
              ((0 : Nat) = (0 : Nat) ∧ (0 : Nat) = (0 : Nat)) ∧
               ((0 : Nat) = (0 : Nat) ∧ (0 : Nat) = (0 : Nat)) ∧
                x_1.val.i = x.val.i ∧
                 ((0 : Nat) = (0 : Nat) ∧ (0 : Nat) = (0 : Nat)) ∧
                  ((0 : Nat) = (0 : Nat) ∧
                    x_1.val.c.b.length =
                      (0 : Nat) + (calls.getD x.val.i.toNat (Cl.mk (0 : Int) (0 : Int) [])).b.length ∧
                     Nat.le (0 : Nat) (0 : Nat)) ∧
                   True) ∧
             ((x_1.val.d.left = x.val.d.left ∧
                x_1.val.d.odd = x.val.d.odd ∧
                 x_1.val.d.done = x.val.d.done ∧
                  x_1.val.d.dead = x.val.d.dead ∧
                   bs x_1.val.d.log = bs x.val.d.log ∧
                    x_1.val.d.synced = x.val.d.synced ∧
                     bs x_1.val.d.snap = bs x.val.d.snap ∧ x_1.val.d.room = x.val.d.room ∧ True) ∧
               True) ∧
              ((x_1.val.x.room = x.val.x.room ∧
                 bs x_1.val.x.log = bs x.val.x.log ∧
                  x_1.val.x.synced = x.val.x.synced ∧
                   bs x_1.val.x.snap = bs x.val.x.snap ∧
                    x_1.val.x.left = x.val.x.left ∧
                     x_1.val.x.even = x.val.x.even ∧
                      x_1.val.x.dead = x.val.x.dead ∧ x_1.val.x.done = x.val.x.done ∧ True) ∧
                True) ∧
               ((x_1.val.c.kind = (calls.getD x.val.i.toNat (Cl.mk (0 : Int) (0 : Int) [])).kind ∧
                  x_1.val.c.n = (calls.getD x.val.i.toNat (Cl.mk (0 : Int) (0 : Int) [])).n ∧
                   bs x_1.val.c.b = bs (calls.getD x.val.i.toNat (Cl.mk (0 : Int) (0 : Int) [])).b ∧ True) ∧
                 True) ∧
                ob x_1.val.c.b =
                  ob (setRange [] (0 : Nat) (calls.getD x.val.i.toNat (Cl.mk (0 : Int) (0 : Int) [])).b) ∧
                 True)
           False)
          (branch
           ((((0 : Nat) + (calls.getD x.val.i.toNat (Cl.mk (0 : Int) (0 : Int) [])).b.length) * (1 : Nat)).ble
                (140737488355328 : Nat) &&
               ((0 : Nat) + (calls.getD x.val.i.toNat (Cl.mk (0 : Int) (0 : Int) [])).b.length).ble
                (9223372036854775807 : Nat) &&
              true &&
             true &&
            true)
           (∃ (x_1 : { y : J12s // P12c calls (some x.val.i) y }),
            (cls calls = cls calls ∧
              ((0 : Nat) = (0 : Nat) ∧ (0 : Nat) = (0 : Nat)) ∧
               ((0 : Nat) = (0 : Nat) ∧ (0 : Nat) = (0 : Nat)) ∧
                x_1.val.i = x.val.i ∧
                 ((0 : Nat) = (0 : Nat) ∧ (0 : Nat) = (0 : Nat)) ∧
                  ((0 : Nat) = (0 : Nat) ∧
                    x_1.val.c.b.length =
                      (0 : Nat) + (calls.getD x.val.i.toNat (Cl.mk (0 : Int) (0 : Int) [])).b.length ∧
                     Nat.le (0 : Nat) ((0 : Nat) + (calls.getD x.val.i.toNat (regK.dflt (62 : Nat))).b.length)) ∧
                   True) ∧
             ((x_1.val.d.left = x.val.d.left ∧
                x_1.val.d.odd = x.val.d.odd ∧
                 x_1.val.d.done = x.val.d.done ∧
                  x_1.val.d.dead = x.val.d.dead ∧
                   bs x_1.val.d.log = bs x.val.d.log ∧
                    x_1.val.d.synced = x.val.d.synced ∧
                     bs x_1.val.d.snap = bs x.val.d.snap ∧ x_1.val.d.room = x.val.d.room ∧ True) ∧
               True) ∧
              ((x_1.val.x.room = x.val.x.room ∧
                 bs x_1.val.x.log = bs x.val.x.log ∧
                  x_1.val.x.synced = x.val.x.synced ∧
                   bs x_1.val.x.snap = bs x.val.x.snap ∧
                    x_1.val.x.left = x.val.x.left ∧
                     x_1.val.x.even = x.val.x.even ∧
                      x_1.val.x.dead = x.val.x.dead ∧ x_1.val.x.done = x.val.x.done ∧ True) ∧
                True) ∧
               ((x_1.val.c.kind = (calls.getD x.val.i.toNat (Cl.mk (0 : Int) (0 : Int) [])).kind ∧
                  x_1.val.c.n = (calls.getD x.val.i.toNat (Cl.mk (0 : Int) (0 : Int) [])).n ∧
                   bs x_1.val.c.b = bs (calls.getD x.val.i.toNat (Cl.mk (0 : Int) (0 : Int) [])).b ∧ True) ∧
                 True) ∧
                ob x_1.val.c.b = ob ([] ++ (calls.getD x.val.i.toNat (Cl.mk (0 : Int) (0 : Int) [])).b) ∧ True)
           False) ∧
         ∀ (x_1 : { y : J12s // P12c calls (some x.val.i) y }),
          branch (wi x_1.val.c.kind (6 : Int) == (0 : Int))
            (branch ((S3 pD s23l).pre (Lv.mk x_1.val.d x_1.val.c.b (0 : Nat) x_1.val.c.b.length (Cap.least (0 : Nat))))
             (branch ((R2 pR s33).pre (x_1.val.x, x_1.val.c.b))
              (branch
               ((x_1.val.d.append
                  (Lv.mk x_1.val.d x_1.val.c.b (0 : Nat) x_1.val.c.b.length (Cap.least (0 : Nat))).bytes).snd !=
                (x_1.val.x.append x_1.val.c.b).snd)
               (false = true)
               (∃ (x_2 : { y : Q12 // P12q (some x_1.val.i) y }),
                (cls calls = cls calls ∧
                  ((0 : Nat) = (0 : Nat) ∧ (0 : Nat) = (0 : Nat)) ∧
                   ((0 : Nat) = (0 : Nat) ∧ (0 : Nat) = (0 : Nat)) ∧
                    x_2.val.i = x_1.val.i ∧
                     ((0 : Nat) = (0 : Nat) ∧ x_2.val.n = x_1.val.c.b.length ∧ Nat.le (0 : Nat) (0 : Nat)) ∧ True) ∧
                 ((x_2.val.d.left =
                     (x_1.val.d.append
                        (Lv.mk x_1.val.d x_1.val.c.b (0 : Nat) x_1.val.c.b.length
                          (Cap.least (0 : Nat))).bytes).fst.left ∧
                    x_2.val.d.odd =
                      (x_1.val.d.append
                         (Lv.mk x_1.val.d x_1.val.c.b (0 : Nat) x_1.val.c.b.length
                           (Cap.least (0 : Nat))).bytes).fst.odd ∧
                     x_2.val.d.done =
                       (x_1.val.d.append
                          (Lv.mk x_1.val.d x_1.val.c.b (0 : Nat) x_1.val.c.b.length
                            (Cap.least (0 : Nat))).bytes).fst.done ∧
                      x_2.val.d.dead =
                        (x_1.val.d.append
                           (Lv.mk x_1.val.d x_1.val.c.b (0 : Nat) x_1.val.c.b.length
                             (Cap.least (0 : Nat))).bytes).fst.dead ∧
                       bs x_2.val.d.log =
                         bs
                          (x_1.val.d.append
                             (Lv.mk x_1.val.d x_1.val.c.b (0 : Nat) x_1.val.c.b.length
                               (Cap.least (0 : Nat))).bytes).fst.log ∧
                        x_2.val.d.synced =
                          (x_1.val.d.append
                             (Lv.mk x_1.val.d x_1.val.c.b (0 : Nat) x_1.val.c.b.length
                               (Cap.least (0 : Nat))).bytes).fst.synced ∧
                         bs x_2.val.d.snap =
                           bs
                            (x_1.val.d.append
                               (Lv.mk x_1.val.d x_1.val.c.b (0 : Nat) x_1.val.c.b.length
                                 (Cap.least (0 : Nat))).bytes).fst.snap ∧
                          x_2.val.d.room =
                            (x_1.val.d.append
                               (Lv.mk x_1.val.d x_1.val.c.b (0 : Nat) x_1.val.c.b.length
                                 (Cap.least (0 : Nat))).bytes).fst.room ∧
                           True) ∧
                   True) ∧
                  ((x_2.val.x.room = (x_1.val.x.append x_1.val.c.b).fst.room ∧
                     bs x_2.val.x.log = bs (x_1.val.x.append x_1.val.c.b).fst.log ∧
                      x_2.val.x.synced = (x_1.val.x.append x_1.val.c.b).fst.synced ∧
                       bs x_2.val.x.snap = bs (x_1.val.x.append x_1.val.c.b).fst.snap ∧
                        x_2.val.x.left = (x_1.val.x.append x_1.val.c.b).fst.left ∧
                         x_2.val.x.even = (x_1.val.x.append x_1.val.c.b).fst.even ∧
                          x_2.val.x.dead = (x_1.val.x.append x_1.val.c.b).fst.dead ∧
                           x_2.val.x.done = (x_1.val.x.append x_1.val.c.b).fst.done ∧ True) ∧
                    True) ∧
                   ob x_2.val.ys = ob x_1.val.c.b ∧ True))
              False)
             False)
            (branch (wi x_1.val.c.kind (6 : Int) == (1 : Int))
             (branch ((S3 pD s23l).pre (Lv.mk x_1.val.d x_1.val.c.b (0 : Nat) x_1.val.c.b.length (Cap.least (0 : Nat))))
              (branch ((R2 pR s33).pre (x_1.val.x, x_1.val.c.b))
               (branch
                ((x_1.val.d.append
                   (Lv.mk x_1.val.d x_1.val.c.b (0 : Nat) x_1.val.c.b.length (Cap.least (0 : Nat))).bytes).snd !=
                 (x_1.val.x.append x_1.val.c.b).snd)
                (false = true)
                (∃ (x_2 : { y : Q12 // P12q (some x_1.val.i) y }),
                 (cls calls = cls calls ∧
                   ((0 : Nat) = (0 : Nat) ∧ (0 : Nat) = (0 : Nat)) ∧
                    ((0 : Nat) = (0 : Nat) ∧ (0 : Nat) = (0 : Nat)) ∧
                     x_2.val.i = x_1.val.i ∧
                      ((0 : Nat) = (0 : Nat) ∧ x_2.val.n = x_1.val.c.b.length ∧ Nat.le (0 : Nat) (0 : Nat)) ∧ True) ∧
                  ((x_2.val.d.left =
                      (x_1.val.d.append
                         (Lv.mk x_1.val.d x_1.val.c.b (0 : Nat) x_1.val.c.b.length
                           (Cap.least (0 : Nat))).bytes).fst.left ∧
                     x_2.val.d.odd =
                       (x_1.val.d.append
                          (Lv.mk x_1.val.d x_1.val.c.b (0 : Nat) x_1.val.c.b.length
                            (Cap.least (0 : Nat))).bytes).fst.odd ∧
                      x_2.val.d.done =
                        (x_1.val.d.append
                           (Lv.mk x_1.val.d x_1.val.c.b (0 : Nat) x_1.val.c.b.length
                             (Cap.least (0 : Nat))).bytes).fst.done ∧
                       x_2.val.d.dead =
                         (x_1.val.d.append
                            (Lv.mk x_1.val.d x_1.val.c.b (0 : Nat) x_1.val.c.b.length
                              (Cap.least (0 : Nat))).bytes).fst.dead ∧
                        bs x_2.val.d.log =
                          bs
                           (x_1.val.d.append
                              (Lv.mk x_1.val.d x_1.val.c.b (0 : Nat) x_1.val.c.b.length
                                (Cap.least (0 : Nat))).bytes).fst.log ∧
                         x_2.val.d.synced =
                           (x_1.val.d.append
                              (Lv.mk x_1.val.d x_1.val.c.b (0 : Nat) x_1.val.c.b.length
                                (Cap.least (0 : Nat))).bytes).fst.synced ∧
                          bs x_2.val.d.snap =
                            bs
                             (x_1.val.d.append
                                (Lv.mk x_1.val.d x_1.val.c.b (0 : Nat) x_1.val.c.b.length
                                  (Cap.least (0 : Nat))).bytes).fst.snap ∧
                           x_2.val.d.room =
                             (x_1.val.d.append
                                (Lv.mk x_1.val.d x_1.val.c.b (0 : Nat) x_1.val.c.b.length
                                  (Cap.least (0 : Nat))).bytes).fst.room ∧
                            True) ∧
                    True) ∧
                   ((x_2.val.x.room = (x_1.val.x.append x_1.val.c.b).fst.room ∧
                      bs x_2.val.x.log = bs (x_1.val.x.append x_1.val.c.b).fst.log ∧
                       x_2.val.x.synced = (x_1.val.x.append x_1.val.c.b).fst.synced ∧
                        bs x_2.val.x.snap = bs (x_1.val.x.append x_1.val.c.b).fst.snap ∧
                         x_2.val.x.left = (x_1.val.x.append x_1.val.c.b).fst.left ∧
                          x_2.val.x.even = (x_1.val.x.append x_1.val.c.b).fst.even ∧
                           x_2.val.x.dead = (x_1.val.x.append x_1.val.c.b).fst.dead ∧
                            x_2.val.x.done = (x_1.val.x.append x_1.val.c.b).fst.done ∧ True) ∧
                     True) ∧
                    ob x_2.val.ys = ob x_1.val.c.b ∧ True))
               False)
              False)
             (branch (wi x_1.val.c.kind (6 : Int) == (2 : Int))
              (branch ((S0 DSt.fine s29).pre x_1.val.d)
               (branch ((R0 RSt.fine s34).pre x_1.val.x)
                (branch (x_1.val.d.sync.snd != x_1.val.x.sync.snd) (false = true)
                 (∃ (x_2 : { y : Q12 // P12q (some x_1.val.i) y }),
                  (cls calls = cls calls ∧
                    ((0 : Nat) = (0 : Nat) ∧ (0 : Nat) = (0 : Nat)) ∧
                     ((0 : Nat) = (0 : Nat) ∧ (0 : Nat) = (0 : Nat)) ∧
                      x_2.val.i = x_1.val.i ∧
                       ((0 : Nat) = (0 : Nat) ∧ x_2.val.n = x_1.val.c.b.length ∧ Nat.le (0 : Nat) (0 : Nat)) ∧ True) ∧
                   ((x_2.val.d.left = x_1.val.d.sync.fst.left ∧
                      x_2.val.d.odd = x_1.val.d.sync.fst.odd ∧
                       x_2.val.d.done = x_1.val.d.sync.fst.done ∧
                        x_2.val.d.dead = x_1.val.d.sync.fst.dead ∧
                         bs x_2.val.d.log = bs x_1.val.d.sync.fst.log ∧
                          x_2.val.d.synced = x_1.val.d.sync.fst.synced ∧
                           bs x_2.val.d.snap = bs x_1.val.d.sync.fst.snap ∧
                            x_2.val.d.room = x_1.val.d.sync.fst.room ∧ True) ∧
                     True) ∧
                    ((x_2.val.x.room = x_1.val.x.sync.fst.room ∧
                       bs x_2.val.x.log = bs x_1.val.x.sync.fst.log ∧
                        x_2.val.x.synced = x_1.val.x.sync.fst.synced ∧
                         bs x_2.val.x.snap = bs x_1.val.x.sync.fst.snap ∧
                          x_2.val.x.left = x_1.val.x.sync.fst.left ∧
                           x_2.val.x.even = x_1.val.x.sync.fst.even ∧
                            x_2.val.x.dead = x_1.val.x.sync.fst.dead ∧
                             x_2.val.x.done = x_1.val.x.sync.fst.done ∧ True) ∧
                      True) ∧
                     ob x_2.val.ys = ob x_1.val.c.b ∧ True))
                False)
               False)
              (branch (wi x_1.val.c.kind (6 : Int) == (3 : Int))
               (∃ (x_2 : { y : Q12 // P12q (some x_1.val.i) y }),
                (cls calls = cls calls ∧
                  ((0 : Nat) = (0 : Nat) ∧ (0 : Nat) = (0 : Nat)) ∧
                   ((0 : Nat) = (0 : Nat) ∧ (0 : Nat) = (0 : Nat)) ∧
                    x_2.val.i = x_1.val.i ∧
                     ((0 : Nat) = (0 : Nat) ∧ x_2.val.n = x_1.val.c.b.length ∧ Nat.le (0 : Nat) (0 : Nat)) ∧ True) ∧
                 ((x_2.val.d.left = (x_1.val.d.stop x_1.val.c.n).left ∧
                    x_2.val.d.odd = (x_1.val.d.stop x_1.val.c.n).odd ∧
                     x_2.val.d.done = (x_1.val.d.stop x_1.val.c.n).done ∧
                      x_2.val.d.dead = (x_1.val.d.stop x_1.val.c.n).dead ∧
                       bs x_2.val.d.log = bs (x_1.val.d.stop x_1.val.c.n).log ∧
                        x_2.val.d.synced = (x_1.val.d.stop x_1.val.c.n).synced ∧
                         bs x_2.val.d.snap = bs (x_1.val.d.stop x_1.val.c.n).snap ∧
                          x_2.val.d.room = (x_1.val.d.stop x_1.val.c.n).room ∧ True) ∧
                   True) ∧
                  ((x_2.val.x.room = (x_1.val.x.stop x_1.val.c.n).room ∧
                     bs x_2.val.x.log = bs (x_1.val.x.stop x_1.val.c.n).log ∧
                      x_2.val.x.synced = (x_1.val.x.stop x_1.val.c.n).synced ∧
                       bs x_2.val.x.snap = bs (x_1.val.x.stop x_1.val.c.n).snap ∧
                        x_2.val.x.left = (x_1.val.x.stop x_1.val.c.n).left ∧
                         x_2.val.x.even = (x_1.val.x.stop x_1.val.c.n).even ∧
                          x_2.val.x.dead = (x_1.val.x.stop x_1.val.c.n).dead ∧
                           x_2.val.x.done = (x_1.val.x.stop x_1.val.c.n).done ∧ True) ∧
                    True) ∧
                   ob x_2.val.ys = ob x_1.val.c.b ∧ True)
               (branch (wi x_1.val.c.kind (6 : Int) == (4 : Int))
                (branch ((S1 DSt.fine s28).pre (x_1.val.d, x_1.val.c.n))
                 (branch ((R1 RSt.fine s36).pre (x_1.val.x, x_1.val.c.n))
                  (branch (x_1.val.d.kept x_1.val.c.n != x_1.val.x.kept x_1.val.c.n) (false = true)
                   (∃ (x_2 : { y : Q12 // P12q (some x_1.val.i) y }),
                    (cls calls = cls calls ∧
                      ((0 : Nat) = (0 : Nat) ∧ (0 : Nat) = (0 : Nat)) ∧
                       ((0 : Nat) = (0 : Nat) ∧ (0 : Nat) = (0 : Nat)) ∧
                        x_2.val.i = x_1.val.i ∧
                         ((0 : Nat) = (0 : Nat) ∧ x_2.val.n = x_1.val.c.b.length ∧ Nat.le (0 : Nat) (0 : Nat)) ∧ True) ∧
                     ((x_2.val.d.left = (x_1.val.d.crash x_1.val.c.n).left ∧
                        x_2.val.d.odd = (x_1.val.d.crash x_1.val.c.n).odd ∧
                         x_2.val.d.done = (x_1.val.d.crash x_1.val.c.n).done ∧
                          x_2.val.d.dead = false ∧
                           bs x_2.val.d.log = bs (x_1.val.d.crash x_1.val.c.n).log ∧
                            x_2.val.d.synced = (x_1.val.d.crash x_1.val.c.n).synced ∧
                             bs x_2.val.d.snap = bs (x_1.val.d.crash x_1.val.c.n).snap ∧
                              x_2.val.d.room = (x_1.val.d.crash x_1.val.c.n).room ∧ True) ∧
                       True) ∧
                      ((x_2.val.x.room = (x_1.val.x.crash x_1.val.c.n).room ∧
                         bs x_2.val.x.log = bs (x_1.val.x.crash x_1.val.c.n).log ∧
                          x_2.val.x.synced = (x_1.val.x.crash x_1.val.c.n).synced ∧
                           bs x_2.val.x.snap = bs (x_1.val.x.crash x_1.val.c.n).snap ∧
                            x_2.val.x.left = (x_1.val.x.crash x_1.val.c.n).left ∧
                             x_2.val.x.even = (x_1.val.x.crash x_1.val.c.n).even ∧
                              x_2.val.x.dead = false ∧ x_2.val.x.done = (x_1.val.x.crash x_1.val.c.n).done ∧ True) ∧
                        True) ∧
                       ob x_2.val.ys = ob x_1.val.c.b ∧ True))
                  False)
                 False)
                (branch (wi x_1.val.c.kind (6 : Int) == (5 : Int))
                 (branch
                  ((S3 pD s24l).pre (Lv.mk x_1.val.d x_1.val.c.b (0 : Nat) x_1.val.c.b.length (Cap.least (0 : Nat))))
                  (branch ((R2 pR s37).pre (x_1.val.x, x_1.val.c.b))
                   (branch
                    ((x_1.val.d.swap
                       (Lv.mk x_1.val.d x_1.val.c.b (0 : Nat) x_1.val.c.b.length (Cap.least (0 : Nat))).bytes).snd !=
                     (x_1.val.x.swap x_1.val.c.b).snd)
                    (false = true)
                    (∃ (x_2 : { y : Q12 // P12q (some x_1.val.i) y }),
                     (cls calls = cls calls ∧
                       ((0 : Nat) = (0 : Nat) ∧ (0 : Nat) = (0 : Nat)) ∧
                        ((0 : Nat) = (0 : Nat) ∧ (0 : Nat) = (0 : Nat)) ∧
                         x_2.val.i = x_1.val.i ∧
                          ((0 : Nat) = (0 : Nat) ∧ x_2.val.n = x_1.val.c.b.length ∧ Nat.le (0 : Nat) (0 : Nat)) ∧
                           True) ∧
                      ((x_2.val.d.left =
                          (x_1.val.d.swap
                             (Lv.mk x_1.val.d x_1.val.c.b (0 : Nat) x_1.val.c.b.length
                               (Cap.least (0 : Nat))).bytes).fst.left ∧
                         x_2.val.d.odd =
                           (x_1.val.d.swap
                              (Lv.mk x_1.val.d x_1.val.c.b (0 : Nat) x_1.val.c.b.length
                                (Cap.least (0 : Nat))).bytes).fst.odd ∧
                          x_2.val.d.done =
                            (x_1.val.d.swap
                               (Lv.mk x_1.val.d x_1.val.c.b (0 : Nat) x_1.val.c.b.length
                                 (Cap.least (0 : Nat))).bytes).fst.done ∧
                           x_2.val.d.dead =
                             (x_1.val.d.swap
                                (Lv.mk x_1.val.d x_1.val.c.b (0 : Nat) x_1.val.c.b.length
                                  (Cap.least (0 : Nat))).bytes).fst.dead ∧
                            bs x_2.val.d.log =
                              bs
                               (x_1.val.d.swap
                                  (Lv.mk x_1.val.d x_1.val.c.b (0 : Nat) x_1.val.c.b.length
                                    (Cap.least (0 : Nat))).bytes).fst.log ∧
                             x_2.val.d.synced =
                               (x_1.val.d.swap
                                  (Lv.mk x_1.val.d x_1.val.c.b (0 : Nat) x_1.val.c.b.length
                                    (Cap.least (0 : Nat))).bytes).fst.synced ∧
                              bs x_2.val.d.snap =
                                bs
                                 (x_1.val.d.swap
                                    (Lv.mk x_1.val.d x_1.val.c.b (0 : Nat) x_1.val.c.b.length
                                      (Cap.least (0 : Nat))).bytes).fst.snap ∧
                               x_2.val.d.room =
                                 (x_1.val.d.swap
                                    (Lv.mk x_1.val.d x_1.val.c.b (0 : Nat) x_1.val.c.b.length
                                      (Cap.least (0 : Nat))).bytes).fst.room ∧
                                True) ∧
                        True) ∧
                       ((x_2.val.x.room = (x_1.val.x.swap x_1.val.c.b).fst.room ∧
                          bs x_2.val.x.log = bs (x_1.val.x.swap x_1.val.c.b).fst.log ∧
                           x_2.val.x.synced = (x_1.val.x.swap x_1.val.c.b).fst.synced ∧
                            bs x_2.val.x.snap = bs (x_1.val.x.swap x_1.val.c.b).fst.snap ∧
                             x_2.val.x.left = (x_1.val.x.swap x_1.val.c.b).fst.left ∧
                              x_2.val.x.even = (x_1.val.x.swap x_1.val.c.b).fst.even ∧
                               x_2.val.x.dead = (x_1.val.x.swap x_1.val.c.b).fst.dead ∧
                                x_2.val.x.done = (x_1.val.x.swap x_1.val.c.b).fst.done ∧ True) ∧
                         True) ∧
                        ob x_2.val.ys = ob x_1.val.c.b ∧ True))
                   False)
                  False)
                 (∃ (x_2 : { y : Q12 // P12q (some x_1.val.i) y }),
                  (cls calls = cls calls ∧
                    ((0 : Nat) = (0 : Nat) ∧ (0 : Nat) = (0 : Nat)) ∧
                     ((0 : Nat) = (0 : Nat) ∧ (0 : Nat) = (0 : Nat)) ∧
                      x_2.val.i = x_1.val.i ∧
                       ((0 : Nat) = (0 : Nat) ∧ x_2.val.n = x_1.val.c.b.length ∧ Nat.le (0 : Nat) (0 : Nat)) ∧ True) ∧
                   ((x_2.val.d.left = x_1.val.d.left ∧
                      x_2.val.d.odd = x_1.val.d.odd ∧
                       x_2.val.d.done = x_1.val.d.done ∧
                        x_2.val.d.dead = x_1.val.d.dead ∧
                         bs x_2.val.d.log = bs x_1.val.d.log ∧
                          x_2.val.d.synced = x_1.val.d.synced ∧
                           bs x_2.val.d.snap = bs x_1.val.d.snap ∧ x_2.val.d.room = x_1.val.d.room ∧ True) ∧
                     True) ∧
                    ((x_2.val.x.room = x_1.val.x.room ∧
                       bs x_2.val.x.log = bs x_1.val.x.log ∧
                        x_2.val.x.synced = x_1.val.x.synced ∧
                         bs x_2.val.x.snap = bs x_1.val.x.snap ∧
                          x_2.val.x.left = x_1.val.x.left ∧
                           x_2.val.x.even = x_1.val.x.even ∧
                            x_2.val.x.dead = x_1.val.x.dead ∧ x_2.val.x.done = x_1.val.x.done ∧ True) ∧
                      True) ∧
                     ob x_2.val.ys = ob x_1.val.c.b ∧ True)))))) ∧
           ∀ (x_2 : { y : Q12 // P12q (some x_1.val.i) y }),
            (∃ (x_3 : { y : Q12 // P12q (some x_2.val.i) y }),
              (cls calls = cls calls ∧
                ((0 : Nat) = (0 : Nat) ∧ (0 : Nat) = (0 : Nat)) ∧
                 ((0 : Nat) = (0 : Nat) ∧ (0 : Nat) = (0 : Nat)) ∧
                  x_3.val.i = x_2.val.i ∧
                   ((0 : Nat) = (0 : Nat) ∧ x_3.val.n = x_2.val.n ∧ Nat.le (0 : Nat) (0 : Nat)) ∧
                    x_3.val.k = (0 : Int) ∧ True) ∧
               ((x_3.val.d.left = x_2.val.d.left ∧
                  x_3.val.d.odd = x_2.val.d.odd ∧
                   x_3.val.d.done = x_2.val.d.done ∧
                    x_3.val.d.dead = x_2.val.d.dead ∧
                     bs x_3.val.d.log = bs x_2.val.d.log ∧
                      x_3.val.d.synced = x_2.val.d.synced ∧
                       bs x_3.val.d.snap = bs x_2.val.d.snap ∧ x_3.val.d.room = x_2.val.d.room ∧ True) ∧
                 True) ∧
                ((x_3.val.x.room = x_2.val.x.room ∧
                   bs x_3.val.x.log = bs x_2.val.x.log ∧
                    x_3.val.x.synced = x_2.val.x.synced ∧
                     bs x_3.val.x.snap = bs x_2.val.x.snap ∧
                      x_3.val.x.left = x_2.val.x.left ∧
                       x_3.val.x.even = x_2.val.x.even ∧
                        x_3.val.x.dead = x_2.val.x.dead ∧ x_3.val.x.done = x_2.val.x.done ∧ True) ∧
                  True) ∧
                 ob x_3.val.ys = ob x_2.val.ys ∧ True) ∧
             ∀ (x_3 : { y : Q12 // P12q (some x_2.val.i) y }),
              branch (decide (x_3.val.k < (↑x_3.val.n : Int)))
               (branch (decide ((0 : Int) ≤ x_3.val.k) && decide (x_3.val.k < (↑x_3.val.n : Int)))
                (branch (((0 : Nat) + x_3.val.k.toNat).blt x_3.val.ys.length && true)
                 (∃ (x' : { y : Q12 // P12q (some x_2.val.i) y }),
                  ((500 : Int) - x'.val.k).toNat < ((500 : Int) - x_3.val.k).toNat ∧
                   (cls calls = cls calls ∧
                     ((0 : Nat) = (0 : Nat) ∧ (0 : Nat) = (0 : Nat)) ∧
                      ((0 : Nat) = (0 : Nat) ∧ (0 : Nat) = (0 : Nat)) ∧
                       x'.val.i = x_3.val.i ∧
                        ((0 : Nat) = (0 : Nat) ∧ x'.val.n = x_3.val.n ∧ Nat.le (0 : Nat) (0 : Nat)) ∧
                         x'.val.k = IntKind.i64.wrap (x_3.val.k + (1 : Int)) ∧ True) ∧
                    ((x'.val.d.left = x_3.val.d.left ∧
                       x'.val.d.odd = x_3.val.d.odd ∧
                        x'.val.d.done = x_3.val.d.done ∧
                         x'.val.d.dead = x_3.val.d.dead ∧
                          bs x'.val.d.log = bs x_3.val.d.log ∧
                           x'.val.d.synced = x_3.val.d.synced ∧
                            bs x'.val.d.snap = bs x_3.val.d.snap ∧ x'.val.d.room = x_3.val.d.room ∧ True) ∧
                      True) ∧
                     ((x'.val.x.room = x_3.val.x.room ∧
                        bs x'.val.x.log = bs x_3.val.x.log ∧
                         x'.val.x.synced = x_3.val.x.synced ∧
                          bs x'.val.x.snap = bs x_3.val.x.snap ∧
                           x'.val.x.left = x_3.val.x.left ∧
                            x'.val.x.even = x_3.val.x.even ∧
                             x'.val.x.dead = x_3.val.x.dead ∧ x'.val.x.done = x_3.val.x.done ∧ True) ∧
                       True) ∧
                      ob x'.val.ys = ob (x_3.val.ys.set ((0 : Nat) + x_3.val.k.toNat) (UInt8.ofNat (238 : Nat))) ∧ True)
                 False)
                False)
               (branch ((S0 DSt.fine s25).pre x_3.val.d)
                (branch (!x_3.val.d.log == x_3.val.x.log) (false = true)
                 (branch ((S0 DSt.fine s26).pre x_3.val.d)
                  (branch (!x_3.val.d.snap == x_3.val.x.snap) (false = true)
                   (branch (!x_3.val.d.dead == x_3.val.x.dead) (false = true)
                    (branch (x_3.val.d.done != x_3.val.x.done) (false = true)
                     (∃ (x' : { x : R12 // P12 x }),
                      ((100 : Int) - x'.val.i).toNat < ((100 : Int) - x.val.i).toNat ∧
                       (cls calls = cls calls ∧
                         ((0 : Nat) = (0 : Nat) ∧ (0 : Nat) = (0 : Nat)) ∧
                          ((0 : Nat) = (0 : Nat) ∧ (0 : Nat) = (0 : Nat)) ∧
                           x'.val.i = IntKind.i64.wrap (x_3.val.i + (1 : Int)) ∧ True) ∧
                        ((x'.val.d.left = x_3.val.d.left ∧
                           x'.val.d.odd = x_3.val.d.odd ∧
                            x'.val.d.done = x_3.val.d.done ∧
                             x'.val.d.dead = x_3.val.d.dead ∧
                              bs x'.val.d.log = bs x_3.val.d.log ∧
                               x'.val.d.synced = x_3.val.d.synced ∧
                                bs x'.val.d.snap = bs x_3.val.d.snap ∧ x'.val.d.room = x_3.val.d.room ∧ True) ∧
                          True) ∧
                         ((x'.val.x.room = x_3.val.x.room ∧
                            bs x'.val.x.log = bs x_3.val.x.log ∧
                             x'.val.x.synced = x_3.val.x.synced ∧
                              bs x'.val.x.snap = bs x_3.val.x.snap ∧
                               x'.val.x.left = x_3.val.x.left ∧
                                x'.val.x.even = x_3.val.x.even ∧
                                 x'.val.x.dead = x_3.val.x.dead ∧ x'.val.x.done = x_3.val.x.done ∧ True) ∧
                           True) ∧
                          True))))
                  False))
                False)))
       False)
      (true = true))
     (true = true))
  (false = true))
 (branch (inR room) (false = true) (true = true))) := by kernel_rfl
end Go.Proofs.Ytaencddffbmdeaa
