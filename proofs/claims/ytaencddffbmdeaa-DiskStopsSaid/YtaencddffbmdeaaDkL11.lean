/- What is left to be shown of a statement of disk. No conditions. -/
import Derived.Test.YtaencddffbmdeaaDkL
namespace Go.Proofs.Ytaencddffbmdeaa
open Go Go.W Go.Proofs
set_option maxRecDepth 100000
theorem v11 (n : Int) (kinds : List
 Int) : (awpFun regK Try.prog hd3 (1000 : Nat) (fun (x : Nat) => []) (L11 (w64 ((1 : Int) + wi n (12 : Int))) kinds) noJ
 none Try.f11 [vi n, V.d (D.sl (3 : Nat) kinds)] fun (r : V regK.T × Hp regK.T) => yes r.fst) = (
  (∃ (x : { x : R11 // P11 (w64 ((1 : Int) + wi n (12 : Int))) x }),
  (w64 ((1 : Int) + wi n (12 : Int)) = IntKind.i64.wrap ((1 : Int) + wi n (12 : Int)) ∧
    is kinds = is kinds ∧
     ((0 : Nat) = (0 : Nat) ∧ (0 : Nat) = (0 : Nat)) ∧ x.val.ops = (0 : Int) ∧ x.val.i = (0 : Int) ∧ True) ∧
   ((x.val.d.left =
       ((DSt.mk (0 : Int) (0 : Int) (0 : Int) false [] (0 : Int) [] (50 : Int)).stop
         (IntKind.i64.wrap ((1 : Int) + wi n (12 : Int)))).left ∧
      x.val.d.odd =
        ((DSt.mk (0 : Int) (0 : Int) (0 : Int) false [] (0 : Int) [] (50 : Int)).stop
          (IntKind.i64.wrap ((1 : Int) + wi n (12 : Int)))).odd ∧
       x.val.d.done =
         ((DSt.mk (0 : Int) (0 : Int) (0 : Int) false [] (0 : Int) [] (50 : Int)).stop
           (IntKind.i64.wrap ((1 : Int) + wi n (12 : Int)))).done ∧
        x.val.d.dead = false ∧
         bs x.val.d.log = bs [] ∧
          x.val.d.synced =
            ((DSt.mk (0 : Int) (0 : Int) (0 : Int) false [] (0 : Int) [] (50 : Int)).stop
              (IntKind.i64.wrap ((1 : Int) + wi n (12 : Int)))).synced ∧
           bs x.val.d.snap = bs [] ∧
            x.val.d.room =
              ((DSt.mk (0 : Int) (0 : Int) (0 : Int) false [] (0 : Int) [] (50 : Int)).stop
                (IntKind.i64.wrap ((1 : Int) + wi n (12 : Int)))).room ∧
             True) ∧
     True) ∧
    True) ∧
 ∀ (x : { x : R11 // P11 (w64 ((1 : Int) + wi n (12 : Int))) x }),
  branch (decide (x.val.i < (↑kinds.length : Int)))
   (branch (decide (x.val.i < (30 : Int)))
    (branch (decide ((0 : Int) ≤ x.val.i) && decide (x.val.i < (↑kinds.length : Int)) && true && true)
     (branch (wi (kinds.getD x.val.i.toNat (0 : Int)) (4 : Int) == (0 : Int))
      (branch ((S3 pD s23l).pre (Lv.mk x.val.d [UInt8.ofNat (1 : Nat)] (0 : Nat) (1 : Nat) (Cap.exact (1 : Nat))))
       (branch x.val.d.dead
        (branch ((x.val.d.append [UInt8.ofNat (1 : Nat)]).snd != (17 : Int)) (false = true)
         (∃ (x' : { x : R11 // P11 (w64 ((1 : Int) + wi n (12 : Int))) x }),
          ((30 : Int) - x'.val.i).toNat < ((30 : Int) - x.val.i).toNat ∧
           (w64 ((1 : Int) + wi n (12 : Int)) = w64 ((1 : Int) + wi n (12 : Int)) ∧
             is kinds = is kinds ∧
              ((0 : Nat) = (0 : Nat) ∧ (0 : Nat) = (0 : Nat)) ∧
               x'.val.ops = x.val.ops ∧ x'.val.i = IntKind.i64.wrap (x.val.i + (1 : Int)) ∧ True) ∧
            ((x'.val.d.left = (x.val.d.append [UInt8.ofNat (1 : Nat)]).fst.left ∧
               x'.val.d.odd = (x.val.d.append [UInt8.ofNat (1 : Nat)]).fst.odd ∧
                x'.val.d.done = (x.val.d.append [UInt8.ofNat (1 : Nat)]).fst.done ∧
                 x'.val.d.dead = (x.val.d.append [UInt8.ofNat (1 : Nat)]).fst.dead ∧
                  bs x'.val.d.log = bs (x.val.d.append [UInt8.ofNat (1 : Nat)]).fst.log ∧
                   x'.val.d.synced = (x.val.d.append [UInt8.ofNat (1 : Nat)]).fst.synced ∧
                    bs x'.val.d.snap = bs (x.val.d.append [UInt8.ofNat (1 : Nat)]).fst.snap ∧
                     x'.val.d.room = (x.val.d.append [UInt8.ofNat (1 : Nat)]).fst.room ∧ True) ∧
              True) ∧
             True))
        (branch
         (!((x.val.d.append [UInt8.ofNat (1 : Nat)]).snd == (17 : Int)) ==
           (IntKind.i64.wrap (x.val.ops + (1 : Int)) == w64 ((1 : Int) + wi n (12 : Int))))
         (false = true)
         (branch
          (!(x.val.d.append [UInt8.ofNat (1 : Nat)]).fst.dead ==
            (IntKind.i64.wrap (x.val.ops + (1 : Int)) == w64 ((1 : Int) + wi n (12 : Int))))
          (false = true)
          (branch
           ((x.val.d.append [UInt8.ofNat (1 : Nat)]).fst.done !=
            if
              IntKind.i64.wrap (w64 ((1 : Int) + wi n (12 : Int)) - (1 : Int)) <
               IntKind.i64.wrap (x.val.ops + (1 : Int)) then
             IntKind.i64.wrap (w64 ((1 : Int) + wi n (12 : Int)) - (1 : Int))
            else IntKind.i64.wrap (x.val.ops + (1 : Int)))
           (false = true)
           (branch ((x.val.d.append [UInt8.ofNat (1 : Nat)]).snd != (0 : Int))
            (branch ((x.val.d.append [UInt8.ofNat (1 : Nat)]).snd != (17 : Int)) (false = true)
             (∃ (x' : { x : R11 // P11 (w64 ((1 : Int) + wi n (12 : Int))) x }),
              ((30 : Int) - x'.val.i).toNat < ((30 : Int) - x.val.i).toNat ∧
               (w64 ((1 : Int) + wi n (12 : Int)) = w64 ((1 : Int) + wi n (12 : Int)) ∧
                 is kinds = is kinds ∧
                  ((0 : Nat) = (0 : Nat) ∧ (0 : Nat) = (0 : Nat)) ∧
                   x'.val.ops = IntKind.i64.wrap (x.val.ops + (1 : Int)) ∧
                    x'.val.i = IntKind.i64.wrap (x.val.i + (1 : Int)) ∧ True) ∧
                ((x'.val.d.left = (x.val.d.append [UInt8.ofNat (1 : Nat)]).fst.left ∧
                   x'.val.d.odd = (x.val.d.append [UInt8.ofNat (1 : Nat)]).fst.odd ∧
                    x'.val.d.done = (x.val.d.append [UInt8.ofNat (1 : Nat)]).fst.done ∧
                     x'.val.d.dead = (x.val.d.append [UInt8.ofNat (1 : Nat)]).fst.dead ∧
                      bs x'.val.d.log = bs (x.val.d.append [UInt8.ofNat (1 : Nat)]).fst.log ∧
                       x'.val.d.synced = (x.val.d.append [UInt8.ofNat (1 : Nat)]).fst.synced ∧
                        bs x'.val.d.snap = bs (x.val.d.append [UInt8.ofNat (1 : Nat)]).fst.snap ∧
                         x'.val.d.room = (x.val.d.append [UInt8.ofNat (1 : Nat)]).fst.room ∧ True) ∧
                  True) ∧
                 True))
            (∃ (x' : { x : R11 // P11 (w64 ((1 : Int) + wi n (12 : Int))) x }),
             ((30 : Int) - x'.val.i).toNat < ((30 : Int) - x.val.i).toNat ∧
              (w64 ((1 : Int) + wi n (12 : Int)) = w64 ((1 : Int) + wi n (12 : Int)) ∧
                is kinds = is kinds ∧
                 ((0 : Nat) = (0 : Nat) ∧ (0 : Nat) = (0 : Nat)) ∧
                  x'.val.ops = IntKind.i64.wrap (x.val.ops + (1 : Int)) ∧
                   x'.val.i = IntKind.i64.wrap (x.val.i + (1 : Int)) ∧ True) ∧
               ((x'.val.d.left = (x.val.d.append [UInt8.ofNat (1 : Nat)]).fst.left ∧
                  x'.val.d.odd = (x.val.d.append [UInt8.ofNat (1 : Nat)]).fst.odd ∧
                   x'.val.d.done = (x.val.d.append [UInt8.ofNat (1 : Nat)]).fst.done ∧
                    x'.val.d.dead = (x.val.d.append [UInt8.ofNat (1 : Nat)]).fst.dead ∧
                     bs x'.val.d.log = bs (x.val.d.append [UInt8.ofNat (1 : Nat)]).fst.log ∧
                      x'.val.d.synced = (x.val.d.append [UInt8.ofNat (1 : Nat)]).fst.synced ∧
                       bs x'.val.d.snap = bs (x.val.d.append [UInt8.ofNat (1 : Nat)]).fst.snap ∧
                        x'.val.d.room = (x.val.d.append [UInt8.ofNat (1 : Nat)]).fst.room ∧ True) ∧
                 True) ∧
                True))))))
       False)
      (branch (wi (kinds.getD x.val.i.toNat (0 : Int)) (4 : Int) == (1 : Int))
       (branch ((S0 DSt.fine s29).pre x.val.d)
        (branch x.val.d.dead
         (branch (x.val.d.sync.snd != (17 : Int)) (false = true)
          (∃ (x' : { x : R11 // P11 (w64 ((1 : Int) + wi n (12 : Int))) x }),
           ((30 : Int) - x'.val.i).toNat < ((30 : Int) - x.val.i).toNat ∧
            (w64 ((1 : Int) + wi n (12 : Int)) = w64 ((1 : Int) + wi n (12 : Int)) ∧
              is kinds = is kinds ∧
               ((0 : Nat) = (0 : Nat) ∧ (0 : Nat) = (0 : Nat)) ∧
                x'.val.ops = x.val.ops ∧ x'.val.i = IntKind.i64.wrap (x.val.i + (1 : Int)) ∧ True) ∧
             ((x'.val.d.left = x.val.d.sync.fst.left ∧
                x'.val.d.odd = x.val.d.sync.fst.odd ∧
                 x'.val.d.done = x.val.d.sync.fst.done ∧
                  x'.val.d.dead = x.val.d.sync.fst.dead ∧
                   bs x'.val.d.log = bs x.val.d.sync.fst.log ∧
                    x'.val.d.synced = x.val.d.sync.fst.synced ∧
                     bs x'.val.d.snap = bs x.val.d.sync.fst.snap ∧ x'.val.d.room = x.val.d.sync.fst.room ∧ True) ∧
               True) ∧
              True))
         (branch
          (!(x.val.d.sync.snd == (17 : Int)) ==
            (IntKind.i64.wrap (x.val.ops + (1 : Int)) == w64 ((1 : Int) + wi n (12 : Int))))
          (false = true)
          (branch
           (!x.val.d.sync.fst.dead == (IntKind.i64.wrap (x.val.ops + (1 : Int)) == w64 ((1 : Int) + wi n (12 : Int))))
           (false = true)
           (branch
            (x.val.d.sync.fst.done !=
             if
               IntKind.i64.wrap (w64 ((1 : Int) + wi n (12 : Int)) - (1 : Int)) <
                IntKind.i64.wrap (x.val.ops + (1 : Int)) then
              IntKind.i64.wrap (w64 ((1 : Int) + wi n (12 : Int)) - (1 : Int))
             else IntKind.i64.wrap (x.val.ops + (1 : Int)))
            (false = true)
            (branch (x.val.d.sync.snd != (0 : Int))
             (branch (x.val.d.sync.snd != (17 : Int)) (false = true)
              (∃ (x' : { x : R11 // P11 (w64 ((1 : Int) + wi n (12 : Int))) x }),
               ((30 : Int) - x'.val.i).toNat < ((30 : Int) - x.val.i).toNat ∧
                (w64 ((1 : Int) + wi n (12 : Int)) = w64 ((1 : Int) + wi n (12 : Int)) ∧
                  is kinds = is kinds ∧
                   ((0 : Nat) = (0 : Nat) ∧ (0 : Nat) = (0 : Nat)) ∧
                    x'.val.ops = IntKind.i64.wrap (x.val.ops + (1 : Int)) ∧
                     x'.val.i = IntKind.i64.wrap (x.val.i + (1 : Int)) ∧ True) ∧
                 ((x'.val.d.left = x.val.d.sync.fst.left ∧
                    x'.val.d.odd = x.val.d.sync.fst.odd ∧
                     x'.val.d.done = x.val.d.sync.fst.done ∧
                      x'.val.d.dead = x.val.d.sync.fst.dead ∧
                       bs x'.val.d.log = bs x.val.d.sync.fst.log ∧
                        x'.val.d.synced = x.val.d.sync.fst.synced ∧
                         bs x'.val.d.snap = bs x.val.d.sync.fst.snap ∧ x'.val.d.room = x.val.d.sync.fst.room ∧ True) ∧
                   True) ∧
                  True))
             (∃ (x' : { x : R11 // P11 (w64 ((1 : Int) + wi n (12 : Int))) x }),
              ((30 : Int) - x'.val.i).toNat < ((30 : Int) - x.val.i).toNat ∧
               (w64 ((1 : Int) + wi n (12 : Int)) = w64 ((1 : Int) + wi n (12 : Int)) ∧
                 is kinds = is kinds ∧
                  ((0 : Nat) = (0 : Nat) ∧ (0 : Nat) = (0 : Nat)) ∧
                   x'.val.ops = IntKind.i64.wrap (x.val.ops + (1 : Int)) ∧
                    x'.val.i = IntKind.i64.wrap (x.val.i + (1 : Int)) ∧ True) ∧
                ((x'.val.d.left = x.val.d.sync.fst.left ∧
                   x'.val.d.odd = x.val.d.sync.fst.odd ∧
                    x'.val.d.done = x.val.d.sync.fst.done ∧
                     x'.val.d.dead = x.val.d.sync.fst.dead ∧
                      bs x'.val.d.log = bs x.val.d.sync.fst.log ∧
                       x'.val.d.synced = x.val.d.sync.fst.synced ∧
                        bs x'.val.d.snap = bs x.val.d.sync.fst.snap ∧ x'.val.d.room = x.val.d.sync.fst.room ∧ True) ∧
                  True) ∧
                 True))))))
        False)
       (branch (wi (kinds.getD x.val.i.toNat (0 : Int)) (4 : Int) == (2 : Int))
        (branch
         ((S3 pD s24l).pre
          (Lv.mk x.val.d [UInt8.ofNat (2 : Nat), UInt8.ofNat (3 : Nat)] (0 : Nat) (2 : Nat) (Cap.exact (2 : Nat))))
         (branch x.val.d.dead
          (branch ((x.val.d.swap [UInt8.ofNat (2 : Nat), UInt8.ofNat (3 : Nat)]).snd != (17 : Int)) (false = true)
           (∃ (x' : { x : R11 // P11 (w64 ((1 : Int) + wi n (12 : Int))) x }),
            ((30 : Int) - x'.val.i).toNat < ((30 : Int) - x.val.i).toNat ∧
             (w64 ((1 : Int) + wi n (12 : Int)) = w64 ((1 : Int) + wi n (12 : Int)) ∧
               is kinds = is kinds ∧
                ((0 : Nat) = (0 : Nat) ∧ (0 : Nat) = (0 : Nat)) ∧
                 x'.val.ops = x.val.ops ∧ x'.val.i = IntKind.i64.wrap (x.val.i + (1 : Int)) ∧ True) ∧
              ((x'.val.d.left = (x.val.d.swap [UInt8.ofNat (2 : Nat), UInt8.ofNat (3 : Nat)]).fst.left ∧
                 x'.val.d.odd = (x.val.d.swap [UInt8.ofNat (2 : Nat), UInt8.ofNat (3 : Nat)]).fst.odd ∧
                  x'.val.d.done = (x.val.d.swap [UInt8.ofNat (2 : Nat), UInt8.ofNat (3 : Nat)]).fst.done ∧
                   x'.val.d.dead = (x.val.d.swap [UInt8.ofNat (2 : Nat), UInt8.ofNat (3 : Nat)]).fst.dead ∧
                    bs x'.val.d.log = bs (x.val.d.swap [UInt8.ofNat (2 : Nat), UInt8.ofNat (3 : Nat)]).fst.log ∧
                     x'.val.d.synced = (x.val.d.swap [UInt8.ofNat (2 : Nat), UInt8.ofNat (3 : Nat)]).fst.synced ∧
                      bs x'.val.d.snap = bs (x.val.d.swap [UInt8.ofNat (2 : Nat), UInt8.ofNat (3 : Nat)]).fst.snap ∧
                       x'.val.d.room = (x.val.d.swap [UInt8.ofNat (2 : Nat), UInt8.ofNat (3 : Nat)]).fst.room ∧ True) ∧
                True) ∧
               True))
          (branch
           (!((x.val.d.swap [UInt8.ofNat (2 : Nat), UInt8.ofNat (3 : Nat)]).snd == (17 : Int)) ==
             (IntKind.i64.wrap (x.val.ops + (1 : Int)) == w64 ((1 : Int) + wi n (12 : Int))))
           (false = true)
           (branch
            (!(x.val.d.swap [UInt8.ofNat (2 : Nat), UInt8.ofNat (3 : Nat)]).fst.dead ==
              (IntKind.i64.wrap (x.val.ops + (1 : Int)) == w64 ((1 : Int) + wi n (12 : Int))))
            (false = true)
            (branch
             ((x.val.d.swap [UInt8.ofNat (2 : Nat), UInt8.ofNat (3 : Nat)]).fst.done !=
              if
                IntKind.i64.wrap (w64 ((1 : Int) + wi n (12 : Int)) - (1 : Int)) <
                 IntKind.i64.wrap (x.val.ops + (1 : Int)) then
               IntKind.i64.wrap (w64 ((1 : Int) + wi n (12 : Int)) - (1 : Int))
              else IntKind.i64.wrap (x.val.ops + (1 : Int)))
             (false = true)
             (branch ((x.val.d.swap [UInt8.ofNat (2 : Nat), UInt8.ofNat (3 : Nat)]).snd != (0 : Int))
              (branch ((x.val.d.swap [UInt8.ofNat (2 : Nat), UInt8.ofNat (3 : Nat)]).snd != (17 : Int)) (false = true)
               (∃ (x' : { x : R11 // P11 (w64 ((1 : Int) + wi n (12 : Int))) x }),
                ((30 : Int) - x'.val.i).toNat < ((30 : Int) - x.val.i).toNat ∧
                 (w64 ((1 : Int) + wi n (12 : Int)) = w64 ((1 : Int) + wi n (12 : Int)) ∧
                   is kinds = is kinds ∧
                    ((0 : Nat) = (0 : Nat) ∧ (0 : Nat) = (0 : Nat)) ∧
                     x'.val.ops = IntKind.i64.wrap (x.val.ops + (1 : Int)) ∧
                      x'.val.i = IntKind.i64.wrap (x.val.i + (1 : Int)) ∧ True) ∧
                  ((x'.val.d.left = (x.val.d.swap [UInt8.ofNat (2 : Nat), UInt8.ofNat (3 : Nat)]).fst.left ∧
                     x'.val.d.odd = (x.val.d.swap [UInt8.ofNat (2 : Nat), UInt8.ofNat (3 : Nat)]).fst.odd ∧
                      x'.val.d.done = (x.val.d.swap [UInt8.ofNat (2 : Nat), UInt8.ofNat (3 : Nat)]).fst.done ∧
                       x'.val.d.dead = (x.val.d.swap [UInt8.ofNat (2 : Nat), UInt8.ofNat (3 : Nat)]).fst.dead ∧
                        bs x'.val.d.log = bs (x.val.d.swap [UInt8.ofNat (2 : Nat), UInt8.ofNat (3 : Nat)]).fst.log ∧
                         x'.val.d.synced = (x.val.d.swap [UInt8.ofNat (2 : Nat), UInt8.ofNat (3 : Nat)]).fst.synced ∧
                          bs x'.val.d.snap = bs (x.val.d.swap [UInt8.ofNat (2 : Nat), UInt8.ofNat (3 : Nat)]).fst.snap ∧
                           x'.val.d.room = (x.val.d.swap [UInt8.ofNat (2 : Nat), UInt8.ofNat (3 : Nat)]).fst.room ∧
                            True) ∧
                    True) ∧
                   True))
              (∃ (x' : { x : R11 // P11 (w64 ((1 : Int) + wi n (12 : Int))) x }),
               ((30 : Int) - x'.val.i).toNat < ((30 : Int) - x.val.i).toNat ∧
                (w64 ((1 : Int) + wi n (12 : Int)) = w64 ((1 : Int) + wi n (12 : Int)) ∧
                  is kinds = is kinds ∧
                   ((0 : Nat) = (0 : Nat) ∧ (0 : Nat) = (0 : Nat)) ∧
                    x'.val.ops = IntKind.i64.wrap (x.val.ops + (1 : Int)) ∧
                     x'.val.i = IntKind.i64.wrap (x.val.i + (1 : Int)) ∧ True) ∧
                 ((x'.val.d.left = (x.val.d.swap [UInt8.ofNat (2 : Nat), UInt8.ofNat (3 : Nat)]).fst.left ∧
                    x'.val.d.odd = (x.val.d.swap [UInt8.ofNat (2 : Nat), UInt8.ofNat (3 : Nat)]).fst.odd ∧
                     x'.val.d.done = (x.val.d.swap [UInt8.ofNat (2 : Nat), UInt8.ofNat (3 : Nat)]).fst.done ∧
                      x'.val.d.dead = (x.val.d.swap [UInt8.ofNat (2 : Nat), UInt8.ofNat (3 : Nat)]).fst.dead ∧
                       bs x'.val.d.log = bs (x.val.d.swap [UInt8.ofNat (2 : Nat), UInt8.ofNat (3 : Nat)]).fst.log ∧
                        x'.val.d.synced = (x.val.d.swap [UInt8.ofNat (2 : Nat), UInt8.ofNat (3 : Nat)]).fst.synced ∧
                         bs x'.val.d.snap = bs (x.val.d.swap [UInt8.ofNat (2 : Nat), UInt8.ofNat (3 : Nat)]).fst.snap ∧
                          x'.val.d.room = (x.val.d.swap [UInt8.ofNat (2 : Nat), UInt8.ofNat (3 : Nat)]).fst.room ∧
                           True) ∧
                   True) ∧
                  True))))))
         False)
        (branch (wi (kinds.getD x.val.i.toNat (0 : Int)) (4 : Int) == (3 : Int))
         (branch
          ((S3 pD s23l).pre
           (Lv.mk x.val.d
            [UInt8.ofNat (0 : Nat), UInt8.ofNat (0 : Nat), UInt8.ofNat (0 : Nat), UInt8.ofNat (0 : Nat),
             UInt8.ofNat (0 : Nat), UInt8.ofNat (0 : Nat), UInt8.ofNat (0 : Nat), UInt8.ofNat (0 : Nat),
             UInt8.ofNat (0 : Nat), UInt8.ofNat (0 : Nat), UInt8.ofNat (0 : Nat), UInt8.ofNat (0 : Nat),
             UInt8.ofNat (0 : Nat), UInt8.ofNat (0 : Nat), UInt8.ofNat (0 : Nat), UInt8.ofNat (0 : Nat),
             UInt8.ofNat (0 : Nat), UInt8.ofNat (0 : Nat), UInt8.ofNat (0 : Nat), UInt8.ofNat (0 : Nat),
             UInt8.ofNat (0 : Nat), UInt8.ofNat (0 : Nat), UInt8.ofNat (0 : Nat), UInt8.ofNat (0 : Nat),
             UInt8.ofNat (0 : Nat), UInt8.ofNat (0 : Nat), UInt8.ofNat (0 : Nat), UInt8.ofNat (0 : Nat),
             UInt8.ofNat (0 : Nat), UInt8.ofNat (0 : Nat), UInt8.ofNat (0 : Nat), UInt8.ofNat (0 : Nat),
             UInt8.ofNat (0 : Nat), UInt8.ofNat (0 : Nat), UInt8.ofNat (0 : Nat), UInt8.ofNat (0 : Nat),
             UInt8.ofNat (0 : Nat), UInt8.ofNat (0 : Nat), UInt8.ofNat (0 : Nat), UInt8.ofNat (0 : Nat),
             UInt8.ofNat (0 : Nat), UInt8.ofNat (0 : Nat), UInt8.ofNat (0 : Nat), UInt8.ofNat (0 : Nat),
             UInt8.ofNat (0 : Nat), UInt8.ofNat (0 : Nat), UInt8.ofNat (0 : Nat), UInt8.ofNat (0 : Nat),
             UInt8.ofNat (0 : Nat), UInt8.ofNat (0 : Nat), UInt8.ofNat (0 : Nat), UInt8.ofNat (0 : Nat),
             UInt8.ofNat (0 : Nat), UInt8.ofNat (0 : Nat), UInt8.ofNat (0 : Nat), UInt8.ofNat (0 : Nat),
             UInt8.ofNat (0 : Nat), UInt8.ofNat (0 : Nat), UInt8.ofNat (0 : Nat), UInt8.ofNat (0 : Nat)]
            (0 : Nat) (60 : Nat) (Cap.exact (60 : Nat))))
          (branch (!x.val.d.dead)
           (branch
            ((x.val.d.append
               [UInt8.ofNat (0 : Nat), UInt8.ofNat (0 : Nat), UInt8.ofNat (0 : Nat), UInt8.ofNat (0 : Nat),
                UInt8.ofNat (0 : Nat), UInt8.ofNat (0 : Nat), UInt8.ofNat (0 : Nat), UInt8.ofNat (0 : Nat),
                UInt8.ofNat (0 : Nat), UInt8.ofNat (0 : Nat), UInt8.ofNat (0 : Nat), UInt8.ofNat (0 : Nat),
                UInt8.ofNat (0 : Nat), UInt8.ofNat (0 : Nat), UInt8.ofNat (0 : Nat), UInt8.ofNat (0 : Nat),
                UInt8.ofNat (0 : Nat), UInt8.ofNat (0 : Nat), UInt8.ofNat (0 : Nat), UInt8.ofNat (0 : Nat),
                UInt8.ofNat (0 : Nat), UInt8.ofNat (0 : Nat), UInt8.ofNat (0 : Nat), UInt8.ofNat (0 : Nat),
                UInt8.ofNat (0 : Nat), UInt8.ofNat (0 : Nat), UInt8.ofNat (0 : Nat), UInt8.ofNat (0 : Nat),
                UInt8.ofNat (0 : Nat), UInt8.ofNat (0 : Nat), UInt8.ofNat (0 : Nat), UInt8.ofNat (0 : Nat),
                UInt8.ofNat (0 : Nat), UInt8.ofNat (0 : Nat), UInt8.ofNat (0 : Nat), UInt8.ofNat (0 : Nat),
                UInt8.ofNat (0 : Nat), UInt8.ofNat (0 : Nat), UInt8.ofNat (0 : Nat), UInt8.ofNat (0 : Nat),
                UInt8.ofNat (0 : Nat), UInt8.ofNat (0 : Nat), UInt8.ofNat (0 : Nat), UInt8.ofNat (0 : Nat),
                UInt8.ofNat (0 : Nat), UInt8.ofNat (0 : Nat), UInt8.ofNat (0 : Nat), UInt8.ofNat (0 : Nat),
                UInt8.ofNat (0 : Nat), UInt8.ofNat (0 : Nat), UInt8.ofNat (0 : Nat), UInt8.ofNat (0 : Nat),
                UInt8.ofNat (0 : Nat), UInt8.ofNat (0 : Nat), UInt8.ofNat (0 : Nat), UInt8.ofNat (0 : Nat),
                UInt8.ofNat (0 : Nat), UInt8.ofNat (0 : Nat), UInt8.ofNat (0 : Nat), UInt8.ofNat (0 : Nat)]).snd !=
             (16 : Int))
            (false = true)
            (branch
             (x.val.d.append
                [UInt8.ofNat (0 : Nat), UInt8.ofNat (0 : Nat), UInt8.ofNat (0 : Nat), UInt8.ofNat (0 : Nat),
                 UInt8.ofNat (0 : Nat), UInt8.ofNat (0 : Nat), UInt8.ofNat (0 : Nat), UInt8.ofNat (0 : Nat),
                 UInt8.ofNat (0 : Nat), UInt8.ofNat (0 : Nat), UInt8.ofNat (0 : Nat), UInt8.ofNat (0 : Nat),
                 UInt8.ofNat (0 : Nat), UInt8.ofNat (0 : Nat), UInt8.ofNat (0 : Nat), UInt8.ofNat (0 : Nat),
                 UInt8.ofNat (0 : Nat), UInt8.ofNat (0 : Nat), UInt8.ofNat (0 : Nat), UInt8.ofNat (0 : Nat),
                 UInt8.ofNat (0 : Nat), UInt8.ofNat (0 : Nat), UInt8.ofNat (0 : Nat), UInt8.ofNat (0 : Nat),
                 UInt8.ofNat (0 : Nat), UInt8.ofNat (0 : Nat), UInt8.ofNat (0 : Nat), UInt8.ofNat (0 : Nat),
                 UInt8.ofNat (0 : Nat), UInt8.ofNat (0 : Nat), UInt8.ofNat (0 : Nat), UInt8.ofNat (0 : Nat),
                 UInt8.ofNat (0 : Nat), UInt8.ofNat (0 : Nat), UInt8.ofNat (0 : Nat), UInt8.ofNat (0 : Nat),
                 UInt8.ofNat (0 : Nat), UInt8.ofNat (0 : Nat), UInt8.ofNat (0 : Nat), UInt8.ofNat (0 : Nat),
                 UInt8.ofNat (0 : Nat), UInt8.ofNat (0 : Nat), UInt8.ofNat (0 : Nat), UInt8.ofNat (0 : Nat),
                 UInt8.ofNat (0 : Nat), UInt8.ofNat (0 : Nat), UInt8.ofNat (0 : Nat), UInt8.ofNat (0 : Nat),
                 UInt8.ofNat (0 : Nat), UInt8.ofNat (0 : Nat), UInt8.ofNat (0 : Nat), UInt8.ofNat (0 : Nat),
                 UInt8.ofNat (0 : Nat), UInt8.ofNat (0 : Nat), UInt8.ofNat (0 : Nat), UInt8.ofNat (0 : Nat),
                 UInt8.ofNat (0 : Nat), UInt8.ofNat (0 : Nat), UInt8.ofNat (0 : Nat), UInt8.ofNat (0 : Nat)]).fst.dead
             (false = true)
             (∃ (x' : { x : R11 // P11 (w64 ((1 : Int) + wi n (12 : Int))) x }),
              ((30 : Int) - x'.val.i).toNat < ((30 : Int) - x.val.i).toNat ∧
               (w64 ((1 : Int) + wi n (12 : Int)) = w64 ((1 : Int) + wi n (12 : Int)) ∧
                 is kinds = is kinds ∧
                  ((0 : Nat) = (0 : Nat) ∧ (0 : Nat) = (0 : Nat)) ∧
                   x'.val.ops = x.val.ops ∧ x'.val.i = IntKind.i64.wrap (x.val.i + (1 : Int)) ∧ True) ∧
                ((x'.val.d.left =
                    (x.val.d.append
                       [UInt8.ofNat (0 : Nat), UInt8.ofNat (0 : Nat), UInt8.ofNat (0 : Nat), UInt8.ofNat (0 : Nat),
                        UInt8.ofNat (0 : Nat), UInt8.ofNat (0 : Nat), UInt8.ofNat (0 : Nat), UInt8.ofNat (0 : Nat),
                        UInt8.ofNat (0 : Nat), UInt8.ofNat (0 : Nat), UInt8.ofNat (0 : Nat), UInt8.ofNat (0 : Nat),
                        UInt8.ofNat (0 : Nat), UInt8.ofNat (0 : Nat), UInt8.ofNat (0 : Nat), UInt8.ofNat (0 : Nat),
                        UInt8.ofNat (0 : Nat), UInt8.ofNat (0 : Nat), UInt8.ofNat (0 : Nat), UInt8.ofNat (0 : Nat),
                        UInt8.ofNat (0 : Nat), UInt8.ofNat (0 : Nat), UInt8.ofNat (0 : Nat), UInt8.ofNat (0 : Nat),
                        UInt8.ofNat (0 : Nat), UInt8.ofNat (0 : Nat), UInt8.ofNat (0 : Nat), UInt8.ofNat (0 : Nat),
                        UInt8.ofNat (0 : Nat), UInt8.ofNat (0 : Nat), UInt8.ofNat (0 : Nat), UInt8.ofNat (0 : Nat),
                        UInt8.ofNat (0 : Nat), UInt8.ofNat (0 : Nat), UInt8.ofNat (0 : Nat), UInt8.ofNat (0 : Nat),
                        UInt8.ofNat (0 : Nat), UInt8.ofNat (0 : Nat), UInt8.ofNat (0 : Nat), UInt8.ofNat (0 : Nat),
                        UInt8.ofNat (0 : Nat), UInt8.ofNat (0 : Nat), UInt8.ofNat (0 : Nat), UInt8.ofNat (0 : Nat),
                        UInt8.ofNat (0 : Nat), UInt8.ofNat (0 : Nat), UInt8.ofNat (0 : Nat), UInt8.ofNat (0 : Nat),
                        UInt8.ofNat (0 : Nat), UInt8.ofNat (0 : Nat), UInt8.ofNat (0 : Nat), UInt8.ofNat (0 : Nat),
                        UInt8.ofNat (0 : Nat), UInt8.ofNat (0 : Nat), UInt8.ofNat (0 : Nat), UInt8.ofNat (0 : Nat),
                        UInt8.ofNat (0 : Nat), UInt8.ofNat (0 : Nat), UInt8.ofNat (0 : Nat),
                        UInt8.ofNat (0 : Nat)]).fst.left ∧
                   x'.val.d.odd =
                     (x.val.d.append
                        [UInt8.ofNat (0 : Nat), UInt8.ofNat (0 : Nat), UInt8.ofNat (0 : Nat), UInt8.ofNat (0 : Nat),
                         UInt8.ofNat (0 : Nat), UInt8.ofNat (0 : Nat), UInt8.ofNat (0 : Nat), UInt8.ofNat (0 : Nat),
                         UInt8.ofNat (0 : Nat), UInt8.ofNat (0 : Nat), UInt8.ofNat (0 : Nat), UInt8.ofNat (0 : Nat),
                         UInt8.ofNat (0 : Nat), UInt8.ofNat (0 : Nat), UInt8.ofNat (0 : Nat), UInt8.ofNat (0 : Nat),
                         UInt8.ofNat (0 : Nat), UInt8.ofNat (0 : Nat), UInt8.ofNat (0 : Nat), UInt8.ofNat (0 : Nat),
                         UInt8.ofNat (0 : Nat), UInt8.ofNat (0 : Nat), UInt8.ofNat (0 : Nat), UInt8.ofNat (0 : Nat),
                         UInt8.ofNat (0 : Nat), UInt8.ofNat (0 : Nat), UInt8.ofNat (0 : Nat), UInt8.ofNat (0 : Nat),
                         UInt8.ofNat (0 : Nat), UInt8.ofNat (0 : Nat), UInt8.ofNat (0 : Nat), UInt8.ofNat (0 : Nat),
                         UInt8.ofNat (0 : Nat), UInt8.ofNat (0 : Nat), UInt8.ofNat (0 : Nat), UInt8.ofNat (0 : Nat),
                         UInt8.ofNat (0 : Nat), UInt8.ofNat (0 : Nat), UInt8.ofNat (0 : Nat), UInt8.ofNat (0 : Nat),
                         UInt8.ofNat (0 : Nat), UInt8.ofNat (0 : Nat), UInt8.ofNat (0 : Nat), UInt8.ofNat (0 : Nat),
                         UInt8.ofNat (0 : Nat), UInt8.ofNat (0 : Nat), UInt8.ofNat (0 : Nat), UInt8.ofNat (0 : Nat),
                         UInt8.ofNat (0 : Nat), UInt8.ofNat (0 : Nat), UInt8.ofNat (0 : Nat), UInt8.ofNat (0 : Nat),
                         UInt8.ofNat (0 : Nat), UInt8.ofNat (0 : Nat), UInt8.ofNat (0 : Nat), UInt8.ofNat (0 : Nat),
                         UInt8.ofNat (0 : Nat), UInt8.ofNat (0 : Nat), UInt8.ofNat (0 : Nat),
                         UInt8.ofNat (0 : Nat)]).fst.odd ∧
                    x'.val.d.done =
                      (x.val.d.append
                         [UInt8.ofNat (0 : Nat), UInt8.ofNat (0 : Nat), UInt8.ofNat (0 : Nat), UInt8.ofNat (0 : Nat),
                          UInt8.ofNat (0 : Nat), UInt8.ofNat (0 : Nat), UInt8.ofNat (0 : Nat), UInt8.ofNat (0 : Nat),
                          UInt8.ofNat (0 : Nat), UInt8.ofNat (0 : Nat), UInt8.ofNat (0 : Nat), UInt8.ofNat (0 : Nat),
                          UInt8.ofNat (0 : Nat), UInt8.ofNat (0 : Nat), UInt8.ofNat (0 : Nat), UInt8.ofNat (0 : Nat),
                          UInt8.ofNat (0 : Nat), UInt8.ofNat (0 : Nat), UInt8.ofNat (0 : Nat), UInt8.ofNat (0 : Nat),
                          UInt8.ofNat (0 : Nat), UInt8.ofNat (0 : Nat), UInt8.ofNat (0 : Nat), UInt8.ofNat (0 : Nat),
                          UInt8.ofNat (0 : Nat), UInt8.ofNat (0 : Nat), UInt8.ofNat (0 : Nat), UInt8.ofNat (0 : Nat),
                          UInt8.ofNat (0 : Nat), UInt8.ofNat (0 : Nat), UInt8.ofNat (0 : Nat), UInt8.ofNat (0 : Nat),
                          UInt8.ofNat (0 : Nat), UInt8.ofNat (0 : Nat), UInt8.ofNat (0 : Nat), UInt8.ofNat (0 : Nat),
                          UInt8.ofNat (0 : Nat), UInt8.ofNat (0 : Nat), UInt8.ofNat (0 : Nat), UInt8.ofNat (0 : Nat),
                          UInt8.ofNat (0 : Nat), UInt8.ofNat (0 : Nat), UInt8.ofNat (0 : Nat), UInt8.ofNat (0 : Nat),
                          UInt8.ofNat (0 : Nat), UInt8.ofNat (0 : Nat), UInt8.ofNat (0 : Nat), UInt8.ofNat (0 : Nat),
                          UInt8.ofNat (0 : Nat), UInt8.ofNat (0 : Nat), UInt8.ofNat (0 : Nat), UInt8.ofNat (0 : Nat),
                          UInt8.ofNat (0 : Nat), UInt8.ofNat (0 : Nat), UInt8.ofNat (0 : Nat), UInt8.ofNat (0 : Nat),
                          UInt8.ofNat (0 : Nat), UInt8.ofNat (0 : Nat), UInt8.ofNat (0 : Nat),
                          UInt8.ofNat (0 : Nat)]).fst.done ∧
                     x'.val.d.dead =
                       (x.val.d.append
                          [UInt8.ofNat (0 : Nat), UInt8.ofNat (0 : Nat), UInt8.ofNat (0 : Nat), UInt8.ofNat (0 : Nat),
                           UInt8.ofNat (0 : Nat), UInt8.ofNat (0 : Nat), UInt8.ofNat (0 : Nat), UInt8.ofNat (0 : Nat),
                           UInt8.ofNat (0 : Nat), UInt8.ofNat (0 : Nat), UInt8.ofNat (0 : Nat), UInt8.ofNat (0 : Nat),
                           UInt8.ofNat (0 : Nat), UInt8.ofNat (0 : Nat), UInt8.ofNat (0 : Nat), UInt8.ofNat (0 : Nat),
                           UInt8.ofNat (0 : Nat), UInt8.ofNat (0 : Nat), UInt8.ofNat (0 : Nat), UInt8.ofNat (0 : Nat),
                           UInt8.ofNat (0 : Nat), UInt8.ofNat (0 : Nat), UInt8.ofNat (0 : Nat), UInt8.ofNat (0 : Nat),
                           UInt8.ofNat (0 : Nat), UInt8.ofNat (0 : Nat), UInt8.ofNat (0 : Nat), UInt8.ofNat (0 : Nat),
                           UInt8.ofNat (0 : Nat), UInt8.ofNat (0 : Nat), UInt8.ofNat (0 : Nat), UInt8.ofNat (0 : Nat),
                           UInt8.ofNat (0 : Nat), UInt8.ofNat (0 : Nat), UInt8.ofNat (0 : Nat), UInt8.ofNat (0 : Nat),
                           UInt8.ofNat (0 : Nat), UInt8.ofNat (0 : Nat), UInt8.ofNat (0 : Nat), UInt8.ofNat (0 : Nat),
                           UInt8.ofNat (0 : Nat), UInt8.ofNat (0 : Nat), UInt8.ofNat (0 : Nat), UInt8.ofNat (0 : Nat),
                           UInt8.ofNat (0 : Nat), UInt8.ofNat (0 : Nat), UInt8.ofNat (0 : Nat), UInt8.ofNat (0 : Nat),
                           UInt8.ofNat (0 : Nat), UInt8.ofNat (0 : Nat), UInt8.ofNat (0 : Nat), UInt8.ofNat (0 : Nat),
                           UInt8.ofNat (0 : Nat), UInt8.ofNat (0 : Nat), UInt8.ofNat (0 : Nat), UInt8.ofNat (0 : Nat),
                           UInt8.ofNat (0 : Nat), UInt8.ofNat (0 : Nat), UInt8.ofNat (0 : Nat),
                           UInt8.ofNat (0 : Nat)]).fst.dead ∧
                      bs x'.val.d.log =
                        bs
                         (x.val.d.append
                            [UInt8.ofNat (0 : Nat), UInt8.ofNat (0 : Nat), UInt8.ofNat (0 : Nat), UInt8.ofNat (0 : Nat),
                             UInt8.ofNat (0 : Nat), UInt8.ofNat (0 : Nat), UInt8.ofNat (0 : Nat), UInt8.ofNat (0 : Nat),
                             UInt8.ofNat (0 : Nat), UInt8.ofNat (0 : Nat), UInt8.ofNat (0 : Nat), UInt8.ofNat (0 : Nat),
                             UInt8.ofNat (0 : Nat), UInt8.ofNat (0 : Nat), UInt8.ofNat (0 : Nat), UInt8.ofNat (0 : Nat),
                             UInt8.ofNat (0 : Nat), UInt8.ofNat (0 : Nat), UInt8.ofNat (0 : Nat), UInt8.ofNat (0 : Nat),
                             UInt8.ofNat (0 : Nat), UInt8.ofNat (0 : Nat), UInt8.ofNat (0 : Nat), UInt8.ofNat (0 : Nat),
                             UInt8.ofNat (0 : Nat), UInt8.ofNat (0 : Nat), UInt8.ofNat (0 : Nat), UInt8.ofNat (0 : Nat),
                             UInt8.ofNat (0 : Nat), UInt8.ofNat (0 : Nat), UInt8.ofNat (0 : Nat), UInt8.ofNat (0 : Nat),
                             UInt8.ofNat (0 : Nat), UInt8.ofNat (0 : Nat), UInt8.ofNat (0 : Nat), UInt8.ofNat (0 : Nat),
                             UInt8.ofNat (0 : Nat), UInt8.ofNat (0 : Nat), UInt8.ofNat (0 : Nat), UInt8.ofNat (0 : Nat),
                             UInt8.ofNat (0 : Nat), UInt8.ofNat (0 : Nat), UInt8.ofNat (0 : Nat), UInt8.ofNat (0 : Nat),
                             UInt8.ofNat (0 : Nat), UInt8.ofNat (0 : Nat), UInt8.ofNat (0 : Nat), UInt8.ofNat (0 : Nat),
                             UInt8.ofNat (0 : Nat), UInt8.ofNat (0 : Nat), UInt8.ofNat (0 : Nat), UInt8.ofNat (0 : Nat),
                             UInt8.ofNat (0 : Nat), UInt8.ofNat (0 : Nat), UInt8.ofNat (0 : Nat), UInt8.ofNat (0 : Nat),
                             UInt8.ofNat (0 : Nat), UInt8.ofNat (0 : Nat), UInt8.ofNat (0 : Nat),
                             UInt8.ofNat (0 : Nat)]).fst.log ∧
                       x'.val.d.synced =
                         (x.val.d.append
                            [UInt8.ofNat (0 : Nat), UInt8.ofNat (0 : Nat), UInt8.ofNat (0 : Nat), UInt8.ofNat (0 : Nat),
                             UInt8.ofNat (0 : Nat), UInt8.ofNat (0 : Nat), UInt8.ofNat (0 : Nat), UInt8.ofNat (0 : Nat),
                             UInt8.ofNat (0 : Nat), UInt8.ofNat (0 : Nat), UInt8.ofNat (0 : Nat), UInt8.ofNat (0 : Nat),
                             UInt8.ofNat (0 : Nat), UInt8.ofNat (0 : Nat), UInt8.ofNat (0 : Nat), UInt8.ofNat (0 : Nat),
                             UInt8.ofNat (0 : Nat), UInt8.ofNat (0 : Nat), UInt8.ofNat (0 : Nat), UInt8.ofNat (0 : Nat),
                             UInt8.ofNat (0 : Nat), UInt8.ofNat (0 : Nat), UInt8.ofNat (0 : Nat), UInt8.ofNat (0 : Nat),
                             UInt8.ofNat (0 : Nat), UInt8.ofNat (0 : Nat), UInt8.ofNat (0 : Nat), UInt8.ofNat (0 : Nat),
                             UInt8.ofNat (0 : Nat), UInt8.ofNat (0 : Nat), UInt8.ofNat (0 : Nat), UInt8.ofNat (0 : Nat),
                             UInt8.ofNat (0 : Nat), UInt8.ofNat (0 : Nat), UInt8.ofNat (0 : Nat), UInt8.ofNat (0 : Nat),
                             UInt8.ofNat (0 : Nat), UInt8.ofNat (0 : Nat), UInt8.ofNat (0 : Nat), UInt8.ofNat (0 : Nat),
                             UInt8.ofNat (0 : Nat), UInt8.ofNat (0 : Nat), UInt8.ofNat (0 : Nat), UInt8.ofNat (0 : Nat),
                             UInt8.ofNat (0 : Nat), UInt8.ofNat (0 : Nat), UInt8.ofNat (0 : Nat), UInt8.ofNat (0 : Nat),
                             UInt8.ofNat (0 : Nat), UInt8.ofNat (0 : Nat), UInt8.ofNat (0 : Nat), UInt8.ofNat (0 : Nat),
                             UInt8.ofNat (0 : Nat), UInt8.ofNat (0 : Nat), UInt8.ofNat (0 : Nat), UInt8.ofNat (0 : Nat),
                             UInt8.ofNat (0 : Nat), UInt8.ofNat (0 : Nat), UInt8.ofNat (0 : Nat),
                             UInt8.ofNat (0 : Nat)]).fst.synced ∧
                        bs x'.val.d.snap =
                          bs
                           (x.val.d.append
                              [UInt8.ofNat (0 : Nat), UInt8.ofNat (0 : Nat), UInt8.ofNat (0 : Nat),
                               UInt8.ofNat (0 : Nat), UInt8.ofNat (0 : Nat), UInt8.ofNat (0 : Nat),
                               UInt8.ofNat (0 : Nat), UInt8.ofNat (0 : Nat), UInt8.ofNat (0 : Nat),
                               UInt8.ofNat (0 : Nat), UInt8.ofNat (0 : Nat), UInt8.ofNat (0 : Nat),
                               UInt8.ofNat (0 : Nat), UInt8.ofNat (0 : Nat), UInt8.ofNat (0 : Nat),
                               UInt8.ofNat (0 : Nat), UInt8.ofNat (0 : Nat), UInt8.ofNat (0 : Nat),
                               UInt8.ofNat (0 : Nat), UInt8.ofNat (0 : Nat), UInt8.ofNat (0 : Nat),
                               UInt8.ofNat (0 : Nat), UInt8.ofNat (0 : Nat), UInt8.ofNat (0 : Nat),
                               UInt8.ofNat (0 : Nat), UInt8.ofNat (0 : Nat), UInt8.ofNat (0 : Nat),
                               UInt8.ofNat (0 : Nat), UInt8.ofNat (0 : Nat), UInt8.ofNat (0 : Nat),
                               UInt8.ofNat (0 : Nat), UInt8.ofNat (0 : Nat), UInt8.ofNat (0 : Nat),
                               UInt8.ofNat (0 : Nat), UInt8.ofNat (0 : Nat), UInt8.ofNat (0 : Nat),
                               UInt8.ofNat (0 : Nat), UInt8.ofNat (0 : Nat), UInt8.ofNat (0 : Nat),
                               UInt8.ofNat (0 : Nat), UInt8.ofNat (0 : Nat), UInt8.ofNat (0 : Nat),
                               UInt8.ofNat (0 : Nat), UInt8.ofNat (0 : Nat), UInt8.ofNat (0 : Nat),
                               UInt8.ofNat (0 : Nat), UInt8.ofNat (0 : Nat), UInt8.ofNat (0 : Nat),
                               UInt8.ofNat (0 : Nat), UInt8.ofNat (0 : Nat), UInt8.ofNat (0 : Nat),
                               UInt8.ofNat (0 : Nat), UInt8.ofNat (0 : Nat), UInt8.ofNat (0 : Nat),
                               UInt8.ofNat (0 : Nat), UInt8.ofNat (0 : Nat), UInt8.ofNat (0 : Nat),
                               UInt8.ofNat (0 : Nat), UInt8.ofNat (0 : Nat), UInt8.ofNat (0 : Nat)]).fst.snap ∧
                         x'.val.d.room =
                           (x.val.d.append
                              [UInt8.ofNat (0 : Nat), UInt8.ofNat (0 : Nat), UInt8.ofNat (0 : Nat),
                               UInt8.ofNat (0 : Nat), UInt8.ofNat (0 : Nat), UInt8.ofNat (0 : Nat),
                               UInt8.ofNat (0 : Nat), UInt8.ofNat (0 : Nat), UInt8.ofNat (0 : Nat),
                               UInt8.ofNat (0 : Nat), UInt8.ofNat (0 : Nat), UInt8.ofNat (0 : Nat),
                               UInt8.ofNat (0 : Nat), UInt8.ofNat (0 : Nat), UInt8.ofNat (0 : Nat),
                               UInt8.ofNat (0 : Nat), UInt8.ofNat (0 : Nat), UInt8.ofNat (0 : Nat),
                               UInt8.ofNat (0 : Nat), UInt8.ofNat (0 : Nat), UInt8.ofNat (0 : Nat),
                               UInt8.ofNat (0 : Nat), UInt8.ofNat (0 : Nat), UInt8.ofNat (0 : Nat),
                               UInt8.ofNat (0 : Nat), UInt8.ofNat (0 : Nat), UInt8.ofNat (0 : Nat),
                               UInt8.ofNat (0 : Nat), UInt8.ofNat (0 : Nat), UInt8.ofNat (0 : Nat),
                               UInt8.ofNat (0 : Nat), UInt8.ofNat (0 : Nat), UInt8.ofNat (0 : Nat),
                               UInt8.ofNat (0 : Nat), UInt8.ofNat (0 : Nat), UInt8.ofNat (0 : Nat),
                               UInt8.ofNat (0 : Nat), UInt8.ofNat (0 : Nat), UInt8.ofNat (0 : Nat),
                               UInt8.ofNat (0 : Nat), UInt8.ofNat (0 : Nat), UInt8.ofNat (0 : Nat),
                               UInt8.ofNat (0 : Nat), UInt8.ofNat (0 : Nat), UInt8.ofNat (0 : Nat),
                               UInt8.ofNat (0 : Nat), UInt8.ofNat (0 : Nat), UInt8.ofNat (0 : Nat),
                               UInt8.ofNat (0 : Nat), UInt8.ofNat (0 : Nat), UInt8.ofNat (0 : Nat),
                               UInt8.ofNat (0 : Nat), UInt8.ofNat (0 : Nat), UInt8.ofNat (0 : Nat),
                               UInt8.ofNat (0 : Nat), UInt8.ofNat (0 : Nat), UInt8.ofNat (0 : Nat),
                               UInt8.ofNat (0 : Nat), UInt8.ofNat (0 : Nat), UInt8.ofNat (0 : Nat)]).fst.room ∧
                          True) ∧
                  True) ∧
                 True)))
           (∃ (x' : { x : R11 // P11 (w64 ((1 : Int) + wi n (12 : Int))) x }),
            ((30 : Int) - x'.val.i).toNat < ((30 : Int) - x.val.i).toNat ∧
             (w64 ((1 : Int) + wi n (12 : Int)) = w64 ((1 : Int) + wi n (12 : Int)) ∧
               is kinds = is kinds ∧
                ((0 : Nat) = (0 : Nat) ∧ (0 : Nat) = (0 : Nat)) ∧
                 x'.val.ops = x.val.ops ∧ x'.val.i = IntKind.i64.wrap (x.val.i + (1 : Int)) ∧ True) ∧
              ((x'.val.d.left =
                  (x.val.d.append
                     [UInt8.ofNat (0 : Nat), UInt8.ofNat (0 : Nat), UInt8.ofNat (0 : Nat), UInt8.ofNat (0 : Nat),
                      UInt8.ofNat (0 : Nat), UInt8.ofNat (0 : Nat), UInt8.ofNat (0 : Nat), UInt8.ofNat (0 : Nat),
                      UInt8.ofNat (0 : Nat), UInt8.ofNat (0 : Nat), UInt8.ofNat (0 : Nat), UInt8.ofNat (0 : Nat),
                      UInt8.ofNat (0 : Nat), UInt8.ofNat (0 : Nat), UInt8.ofNat (0 : Nat), UInt8.ofNat (0 : Nat),
                      UInt8.ofNat (0 : Nat), UInt8.ofNat (0 : Nat), UInt8.ofNat (0 : Nat), UInt8.ofNat (0 : Nat),
                      UInt8.ofNat (0 : Nat), UInt8.ofNat (0 : Nat), UInt8.ofNat (0 : Nat), UInt8.ofNat (0 : Nat),
                      UInt8.ofNat (0 : Nat), UInt8.ofNat (0 : Nat), UInt8.ofNat (0 : Nat), UInt8.ofNat (0 : Nat),
                      UInt8.ofNat (0 : Nat), UInt8.ofNat (0 : Nat), UInt8.ofNat (0 : Nat), UInt8.ofNat (0 : Nat),
                      UInt8.ofNat (0 : Nat), UInt8.ofNat (0 : Nat), UInt8.ofNat (0 : Nat), UInt8.ofNat (0 : Nat),
                      UInt8.ofNat (0 : Nat), UInt8.ofNat (0 : Nat), UInt8.ofNat (0 : Nat), UInt8.ofNat (0 : Nat),
                      UInt8.ofNat (0 : Nat), UInt8.ofNat (0 : Nat), UInt8.ofNat (0 : Nat), UInt8.ofNat (0 : Nat),
                      UInt8.ofNat (0 : Nat), UInt8.ofNat (0 : Nat), UInt8.ofNat (0 : Nat), UInt8.ofNat (0 : Nat),
                      UInt8.ofNat (0 : Nat), UInt8.ofNat (0 : Nat), UInt8.ofNat (0 : Nat), UInt8.ofNat (0 : Nat),
                      UInt8.ofNat (0 : Nat), UInt8.ofNat (0 : Nat), UInt8.ofNat (0 : Nat), UInt8.ofNat (0 : Nat),
                      UInt8.ofNat (0 : Nat), UInt8.ofNat (0 : Nat), UInt8.ofNat (0 : Nat),
                      UInt8.ofNat (0 : Nat)]).fst.left ∧
                 x'.val.d.odd =
                   (x.val.d.append
                      [UInt8.ofNat (0 : Nat), UInt8.ofNat (0 : Nat), UInt8.ofNat (0 : Nat), UInt8.ofNat (0 : Nat),
                       UInt8.ofNat (0 : Nat), UInt8.ofNat (0 : Nat), UInt8.ofNat (0 : Nat), UInt8.ofNat (0 : Nat),
                       UInt8.ofNat (0 : Nat), UInt8.ofNat (0 : Nat), UInt8.ofNat (0 : Nat), UInt8.ofNat (0 : Nat),
                       UInt8.ofNat (0 : Nat), UInt8.ofNat (0 : Nat), UInt8.ofNat (0 : Nat), UInt8.ofNat (0 : Nat),
                       UInt8.ofNat (0 : Nat), UInt8.ofNat (0 : Nat), UInt8.ofNat (0 : Nat), UInt8.ofNat (0 : Nat),
                       UInt8.ofNat (0 : Nat), UInt8.ofNat (0 : Nat), UInt8.ofNat (0 : Nat), UInt8.ofNat (0 : Nat),
                       UInt8.ofNat (0 : Nat), UInt8.ofNat (0 : Nat), UInt8.ofNat (0 : Nat), UInt8.ofNat (0 : Nat),
                       UInt8.ofNat (0 : Nat), UInt8.ofNat (0 : Nat), UInt8.ofNat (0 : Nat), UInt8.ofNat (0 : Nat),
                       UInt8.ofNat (0 : Nat), UInt8.ofNat (0 : Nat), UInt8.ofNat (0 : Nat), UInt8.ofNat (0 : Nat),
                       UInt8.ofNat (0 : Nat), UInt8.ofNat (0 : Nat), UInt8.ofNat (0 : Nat), UInt8.ofNat (0 : Nat),
                       UInt8.ofNat (0 : Nat), UInt8.ofNat (0 : Nat), UInt8.ofNat (0 : Nat), UInt8.ofNat (0 : Nat),
                       UInt8.ofNat (0 : Nat), UInt8.ofNat (0 : Nat), UInt8.ofNat (0 : Nat), UInt8.ofNat (0 : Nat),
                       UInt8.ofNat (0 : Nat), UInt8.ofNat (0 : Nat), UInt8.ofNat (0 : Nat), UInt8.ofNat (0 : Nat),
                       UInt8.ofNat (0 : Nat), UInt8.ofNat (0 : Nat), UInt8.ofNat (0 : Nat), UInt8.ofNat (0 : Nat),
                       UInt8.ofNat (0 : Nat), UInt8.ofNat (0 : Nat), UInt8.ofNat (0 : Nat),
                       UInt8.ofNat (0 : Nat)]).fst.odd ∧
                  x'.val.d.done =
                    (x.val.d.append
                       [UInt8.ofNat (0 : Nat), UInt8.ofNat (0 : Nat), UInt8.ofNat (0 : Nat), UInt8.ofNat (0 : Nat),
                        UInt8.ofNat (0 : Nat), UInt8.ofNat (0 : Nat), UInt8.ofNat (0 : Nat), UInt8.ofNat (0 : Nat),
                        UInt8.ofNat (0 : Nat), UInt8.ofNat (0 : Nat), UInt8.ofNat (0 : Nat), UInt8.ofNat (0 : Nat),
                        UInt8.ofNat (0 : Nat), UInt8.ofNat (0 : Nat), UInt8.ofNat (0 : Nat), UInt8.ofNat (0 : Nat),
                        UInt8.ofNat (0 : Nat), UInt8.ofNat (0 : Nat), UInt8.ofNat (0 : Nat), UInt8.ofNat (0 : Nat),
                        UInt8.ofNat (0 : Nat), UInt8.ofNat (0 : Nat), UInt8.ofNat (0 : Nat), UInt8.ofNat (0 : Nat),
                        UInt8.ofNat (0 : Nat), UInt8.ofNat (0 : Nat), UInt8.ofNat (0 : Nat), UInt8.ofNat (0 : Nat),
                        UInt8.ofNat (0 : Nat), UInt8.ofNat (0 : Nat), UInt8.ofNat (0 : Nat), UInt8.ofNat (0 : Nat),
                        UInt8.ofNat (0 : Nat), UInt8.ofNat (0 : Nat), UInt8.ofNat (0 : Nat), UInt8.ofNat (0 : Nat),
                        UInt8.ofNat (0 : Nat), UInt8.ofNat (0 : Nat), UInt8.ofNat (0 : Nat), UInt8.ofNat (0 : Nat),
                        UInt8.ofNat (0 : Nat), UInt8.ofNat (0 : Nat), UInt8.ofNat (0 : Nat), UInt8.ofNat (0 : Nat),
                        UInt8.ofNat (0 : Nat), UInt8.ofNat (0 : Nat), UInt8.ofNat (0 : Nat), UInt8.ofNat (0 : Nat),
                        UInt8.ofNat (0 : Nat), UInt8.ofNat (0 : Nat), UInt8.ofNat (0 : Nat), UInt8.ofNat (0 : Nat),
                        UInt8.ofNat (0 : Nat), UInt8.ofNat (0 : Nat), UInt8.ofNat (0 : Nat), UInt8.ofNat (0 : Nat),
                        UInt8.ofNat (0 : Nat), UInt8.ofNat (0 : Nat), UInt8.ofNat (0 : Nat),
                        UInt8.ofNat (0 : Nat)]).fst.done ∧
                   x'.val.d.dead =
                     (x.val.d.append
                        [UInt8.ofNat (0 : Nat), UInt8.ofNat (0 : Nat), UInt8.ofNat (0 : Nat), UInt8.ofNat (0 : Nat),
                         UInt8.ofNat (0 : Nat), UInt8.ofNat (0 : Nat), UInt8.ofNat (0 : Nat), UInt8.ofNat (0 : Nat),
                         UInt8.ofNat (0 : Nat), UInt8.ofNat (0 : Nat), UInt8.ofNat (0 : Nat), UInt8.ofNat (0 : Nat),
                         UInt8.ofNat (0 : Nat), UInt8.ofNat (0 : Nat), UInt8.ofNat (0 : Nat), UInt8.ofNat (0 : Nat),
                         UInt8.ofNat (0 : Nat), UInt8.ofNat (0 : Nat), UInt8.ofNat (0 : Nat), UInt8.ofNat (0 : Nat),
                         UInt8.ofNat (0 : Nat), UInt8.ofNat (0 : Nat), UInt8.ofNat (0 : Nat), UInt8.ofNat (0 : Nat),
                         UInt8.ofNat (0 : Nat), UInt8.ofNat (0 : Nat), UInt8.ofNat (0 : Nat), UInt8.ofNat (0 : Nat),
                         UInt8.ofNat (0 : Nat), UInt8.ofNat (0 : Nat), UInt8.ofNat (0 : Nat), UInt8.ofNat (0 : Nat),
                         UInt8.ofNat (0 : Nat), UInt8.ofNat (0 : Nat), UInt8.ofNat (0 : Nat), UInt8.ofNat (0 : Nat),
                         UInt8.ofNat (0 : Nat), UInt8.ofNat (0 : Nat), UInt8.ofNat (0 : Nat), UInt8.ofNat (0 : Nat),
                         UInt8.ofNat (0 : Nat), UInt8.ofNat (0 : Nat), UInt8.ofNat (0 : Nat), UInt8.ofNat (0 : Nat),
                         UInt8.ofNat (0 : Nat), UInt8.ofNat (0 : Nat), UInt8.ofNat (0 : Nat), UInt8.ofNat (0 : Nat),
                         UInt8.ofNat (0 : Nat), UInt8.ofNat (0 : Nat), UInt8.ofNat (0 : Nat), UInt8.ofNat (0 : Nat),
                         UInt8.ofNat (0 : Nat), UInt8.ofNat (0 : Nat), UInt8.ofNat (0 : Nat), UInt8.ofNat (0 : Nat),
                         UInt8.ofNat (0 : Nat), UInt8.ofNat (0 : Nat), UInt8.ofNat (0 : Nat),
                         UInt8.ofNat (0 : Nat)]).fst.dead ∧
                    bs x'.val.d.log =
                      bs
                       (x.val.d.append
                          [UInt8.ofNat (0 : Nat), UInt8.ofNat (0 : Nat), UInt8.ofNat (0 : Nat), UInt8.ofNat (0 : Nat),
                           UInt8.ofNat (0 : Nat), UInt8.ofNat (0 : Nat), UInt8.ofNat (0 : Nat), UInt8.ofNat (0 : Nat),
                           UInt8.ofNat (0 : Nat), UInt8.ofNat (0 : Nat), UInt8.ofNat (0 : Nat), UInt8.ofNat (0 : Nat),
                           UInt8.ofNat (0 : Nat), UInt8.ofNat (0 : Nat), UInt8.ofNat (0 : Nat), UInt8.ofNat (0 : Nat),
                           UInt8.ofNat (0 : Nat), UInt8.ofNat (0 : Nat), UInt8.ofNat (0 : Nat), UInt8.ofNat (0 : Nat),
                           UInt8.ofNat (0 : Nat), UInt8.ofNat (0 : Nat), UInt8.ofNat (0 : Nat), UInt8.ofNat (0 : Nat),
                           UInt8.ofNat (0 : Nat), UInt8.ofNat (0 : Nat), UInt8.ofNat (0 : Nat), UInt8.ofNat (0 : Nat),
                           UInt8.ofNat (0 : Nat), UInt8.ofNat (0 : Nat), UInt8.ofNat (0 : Nat), UInt8.ofNat (0 : Nat),
                           UInt8.ofNat (0 : Nat), UInt8.ofNat (0 : Nat), UInt8.ofNat (0 : Nat), UInt8.ofNat (0 : Nat),
                           UInt8.ofNat (0 : Nat), UInt8.ofNat (0 : Nat), UInt8.ofNat (0 : Nat), UInt8.ofNat (0 : Nat),
                           UInt8.ofNat (0 : Nat), UInt8.ofNat (0 : Nat), UInt8.ofNat (0 : Nat), UInt8.ofNat (0 : Nat),
                           UInt8.ofNat (0 : Nat), UInt8.ofNat (0 : Nat), UInt8.ofNat (0 : Nat), UInt8.ofNat (0 : Nat),
                           UInt8.ofNat (0 : Nat), UInt8.ofNat (0 : Nat), UInt8.ofNat (0 : Nat), UInt8.ofNat (0 : Nat),
                           UInt8.ofNat (0 : Nat), UInt8.ofNat (0 : Nat), UInt8.ofNat (0 : Nat), UInt8.ofNat (0 : Nat),
                           UInt8.ofNat (0 : Nat), UInt8.ofNat (0 : Nat), UInt8.ofNat (0 : Nat),
                           UInt8.ofNat (0 : Nat)]).fst.log ∧
                     x'.val.d.synced =
                       (x.val.d.append
                          [UInt8.ofNat (0 : Nat), UInt8.ofNat (0 : Nat), UInt8.ofNat (0 : Nat), UInt8.ofNat (0 : Nat),
                           UInt8.ofNat (0 : Nat), UInt8.ofNat (0 : Nat), UInt8.ofNat (0 : Nat), UInt8.ofNat (0 : Nat),
                           UInt8.ofNat (0 : Nat), UInt8.ofNat (0 : Nat), UInt8.ofNat (0 : Nat), UInt8.ofNat (0 : Nat),
                           UInt8.ofNat (0 : Nat), UInt8.ofNat (0 : Nat), UInt8.ofNat (0 : Nat), UInt8.ofNat (0 : Nat),
                           UInt8.ofNat (0 : Nat), UInt8.ofNat (0 : Nat), UInt8.ofNat (0 : Nat), UInt8.ofNat (0 : Nat),
                           UInt8.ofNat (0 : Nat), UInt8.ofNat (0 : Nat), UInt8.ofNat (0 : Nat), UInt8.ofNat (0 : Nat),
                           UInt8.ofNat (0 : Nat), UInt8.ofNat (0 : Nat), UInt8.ofNat (0 : Nat), UInt8.ofNat (0 : Nat),
                           UInt8.ofNat (0 : Nat), UInt8.ofNat (0 : Nat), UInt8.ofNat (0 : Nat), UInt8.ofNat (0 : Nat),
                           UInt8.ofNat (0 : Nat), UInt8.ofNat (0 : Nat), UInt8.ofNat (0 : Nat), UInt8.ofNat (0 : Nat),
                           UInt8.ofNat (0 : Nat), UInt8.ofNat (0 : Nat), UInt8.ofNat (0 : Nat), UInt8.ofNat (0 : Nat),
                           UInt8.ofNat (0 : Nat), UInt8.ofNat (0 : Nat), UInt8.ofNat (0 : Nat), UInt8.ofNat (0 : Nat),
                           UInt8.ofNat (0 : Nat), UInt8.ofNat (0 : Nat), UInt8.ofNat (0 : Nat), UInt8.ofNat (0 : Nat),
                           UInt8.ofNat (0 : Nat), UInt8.ofNat (0 : Nat), UInt8.ofNat (0 : Nat), UInt8.ofNat (0 : Nat),
                           UInt8.ofNat (0 : Nat), UInt8.ofNat (0 : Nat), UInt8.ofNat (0 : Nat), UInt8.ofNat (0 : Nat),
                           UInt8.ofNat (0 : Nat), UInt8.ofNat (0 : Nat), UInt8.ofNat (0 : Nat),
                           UInt8.ofNat (0 : Nat)]).fst.synced ∧
                      bs x'.val.d.snap =
                        bs
                         (x.val.d.append
                            [UInt8.ofNat (0 : Nat), UInt8.ofNat (0 : Nat), UInt8.ofNat (0 : Nat), UInt8.ofNat (0 : Nat),
                             UInt8.ofNat (0 : Nat), UInt8.ofNat (0 : Nat), UInt8.ofNat (0 : Nat), UInt8.ofNat (0 : Nat),
                             UInt8.ofNat (0 : Nat), UInt8.ofNat (0 : Nat), UInt8.ofNat (0 : Nat), UInt8.ofNat (0 : Nat),
                             UInt8.ofNat (0 : Nat), UInt8.ofNat (0 : Nat), UInt8.ofNat (0 : Nat), UInt8.ofNat (0 : Nat),
                             UInt8.ofNat (0 : Nat), UInt8.ofNat (0 : Nat), UInt8.ofNat (0 : Nat), UInt8.ofNat (0 : Nat),
                             UInt8.ofNat (0 : Nat), UInt8.ofNat (0 : Nat), UInt8.ofNat (0 : Nat), UInt8.ofNat (0 : Nat),
                             UInt8.ofNat (0 : Nat), UInt8.ofNat (0 : Nat), UInt8.ofNat (0 : Nat), UInt8.ofNat (0 : Nat),
                             UInt8.ofNat (0 : Nat), UInt8.ofNat (0 : Nat), UInt8.ofNat (0 : Nat), UInt8.ofNat (0 : Nat),
                             UInt8.ofNat (0 : Nat), UInt8.ofNat (0 : Nat), UInt8.ofNat (0 : Nat), UInt8.ofNat (0 : Nat),
                             UInt8.ofNat (0 : Nat), UInt8.ofNat (0 : Nat), UInt8.ofNat (0 : Nat), UInt8.ofNat (0 : Nat),
                             UInt8.ofNat (0 : Nat), UInt8.ofNat (0 : Nat), UInt8.ofNat (0 : Nat), UInt8.ofNat (0 : Nat),
                             UInt8.ofNat (0 : Nat), UInt8.ofNat (0 : Nat), UInt8.ofNat (0 : Nat), UInt8.ofNat (0 : Nat),
                             UInt8.ofNat (0 : Nat), UInt8.ofNat (0 : Nat), UInt8.ofNat (0 : Nat), UInt8.ofNat (0 : Nat),
                             UInt8.ofNat (0 : Nat), UInt8.ofNat (0 : Nat), UInt8.ofNat (0 : Nat), UInt8.ofNat (0 : Nat),
                             UInt8.ofNat (0 : Nat), UInt8.ofNat (0 : Nat), UInt8.ofNat (0 : Nat),
                             UInt8.ofNat (0 : Nat)]).fst.snap ∧
                       x'.val.d.room =
                         (x.val.d.append
                            [UInt8.ofNat (0 : Nat), UInt8.ofNat (0 : Nat), UInt8.ofNat (0 : Nat), UInt8.ofNat (0 : Nat),
                             UInt8.ofNat (0 : Nat), UInt8.ofNat (0 : Nat), UInt8.ofNat (0 : Nat), UInt8.ofNat (0 : Nat),
                             UInt8.ofNat (0 : Nat), UInt8.ofNat (0 : Nat), UInt8.ofNat (0 : Nat), UInt8.ofNat (0 : Nat),
                             UInt8.ofNat (0 : Nat), UInt8.ofNat (0 : Nat), UInt8.ofNat (0 : Nat), UInt8.ofNat (0 : Nat),
                             UInt8.ofNat (0 : Nat), UInt8.ofNat (0 : Nat), UInt8.ofNat (0 : Nat), UInt8.ofNat (0 : Nat),
                             UInt8.ofNat (0 : Nat), UInt8.ofNat (0 : Nat), UInt8.ofNat (0 : Nat), UInt8.ofNat (0 : Nat),
                             UInt8.ofNat (0 : Nat), UInt8.ofNat (0 : Nat), UInt8.ofNat (0 : Nat), UInt8.ofNat (0 : Nat),
                             UInt8.ofNat (0 : Nat), UInt8.ofNat (0 : Nat), UInt8.ofNat (0 : Nat), UInt8.ofNat (0 : Nat),
                             UInt8.ofNat (0 : Nat), UInt8.ofNat (0 : Nat), UInt8.ofNat (0 : Nat), UInt8.ofNat (0 : Nat),
                             UInt8.ofNat (0 : Nat), UInt8.ofNat (0 : Nat), UInt8.ofNat (0 : Nat), UInt8.ofNat (0 : Nat),
                             UInt8.ofNat (0 : Nat), UInt8.ofNat (0 : Nat), UInt8.ofNat (0 : Nat), UInt8.ofNat (0 : Nat),
                             UInt8.ofNat (0 : Nat), UInt8.ofNat (0 : Nat), UInt8.ofNat (0 : Nat), UInt8.ofNat (0 : Nat),
                             UInt8.ofNat (0 : Nat), UInt8.ofNat (0 : Nat), UInt8.ofNat (0 : Nat), UInt8.ofNat (0 : Nat),
                             UInt8.ofNat (0 : Nat), UInt8.ofNat (0 : Nat), UInt8.ofNat (0 : Nat), UInt8.ofNat (0 : Nat),
                             UInt8.ofNat (0 : Nat), UInt8.ofNat (0 : Nat), UInt8.ofNat (0 : Nat),
                             UInt8.ofNat (0 : Nat)]).fst.room ∧
                        True) ∧
                True) ∧
               True))
          False)
         (branch x.val.d.dead (false = true)
          (branch (!false == (IntKind.i64.wrap (x.val.ops + (1 : Int)) == w64 ((1 : Int) + wi n (12 : Int))))
           (false = true)
           (branch (!x.val.d.dead == (IntKind.i64.wrap (x.val.ops + (1 : Int)) == w64 ((1 : Int) + wi n (12 : Int))))
            (false = true)
            (branch
             (x.val.d.done !=
              if
                IntKind.i64.wrap (w64 ((1 : Int) + wi n (12 : Int)) - (1 : Int)) <
                 IntKind.i64.wrap (x.val.ops + (1 : Int)) then
               IntKind.i64.wrap (w64 ((1 : Int) + wi n (12 : Int)) - (1 : Int))
              else IntKind.i64.wrap (x.val.ops + (1 : Int)))
             (false = true)
             (∃ (x' : { x : R11 // P11 (w64 ((1 : Int) + wi n (12 : Int))) x }),
              ((30 : Int) - x'.val.i).toNat < ((30 : Int) - x.val.i).toNat ∧
               (w64 ((1 : Int) + wi n (12 : Int)) = w64 ((1 : Int) + wi n (12 : Int)) ∧
                 is kinds = is kinds ∧
                  ((0 : Nat) = (0 : Nat) ∧ (0 : Nat) = (0 : Nat)) ∧
                   x'.val.ops = IntKind.i64.wrap (x.val.ops + (1 : Int)) ∧
                    x'.val.i = IntKind.i64.wrap (x.val.i + (1 : Int)) ∧ True) ∧
                ((x'.val.d.left = x.val.d.left ∧
                   x'.val.d.odd = x.val.d.odd ∧
                    x'.val.d.done = x.val.d.done ∧
                     x'.val.d.dead = x.val.d.dead ∧
                      bs x'.val.d.log = bs x.val.d.log ∧
                       x'.val.d.synced = x.val.d.synced ∧
                        bs x'.val.d.snap = bs x.val.d.snap ∧ x'.val.d.room = x.val.d.room ∧ True) ∧
                  True) ∧
                 True)))))))))
     False)
    (branch ((S1 DSt.fine s28).pre (x.val.d, (0 : Int)))
     (branch
      ((S0 DSt.fine s29).pre
       (DSt.mk (x.val.d.crash (0 : Int)).left (x.val.d.crash (0 : Int)).odd (x.val.d.crash (0 : Int)).done false
        (x.val.d.crash (0 : Int)).log (x.val.d.crash (0 : Int)).synced (x.val.d.crash (0 : Int)).snap
        (x.val.d.crash (0 : Int)).room))
      (true = true) False)
     False))
   (branch ((S1 DSt.fine s28).pre (x.val.d, (0 : Int)))
    (branch
     ((S0 DSt.fine s29).pre
      (DSt.mk (x.val.d.crash (0 : Int)).left (x.val.d.crash (0 : Int)).odd (x.val.d.crash (0 : Int)).done false
       (x.val.d.crash (0 : Int)).log (x.val.d.crash (0 : Int)).synced (x.val.d.crash (0 : Int)).snap
       (x.val.d.crash (0 : Int)).room))
     (true = true) False)
    False)) := by kernel_rfl
end Go.Proofs.Ytaencddffbmdeaa
