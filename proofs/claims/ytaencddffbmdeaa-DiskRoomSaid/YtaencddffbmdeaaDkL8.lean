/- What is left to be shown of a statement of disk. No conditions. -/
import Derived.Test.YtaencddffbmdeaaDkL
namespace Go.Proofs.Ytaencddffbmdeaa
open Go Go.W Go.Proofs
set_option maxRecDepth 100000
theorem v8 (room : Int) (sizes : List
 Int) : (awpFun regK Try.prog hd3 (1000 : Nat) A8 (L8 (w64 ((1 : Int) + wi room (200 : Int))) sizes) noJ Try.f8
 [vi room, V.d (D.sl (3 : Nat) sizes)] fun (r : V regK.T × Hp regK.T) => yes r.fst) = (
  branch (inR (IntKind.i64.wrap ((1 : Int) + wi room (200 : Int))))
 ((∃ (x : { x : R8 // P8 (w64 ((1 : Int) + wi room (200 : Int))) x }),
   (w64 ((1 : Int) + wi room (200 : Int)) = IntKind.i64.wrap ((1 : Int) + wi room (200 : Int)) ∧
     is sizes = is sizes ∧
      ((0 : Nat) = (0 : Nat) ∧ (0 : Nat) = (0 : Nat)) ∧
       (↑x.val.d.log.length : Int) = (0 : Int) ∧
        (↑x.val.d.snap.length : Int) = (0 : Int) ∧ x.val.i = (0 : Int) ∧ True) ∧
    ((x.val.d.left = (0 : Int) ∧
       x.val.d.odd = (0 : Int) ∧
        x.val.d.done = (0 : Int) ∧
         x.val.d.dead = false ∧
          bs x.val.d.log = bs [] ∧
           x.val.d.synced = (0 : Int) ∧
            bs x.val.d.snap = bs [] ∧ x.val.d.room = IntKind.i64.wrap ((1 : Int) + wi room (200 : Int)) ∧ True) ∧
      True) ∧
     True) ∧
  ∀ (x : { x : R8 // P8 (w64 ((1 : Int) + wi room (200 : Int))) x }),
   branch (decide (x.val.i < (↑sizes.length : Int)))
    (branch (decide (x.val.i < (30 : Int)))
     (branch (decide ((0 : Int) ≤ x.val.i) && decide (x.val.i < (↑sizes.length : Int)) && true && true)
      (∀ (y : Int),
       y = wi (IntKind.i64.wrap (Int.tdiv (sizes.getD x.val.i.toNat (regK.dflt (3 : Nat))) (2 : Int))) (60 : Int) →
        branch (decide ((0 : Int) ≤ x.val.i) && decide (x.val.i < (↑sizes.length : Int)) && true && true)
         (branch (Int.tmod (sizes.getD x.val.i.toNat (0 : Int)) (2 : Int) == (0 : Int))
          (branch
           (decide
            (IntKind.i64.wrap (IntKind.i64.wrap ((↑x.val.d.log.length : Int) + (↑x.val.d.snap.length : Int)) + y) >
             w64 ((1 : Int) + wi room (200 : Int))))
           (branch
            (decide ((0 : Int) ≤ y) && decide (y ≤ y) && decide (y ≤ (9223372036854775807 : Int)) &&
               decide ((↑(Try.prog.bytesOf (5 : Nat)) : Int) * y ≤ (140737488355328 : Int)) &&
              true &&
             true)
            (branch
             ((S3 pD s23l).pre
              (Lv.mk x.val.d (List.replicate y.toNat (UInt8.ofNat (nat_lit 0))) (0 : Nat) y.toNat (Cap.exact y.toNat)))
             (∀ (y_1 : Int),
              y_1 =
                (x.val.d.append
                  (Lv.mk x.val.d (List.replicate y.toNat (UInt8.ofNat (nat_lit 0))) (0 : Nat) y.toNat
                    (Cap.exact y.toNat)).bytes).snd →
               ∀ (y_2 : Int),
                y_2 =
                  (x.val.d.append
                     (Lv.mk x.val.d (List.replicate y.toNat (UInt8.ofNat (nat_lit 0))) (0 : Nat) y.toNat
                       (Cap.exact y.toNat)).bytes).fst.left →
                 ∀ (y_3 : Int),
                  y_3 =
                    (x.val.d.append
                       (Lv.mk x.val.d (List.replicate y.toNat (UInt8.ofNat (nat_lit 0))) (0 : Nat) y.toNat
                         (Cap.exact y.toNat)).bytes).fst.odd →
                   ∀ (y_4 : Int),
                    y_4 =
                      (x.val.d.append
                         (Lv.mk x.val.d (List.replicate y.toNat (UInt8.ofNat (nat_lit 0))) (0 : Nat) y.toNat
                           (Cap.exact y.toNat)).bytes).fst.done →
                     ∀ (y_5 : Bool),
                      y_5 =
                        (x.val.d.append
                           (Lv.mk x.val.d (List.replicate y.toNat (UInt8.ofNat (nat_lit 0))) (0 : Nat) y.toNat
                             (Cap.exact y.toNat)).bytes).fst.dead →
                       ∀ (y_6 : List UInt8),
                        y_6 =
                          (x.val.d.append
                             (Lv.mk x.val.d (List.replicate y.toNat (UInt8.ofNat (nat_lit 0))) (0 : Nat) y.toNat
                               (Cap.exact y.toNat)).bytes).fst.log →
                         ∀ (y_7 : Int),
                          y_7 =
                            (x.val.d.append
                               (Lv.mk x.val.d (List.replicate y.toNat (UInt8.ofNat (nat_lit 0))) (0 : Nat) y.toNat
                                 (Cap.exact y.toNat)).bytes).fst.synced →
                           ∀ (y_8 : List UInt8),
                            y_8 =
                              (x.val.d.append
                                 (Lv.mk x.val.d (List.replicate y.toNat (UInt8.ofNat (nat_lit 0))) (0 : Nat) y.toNat
                                   (Cap.exact y.toNat)).bytes).fst.snap →
                             ∀ (y_9 : Int),
                              y_9 =
                                (x.val.d.append
                                   (Lv.mk x.val.d (List.replicate y.toNat (UInt8.ofNat (nat_lit 0))) (0 : Nat) y.toNat
                                     (Cap.exact y.toNat)).bytes).fst.room →
                               branch (y_1 != (16 : Int)) (false = true)
                                (branch ((S0 DSt.fine s25).pre (DSt.mk y_2 y_3 y_4 y_5 y_6 y_7 y_8 y_9))
                                 (branch ((↑y_6.length : Int) != (↑x.val.d.log.length : Int)) (false = true)
                                  (branch ((S0 DSt.fine s26).pre (DSt.mk y_2 y_3 y_4 y_5 y_6 y_7 y_8 y_9))
                                   (branch ((↑y_8.length : Int) != (↑x.val.d.snap.length : Int)) (false = true)
                                    (∃ (x' : { x : R8 // P8 (w64 ((1 : Int) + wi room (200 : Int))) x }),
                                     ((30 : Int) - x'.val.i).toNat < ((30 : Int) - x.val.i).toNat ∧
                                      (w64 ((1 : Int) + wi room (200 : Int)) = w64 ((1 : Int) + wi room (200 : Int)) ∧
                                        is sizes = is sizes ∧
                                         ((0 : Nat) = (0 : Nat) ∧ (0 : Nat) = (0 : Nat)) ∧
                                          (↑x'.val.d.log.length : Int) = (↑x.val.d.log.length : Int) ∧
                                           (↑x'.val.d.snap.length : Int) = (↑x.val.d.snap.length : Int) ∧
                                            x'.val.i = IntKind.i64.wrap (x.val.i + (1 : Int)) ∧ True) ∧
                                       ((x'.val.d.left = y_2 ∧
                                          x'.val.d.odd = y_3 ∧
                                           x'.val.d.done = y_4 ∧
                                            x'.val.d.dead = y_5 ∧
                                             bs x'.val.d.log = bs y_6 ∧
                                              x'.val.d.synced = y_7 ∧
                                               bs x'.val.d.snap = bs y_8 ∧ x'.val.d.room = y_9 ∧ True) ∧
                                         True) ∧
                                        True))
                                   False))
                                 False))
             False)
            False)
           (∀ (y_1 : Int),
            y_1 = IntKind.i64.wrap ((↑x.val.d.log.length : Int) + y) →
             branch
              (decide ((0 : Int) ≤ y) && decide (y ≤ y) && decide (y ≤ (9223372036854775807 : Int)) &&
                 decide ((↑(Try.prog.bytesOf (5 : Nat)) : Int) * y ≤ (140737488355328 : Int)) &&
                true &&
               true)
              (branch
               ((S3 pD s23l).pre
                (Lv.mk x.val.d (List.replicate y.toNat (UInt8.ofNat (nat_lit 0))) (0 : Nat) y.toNat
                 (Cap.exact y.toNat)))
               (∀ (y_2 : Int),
                y_2 =
                  (x.val.d.append
                    (Lv.mk x.val.d (List.replicate y.toNat (UInt8.ofNat (nat_lit 0))) (0 : Nat) y.toNat
                      (Cap.exact y.toNat)).bytes).snd →
                 ∀ (y_3 : Int),
                  y_3 =
                    (x.val.d.append
                       (Lv.mk x.val.d (List.replicate y.toNat (UInt8.ofNat (nat_lit 0))) (0 : Nat) y.toNat
                         (Cap.exact y.toNat)).bytes).fst.left →
                   ∀ (y_4 : Int),
                    y_4 =
                      (x.val.d.append
                         (Lv.mk x.val.d (List.replicate y.toNat (UInt8.ofNat (nat_lit 0))) (0 : Nat) y.toNat
                           (Cap.exact y.toNat)).bytes).fst.odd →
                     ∀ (y_5 : Int),
                      y_5 =
                        (x.val.d.append
                           (Lv.mk x.val.d (List.replicate y.toNat (UInt8.ofNat (nat_lit 0))) (0 : Nat) y.toNat
                             (Cap.exact y.toNat)).bytes).fst.done →
                       ∀ (y_6 : Bool),
                        y_6 =
                          (x.val.d.append
                             (Lv.mk x.val.d (List.replicate y.toNat (UInt8.ofNat (nat_lit 0))) (0 : Nat) y.toNat
                               (Cap.exact y.toNat)).bytes).fst.dead →
                         ∀ (y_7 : List UInt8),
                          y_7 =
                            (x.val.d.append
                               (Lv.mk x.val.d (List.replicate y.toNat (UInt8.ofNat (nat_lit 0))) (0 : Nat) y.toNat
                                 (Cap.exact y.toNat)).bytes).fst.log →
                           ∀ (y_8 : Int),
                            y_8 =
                              (x.val.d.append
                                 (Lv.mk x.val.d (List.replicate y.toNat (UInt8.ofNat (nat_lit 0))) (0 : Nat) y.toNat
                                   (Cap.exact y.toNat)).bytes).fst.synced →
                             ∀ (y_9 : List UInt8),
                              y_9 =
                                (x.val.d.append
                                   (Lv.mk x.val.d (List.replicate y.toNat (UInt8.ofNat (nat_lit 0))) (0 : Nat) y.toNat
                                     (Cap.exact y.toNat)).bytes).fst.snap →
                               ∀ (y_10 : Int),
                                y_10 =
                                  (x.val.d.append
                                     (Lv.mk x.val.d (List.replicate y.toNat (UInt8.ofNat (nat_lit 0))) (0 : Nat) y.toNat
                                       (Cap.exact y.toNat)).bytes).fst.room →
                                 branch (y_2 != (0 : Int)) (false = true)
                                  (branch ((S0 DSt.fine s25).pre (DSt.mk y_3 y_4 y_5 y_6 y_7 y_8 y_9 y_10))
                                   (branch ((↑y_7.length : Int) != y_1) (false = true)
                                    (branch ((S0 DSt.fine s26).pre (DSt.mk y_3 y_4 y_5 y_6 y_7 y_8 y_9 y_10))
                                     (branch ((↑y_9.length : Int) != (↑x.val.d.snap.length : Int)) (false = true)
                                      (∃ (x' : { x : R8 // P8 (w64 ((1 : Int) + wi room (200 : Int))) x }),
                                       ((30 : Int) - x'.val.i).toNat < ((30 : Int) - x.val.i).toNat ∧
                                        (w64 ((1 : Int) + wi room (200 : Int)) = w64 ((1 : Int) + wi room (200 : Int)) ∧
                                          is sizes = is sizes ∧
                                           ((0 : Nat) = (0 : Nat) ∧ (0 : Nat) = (0 : Nat)) ∧
                                            (↑x'.val.d.log.length : Int) = y_1 ∧
                                             (↑x'.val.d.snap.length : Int) = (↑x.val.d.snap.length : Int) ∧
                                              x'.val.i = IntKind.i64.wrap (x.val.i + (1 : Int)) ∧ True) ∧
                                         ((x'.val.d.left = y_3 ∧
                                            x'.val.d.odd = y_4 ∧
                                             x'.val.d.done = y_5 ∧
                                              x'.val.d.dead = y_6 ∧
                                               bs x'.val.d.log = bs y_7 ∧
                                                x'.val.d.synced = y_8 ∧
                                                 bs x'.val.d.snap = bs y_9 ∧ x'.val.d.room = y_10 ∧ True) ∧
                                           True) ∧
                                          True))
                                     False))
                                   False))
               False)
              False))
          (branch (decide (y > w64 ((1 : Int) + wi room (200 : Int))))
           (branch
            (decide ((0 : Int) ≤ y) && decide (y ≤ y) && decide (y ≤ (9223372036854775807 : Int)) &&
               decide ((↑(Try.prog.bytesOf (5 : Nat)) : Int) * y ≤ (140737488355328 : Int)) &&
              true &&
             true)
            (branch
             ((S3 pD s24l).pre
              (Lv.mk x.val.d (List.replicate y.toNat (UInt8.ofNat (nat_lit 0))) (0 : Nat) y.toNat (Cap.exact y.toNat)))
             (∀ (y_1 : Int),
              y_1 =
                (x.val.d.swap
                  (Lv.mk x.val.d (List.replicate y.toNat (UInt8.ofNat (nat_lit 0))) (0 : Nat) y.toNat
                    (Cap.exact y.toNat)).bytes).snd →
               ∀ (y_2 : Int),
                y_2 =
                  (x.val.d.swap
                     (Lv.mk x.val.d (List.replicate y.toNat (UInt8.ofNat (nat_lit 0))) (0 : Nat) y.toNat
                       (Cap.exact y.toNat)).bytes).fst.left →
                 ∀ (y_3 : Int),
                  y_3 =
                    (x.val.d.swap
                       (Lv.mk x.val.d (List.replicate y.toNat (UInt8.ofNat (nat_lit 0))) (0 : Nat) y.toNat
                         (Cap.exact y.toNat)).bytes).fst.odd →
                   ∀ (y_4 : Int),
                    y_4 =
                      (x.val.d.swap
                         (Lv.mk x.val.d (List.replicate y.toNat (UInt8.ofNat (nat_lit 0))) (0 : Nat) y.toNat
                           (Cap.exact y.toNat)).bytes).fst.done →
                     ∀ (y_5 : Bool),
                      y_5 =
                        (x.val.d.swap
                           (Lv.mk x.val.d (List.replicate y.toNat (UInt8.ofNat (nat_lit 0))) (0 : Nat) y.toNat
                             (Cap.exact y.toNat)).bytes).fst.dead →
                       ∀ (y_6 : List UInt8),
                        y_6 =
                          (x.val.d.swap
                             (Lv.mk x.val.d (List.replicate y.toNat (UInt8.ofNat (nat_lit 0))) (0 : Nat) y.toNat
                               (Cap.exact y.toNat)).bytes).fst.log →
                         ∀ (y_7 : Int),
                          y_7 =
                            (x.val.d.swap
                               (Lv.mk x.val.d (List.replicate y.toNat (UInt8.ofNat (nat_lit 0))) (0 : Nat) y.toNat
                                 (Cap.exact y.toNat)).bytes).fst.synced →
                           ∀ (y_8 : List UInt8),
                            y_8 =
                              (x.val.d.swap
                                 (Lv.mk x.val.d (List.replicate y.toNat (UInt8.ofNat (nat_lit 0))) (0 : Nat) y.toNat
                                   (Cap.exact y.toNat)).bytes).fst.snap →
                             ∀ (y_9 : Int),
                              y_9 =
                                (x.val.d.swap
                                   (Lv.mk x.val.d (List.replicate y.toNat (UInt8.ofNat (nat_lit 0))) (0 : Nat) y.toNat
                                     (Cap.exact y.toNat)).bytes).fst.room →
                               branch (y_1 != (16 : Int)) (false = true)
                                (branch ((S0 DSt.fine s25).pre (DSt.mk y_2 y_3 y_4 y_5 y_6 y_7 y_8 y_9))
                                 (branch ((↑y_6.length : Int) != (↑x.val.d.log.length : Int)) (false = true)
                                  (branch ((S0 DSt.fine s26).pre (DSt.mk y_2 y_3 y_4 y_5 y_6 y_7 y_8 y_9))
                                   (branch ((↑y_8.length : Int) != (↑x.val.d.snap.length : Int)) (false = true)
                                    (∃ (x' : { x : R8 // P8 (w64 ((1 : Int) + wi room (200 : Int))) x }),
                                     ((30 : Int) - x'.val.i).toNat < ((30 : Int) - x.val.i).toNat ∧
                                      (w64 ((1 : Int) + wi room (200 : Int)) = w64 ((1 : Int) + wi room (200 : Int)) ∧
                                        is sizes = is sizes ∧
                                         ((0 : Nat) = (0 : Nat) ∧ (0 : Nat) = (0 : Nat)) ∧
                                          (↑x'.val.d.log.length : Int) = (↑x.val.d.log.length : Int) ∧
                                           (↑x'.val.d.snap.length : Int) = (↑x.val.d.snap.length : Int) ∧
                                            x'.val.i = IntKind.i64.wrap (x.val.i + (1 : Int)) ∧ True) ∧
                                       ((x'.val.d.left = y_2 ∧
                                          x'.val.d.odd = y_3 ∧
                                           x'.val.d.done = y_4 ∧
                                            x'.val.d.dead = y_5 ∧
                                             bs x'.val.d.log = bs y_6 ∧
                                              x'.val.d.synced = y_7 ∧
                                               bs x'.val.d.snap = bs y_8 ∧ x'.val.d.room = y_9 ∧ True) ∧
                                         True) ∧
                                        True))
                                   False))
                                 False))
             False)
            False)
           (branch
            (decide ((0 : Int) ≤ y) && decide (y ≤ y) && decide (y ≤ (9223372036854775807 : Int)) &&
               decide ((↑(Try.prog.bytesOf (5 : Nat)) : Int) * y ≤ (140737488355328 : Int)) &&
              true &&
             true)
            (branch
             ((S3 pD s24l).pre
              (Lv.mk x.val.d (List.replicate y.toNat (UInt8.ofNat (nat_lit 0))) (0 : Nat) y.toNat (Cap.exact y.toNat)))
             (∀ (y_1 : Int),
              y_1 =
                (x.val.d.swap
                  (Lv.mk x.val.d (List.replicate y.toNat (UInt8.ofNat (nat_lit 0))) (0 : Nat) y.toNat
                    (Cap.exact y.toNat)).bytes).snd →
               ∀ (y_2 : Int),
                y_2 =
                  (x.val.d.swap
                     (Lv.mk x.val.d (List.replicate y.toNat (UInt8.ofNat (nat_lit 0))) (0 : Nat) y.toNat
                       (Cap.exact y.toNat)).bytes).fst.left →
                 ∀ (y_3 : Int),
                  y_3 =
                    (x.val.d.swap
                       (Lv.mk x.val.d (List.replicate y.toNat (UInt8.ofNat (nat_lit 0))) (0 : Nat) y.toNat
                         (Cap.exact y.toNat)).bytes).fst.odd →
                   ∀ (y_4 : Int),
                    y_4 =
                      (x.val.d.swap
                         (Lv.mk x.val.d (List.replicate y.toNat (UInt8.ofNat (nat_lit 0))) (0 : Nat) y.toNat
                           (Cap.exact y.toNat)).bytes).fst.done →
                     ∀ (y_5 : Bool),
                      y_5 =
                        (x.val.d.swap
                           (Lv.mk x.val.d (List.replicate y.toNat (UInt8.ofNat (nat_lit 0))) (0 : Nat) y.toNat
                             (Cap.exact y.toNat)).bytes).fst.dead →
                       ∀ (y_6 : List UInt8),
                        y_6 =
                          (x.val.d.swap
                             (Lv.mk x.val.d (List.replicate y.toNat (UInt8.ofNat (nat_lit 0))) (0 : Nat) y.toNat
                               (Cap.exact y.toNat)).bytes).fst.log →
                         ∀ (y_7 : Int),
                          y_7 =
                            (x.val.d.swap
                               (Lv.mk x.val.d (List.replicate y.toNat (UInt8.ofNat (nat_lit 0))) (0 : Nat) y.toNat
                                 (Cap.exact y.toNat)).bytes).fst.synced →
                           ∀ (y_8 : List UInt8),
                            y_8 =
                              (x.val.d.swap
                                 (Lv.mk x.val.d (List.replicate y.toNat (UInt8.ofNat (nat_lit 0))) (0 : Nat) y.toNat
                                   (Cap.exact y.toNat)).bytes).fst.snap →
                             ∀ (y_9 : Int),
                              y_9 =
                                (x.val.d.swap
                                   (Lv.mk x.val.d (List.replicate y.toNat (UInt8.ofNat (nat_lit 0))) (0 : Nat) y.toNat
                                     (Cap.exact y.toNat)).bytes).fst.room →
                               branch (y_1 != (0 : Int)) (false = true)
                                (branch ((S0 DSt.fine s25).pre (DSt.mk y_2 y_3 y_4 y_5 y_6 y_7 y_8 y_9))
                                 (branch ((↑y_6.length : Int) != (0 : Int)) (false = true)
                                  (branch ((S0 DSt.fine s26).pre (DSt.mk y_2 y_3 y_4 y_5 y_6 y_7 y_8 y_9))
                                   (branch ((↑y_8.length : Int) != y) (false = true)
                                    (∃ (x' : { x : R8 // P8 (w64 ((1 : Int) + wi room (200 : Int))) x }),
                                     ((30 : Int) - x'.val.i).toNat < ((30 : Int) - x.val.i).toNat ∧
                                      (w64 ((1 : Int) + wi room (200 : Int)) = w64 ((1 : Int) + wi room (200 : Int)) ∧
                                        is sizes = is sizes ∧
                                         ((0 : Nat) = (0 : Nat) ∧ (0 : Nat) = (0 : Nat)) ∧
                                          (↑x'.val.d.log.length : Int) = (0 : Int) ∧
                                           (↑x'.val.d.snap.length : Int) = y ∧
                                            x'.val.i = IntKind.i64.wrap (x.val.i + (1 : Int)) ∧ True) ∧
                                       ((x'.val.d.left = y_2 ∧
                                          x'.val.d.odd = y_3 ∧
                                           x'.val.d.done = y_4 ∧
                                            x'.val.d.dead = y_5 ∧
                                             bs x'.val.d.log = bs y_6 ∧
                                              x'.val.d.synced = y_7 ∧
                                               bs x'.val.d.snap = bs y_8 ∧ x'.val.d.room = y_9 ∧ True) ∧
                                         True) ∧
                                        True))
                                   False))
                                 False))
             False)
            False)))
         False)
      False)
     (true = true))
    (true = true))
 ((∃ (x : { x : R8 // P8 (w64 ((1 : Int) + wi room (200 : Int))) x }), False) ∧
  ∀ (x : { x : R8 // P8 (w64 ((1 : Int) + wi room (200 : Int))) x }),
   branch (decide (x.val.i < (↑sizes.length : Int)))
    (branch (decide (x.val.i < (30 : Int)))
     (branch (decide ((0 : Int) ≤ x.val.i) && decide (x.val.i < (↑sizes.length : Int)) && true && true)
      (∀ (y : Int),
       y = wi (IntKind.i64.wrap (Int.tdiv (sizes.getD x.val.i.toNat (regK.dflt (3 : Nat))) (2 : Int))) (60 : Int) →
        branch (decide ((0 : Int) ≤ x.val.i) && decide (x.val.i < (↑sizes.length : Int)) && true && true)
         (branch (Int.tmod (sizes.getD x.val.i.toNat (0 : Int)) (2 : Int) == (0 : Int))
          (branch
           (decide
            (IntKind.i64.wrap (IntKind.i64.wrap ((↑x.val.d.log.length : Int) + (↑x.val.d.snap.length : Int)) + y) >
             w64 ((1 : Int) + wi room (200 : Int))))
           (branch
            (decide ((0 : Int) ≤ y) && decide (y ≤ y) && decide (y ≤ (9223372036854775807 : Int)) &&
               decide ((↑(Try.prog.bytesOf (5 : Nat)) : Int) * y ≤ (140737488355328 : Int)) &&
              true &&
             true)
            (branch
             ((S3 pD s23l).pre
              (Lv.mk x.val.d (List.replicate y.toNat (UInt8.ofNat (nat_lit 0))) (0 : Nat) y.toNat (Cap.exact y.toNat)))
             (∀ (y_1 : Int),
              y_1 =
                (x.val.d.append
                  (Lv.mk x.val.d (List.replicate y.toNat (UInt8.ofNat (nat_lit 0))) (0 : Nat) y.toNat
                    (Cap.exact y.toNat)).bytes).snd →
               ∀ (y_2 : Int),
                y_2 =
                  (x.val.d.append
                     (Lv.mk x.val.d (List.replicate y.toNat (UInt8.ofNat (nat_lit 0))) (0 : Nat) y.toNat
                       (Cap.exact y.toNat)).bytes).fst.left →
                 ∀ (y_3 : Int),
                  y_3 =
                    (x.val.d.append
                       (Lv.mk x.val.d (List.replicate y.toNat (UInt8.ofNat (nat_lit 0))) (0 : Nat) y.toNat
                         (Cap.exact y.toNat)).bytes).fst.odd →
                   ∀ (y_4 : Int),
                    y_4 =
                      (x.val.d.append
                         (Lv.mk x.val.d (List.replicate y.toNat (UInt8.ofNat (nat_lit 0))) (0 : Nat) y.toNat
                           (Cap.exact y.toNat)).bytes).fst.done →
                     ∀ (y_5 : Bool),
                      y_5 =
                        (x.val.d.append
                           (Lv.mk x.val.d (List.replicate y.toNat (UInt8.ofNat (nat_lit 0))) (0 : Nat) y.toNat
                             (Cap.exact y.toNat)).bytes).fst.dead →
                       ∀ (y_6 : List UInt8),
                        y_6 =
                          (x.val.d.append
                             (Lv.mk x.val.d (List.replicate y.toNat (UInt8.ofNat (nat_lit 0))) (0 : Nat) y.toNat
                               (Cap.exact y.toNat)).bytes).fst.log →
                         ∀ (y_7 : Int),
                          y_7 =
                            (x.val.d.append
                               (Lv.mk x.val.d (List.replicate y.toNat (UInt8.ofNat (nat_lit 0))) (0 : Nat) y.toNat
                                 (Cap.exact y.toNat)).bytes).fst.synced →
                           ∀ (y_8 : List UInt8),
                            y_8 =
                              (x.val.d.append
                                 (Lv.mk x.val.d (List.replicate y.toNat (UInt8.ofNat (nat_lit 0))) (0 : Nat) y.toNat
                                   (Cap.exact y.toNat)).bytes).fst.snap →
                             ∀ (y_9 : Int),
                              y_9 =
                                (x.val.d.append
                                   (Lv.mk x.val.d (List.replicate y.toNat (UInt8.ofNat (nat_lit 0))) (0 : Nat) y.toNat
                                     (Cap.exact y.toNat)).bytes).fst.room →
                               branch (y_1 != (16 : Int)) (false = true)
                                (branch ((S0 DSt.fine s25).pre (DSt.mk y_2 y_3 y_4 y_5 y_6 y_7 y_8 y_9))
                                 (branch ((↑y_6.length : Int) != (↑x.val.d.log.length : Int)) (false = true)
                                  (branch ((S0 DSt.fine s26).pre (DSt.mk y_2 y_3 y_4 y_5 y_6 y_7 y_8 y_9))
                                   (branch ((↑y_8.length : Int) != (↑x.val.d.snap.length : Int)) (false = true)
                                    (∃ (x' : { x : R8 // P8 (w64 ((1 : Int) + wi room (200 : Int))) x }),
                                     ((30 : Int) - x'.val.i).toNat < ((30 : Int) - x.val.i).toNat ∧
                                      (w64 ((1 : Int) + wi room (200 : Int)) = w64 ((1 : Int) + wi room (200 : Int)) ∧
                                        is sizes = is sizes ∧
                                         ((0 : Nat) = (0 : Nat) ∧ (0 : Nat) = (0 : Nat)) ∧
                                          (↑x'.val.d.log.length : Int) = (↑x.val.d.log.length : Int) ∧
                                           (↑x'.val.d.snap.length : Int) = (↑x.val.d.snap.length : Int) ∧
                                            x'.val.i = IntKind.i64.wrap (x.val.i + (1 : Int)) ∧ True) ∧
                                       ((x'.val.d.left = y_2 ∧
                                          x'.val.d.odd = y_3 ∧
                                           x'.val.d.done = y_4 ∧
                                            x'.val.d.dead = y_5 ∧
                                             bs x'.val.d.log = bs y_6 ∧
                                              x'.val.d.synced = y_7 ∧
                                               bs x'.val.d.snap = bs y_8 ∧ x'.val.d.room = y_9 ∧ True) ∧
                                         True) ∧
                                        True))
                                   False))
                                 False))
             False)
            False)
           (∀ (y_1 : Int),
            y_1 = IntKind.i64.wrap ((↑x.val.d.log.length : Int) + y) →
             branch
              (decide ((0 : Int) ≤ y) && decide (y ≤ y) && decide (y ≤ (9223372036854775807 : Int)) &&
                 decide ((↑(Try.prog.bytesOf (5 : Nat)) : Int) * y ≤ (140737488355328 : Int)) &&
                true &&
               true)
              (branch
               ((S3 pD s23l).pre
                (Lv.mk x.val.d (List.replicate y.toNat (UInt8.ofNat (nat_lit 0))) (0 : Nat) y.toNat
                 (Cap.exact y.toNat)))
               (∀ (y_2 : Int),
                y_2 =
                  (x.val.d.append
                    (Lv.mk x.val.d (List.replicate y.toNat (UInt8.ofNat (nat_lit 0))) (0 : Nat) y.toNat
                      (Cap.exact y.toNat)).bytes).snd →
                 ∀ (y_3 : Int),
                  y_3 =
                    (x.val.d.append
                       (Lv.mk x.val.d (List.replicate y.toNat (UInt8.ofNat (nat_lit 0))) (0 : Nat) y.toNat
                         (Cap.exact y.toNat)).bytes).fst.left →
                   ∀ (y_4 : Int),
                    y_4 =
                      (x.val.d.append
                         (Lv.mk x.val.d (List.replicate y.toNat (UInt8.ofNat (nat_lit 0))) (0 : Nat) y.toNat
                           (Cap.exact y.toNat)).bytes).fst.odd →
                     ∀ (y_5 : Int),
                      y_5 =
                        (x.val.d.append
                           (Lv.mk x.val.d (List.replicate y.toNat (UInt8.ofNat (nat_lit 0))) (0 : Nat) y.toNat
                             (Cap.exact y.toNat)).bytes).fst.done →
                       ∀ (y_6 : Bool),
                        y_6 =
                          (x.val.d.append
                             (Lv.mk x.val.d (List.replicate y.toNat (UInt8.ofNat (nat_lit 0))) (0 : Nat) y.toNat
                               (Cap.exact y.toNat)).bytes).fst.dead →
                         ∀ (y_7 : List UInt8),
                          y_7 =
                            (x.val.d.append
                               (Lv.mk x.val.d (List.replicate y.toNat (UInt8.ofNat (nat_lit 0))) (0 : Nat) y.toNat
                                 (Cap.exact y.toNat)).bytes).fst.log →
                           ∀ (y_8 : Int),
                            y_8 =
                              (x.val.d.append
                                 (Lv.mk x.val.d (List.replicate y.toNat (UInt8.ofNat (nat_lit 0))) (0 : Nat) y.toNat
                                   (Cap.exact y.toNat)).bytes).fst.synced →
                             ∀ (y_9 : List UInt8),
                              y_9 =
                                (x.val.d.append
                                   (Lv.mk x.val.d (List.replicate y.toNat (UInt8.ofNat (nat_lit 0))) (0 : Nat) y.toNat
                                     (Cap.exact y.toNat)).bytes).fst.snap →
                               ∀ (y_10 : Int),
                                y_10 =
                                  (x.val.d.append
                                     (Lv.mk x.val.d (List.replicate y.toNat (UInt8.ofNat (nat_lit 0))) (0 : Nat) y.toNat
                                       (Cap.exact y.toNat)).bytes).fst.room →
                                 branch (y_2 != (0 : Int)) (false = true)
                                  (branch ((S0 DSt.fine s25).pre (DSt.mk y_3 y_4 y_5 y_6 y_7 y_8 y_9 y_10))
                                   (branch ((↑y_7.length : Int) != y_1) (false = true)
                                    (branch ((S0 DSt.fine s26).pre (DSt.mk y_3 y_4 y_5 y_6 y_7 y_8 y_9 y_10))
                                     (branch ((↑y_9.length : Int) != (↑x.val.d.snap.length : Int)) (false = true)
                                      (∃ (x' : { x : R8 // P8 (w64 ((1 : Int) + wi room (200 : Int))) x }),
                                       ((30 : Int) - x'.val.i).toNat < ((30 : Int) - x.val.i).toNat ∧
                                        (w64 ((1 : Int) + wi room (200 : Int)) = w64 ((1 : Int) + wi room (200 : Int)) ∧
                                          is sizes = is sizes ∧
                                           ((0 : Nat) = (0 : Nat) ∧ (0 : Nat) = (0 : Nat)) ∧
                                            (↑x'.val.d.log.length : Int) = y_1 ∧
                                             (↑x'.val.d.snap.length : Int) = (↑x.val.d.snap.length : Int) ∧
                                              x'.val.i = IntKind.i64.wrap (x.val.i + (1 : Int)) ∧ True) ∧
                                         ((x'.val.d.left = y_3 ∧
                                            x'.val.d.odd = y_4 ∧
                                             x'.val.d.done = y_5 ∧
                                              x'.val.d.dead = y_6 ∧
                                               bs x'.val.d.log = bs y_7 ∧
                                                x'.val.d.synced = y_8 ∧
                                                 bs x'.val.d.snap = bs y_9 ∧ x'.val.d.room = y_10 ∧ True) ∧
                                           True) ∧
                                          True))
                                     False))
                                   False))
               False)
              False))
          (branch (decide (y > w64 ((1 : Int) + wi room (200 : Int))))
           (branch
            (decide ((0 : Int) ≤ y) && decide (y ≤ y) && decide (y ≤ (9223372036854775807 : Int)) &&
               decide ((↑(Try.prog.bytesOf (5 : Nat)) : Int) * y ≤ (140737488355328 : Int)) &&
              true &&
             true)
            (branch
             ((S3 pD s24l).pre
              (Lv.mk x.val.d (List.replicate y.toNat (UInt8.ofNat (nat_lit 0))) (0 : Nat) y.toNat (Cap.exact y.toNat)))
             (∀ (y_1 : Int),
              y_1 =
                (x.val.d.swap
                  (Lv.mk x.val.d (List.replicate y.toNat (UInt8.ofNat (nat_lit 0))) (0 : Nat) y.toNat
                    (Cap.exact y.toNat)).bytes).snd →
               ∀ (y_2 : Int),
                y_2 =
                  (x.val.d.swap
                     (Lv.mk x.val.d (List.replicate y.toNat (UInt8.ofNat (nat_lit 0))) (0 : Nat) y.toNat
                       (Cap.exact y.toNat)).bytes).fst.left →
                 ∀ (y_3 : Int),
                  y_3 =
                    (x.val.d.swap
                       (Lv.mk x.val.d (List.replicate y.toNat (UInt8.ofNat (nat_lit 0))) (0 : Nat) y.toNat
                         (Cap.exact y.toNat)).bytes).fst.odd →
                   ∀ (y_4 : Int),
                    y_4 =
                      (x.val.d.swap
                         (Lv.mk x.val.d (List.replicate y.toNat (UInt8.ofNat (nat_lit 0))) (0 : Nat) y.toNat
                           (Cap.exact y.toNat)).bytes).fst.done →
                     ∀ (y_5 : Bool),
                      y_5 =
                        (x.val.d.swap
                           (Lv.mk x.val.d (List.replicate y.toNat (UInt8.ofNat (nat_lit 0))) (0 : Nat) y.toNat
                             (Cap.exact y.toNat)).bytes).fst.dead →
                       ∀ (y_6 : List UInt8),
                        y_6 =
                          (x.val.d.swap
                             (Lv.mk x.val.d (List.replicate y.toNat (UInt8.ofNat (nat_lit 0))) (0 : Nat) y.toNat
                               (Cap.exact y.toNat)).bytes).fst.log →
                         ∀ (y_7 : Int),
                          y_7 =
                            (x.val.d.swap
                               (Lv.mk x.val.d (List.replicate y.toNat (UInt8.ofNat (nat_lit 0))) (0 : Nat) y.toNat
                                 (Cap.exact y.toNat)).bytes).fst.synced →
                           ∀ (y_8 : List UInt8),
                            y_8 =
                              (x.val.d.swap
                                 (Lv.mk x.val.d (List.replicate y.toNat (UInt8.ofNat (nat_lit 0))) (0 : Nat) y.toNat
                                   (Cap.exact y.toNat)).bytes).fst.snap →
                             ∀ (y_9 : Int),
                              y_9 =
                                (x.val.d.swap
                                   (Lv.mk x.val.d (List.replicate y.toNat (UInt8.ofNat (nat_lit 0))) (0 : Nat) y.toNat
                                     (Cap.exact y.toNat)).bytes).fst.room →
                               branch (y_1 != (16 : Int)) (false = true)
                                (branch ((S0 DSt.fine s25).pre (DSt.mk y_2 y_3 y_4 y_5 y_6 y_7 y_8 y_9))
                                 (branch ((↑y_6.length : Int) != (↑x.val.d.log.length : Int)) (false = true)
                                  (branch ((S0 DSt.fine s26).pre (DSt.mk y_2 y_3 y_4 y_5 y_6 y_7 y_8 y_9))
                                   (branch ((↑y_8.length : Int) != (↑x.val.d.snap.length : Int)) (false = true)
                                    (∃ (x' : { x : R8 // P8 (w64 ((1 : Int) + wi room (200 : Int))) x }),
                                     ((30 : Int) - x'.val.i).toNat < ((30 : Int) - x.val.i).toNat ∧
                                      (w64 ((1 : Int) + wi room (200 : Int)) = w64 ((1 : Int) + wi room (200 : Int)) ∧
                                        is sizes = is sizes ∧
                                         ((0 : Nat) = (0 : Nat) ∧ (0 : Nat) = (0 : Nat)) ∧
                                          (↑x'.val.d.log.length : Int) = (↑x.val.d.log.length : Int) ∧
                                           (↑x'.val.d.snap.length : Int) = (↑x.val.d.snap.length : Int) ∧
                                            x'.val.i = IntKind.i64.wrap (x.val.i + (1 : Int)) ∧ True) ∧
                                       ((x'.val.d.left = y_2 ∧
                                          x'.val.d.odd = y_3 ∧
                                           x'.val.d.done = y_4 ∧
                                            x'.val.d.dead = y_5 ∧
                                             bs x'.val.d.log = bs y_6 ∧
                                              x'.val.d.synced = y_7 ∧
                                               bs x'.val.d.snap = bs y_8 ∧ x'.val.d.room = y_9 ∧ True) ∧
                                         True) ∧
                                        True))
                                   False))
                                 False))
             False)
            False)
           (branch
            (decide ((0 : Int) ≤ y) && decide (y ≤ y) && decide (y ≤ (9223372036854775807 : Int)) &&
               decide ((↑(Try.prog.bytesOf (5 : Nat)) : Int) * y ≤ (140737488355328 : Int)) &&
              true &&
             true)
            (branch
             ((S3 pD s24l).pre
              (Lv.mk x.val.d (List.replicate y.toNat (UInt8.ofNat (nat_lit 0))) (0 : Nat) y.toNat (Cap.exact y.toNat)))
             (∀ (y_1 : Int),
              y_1 =
                (x.val.d.swap
                  (Lv.mk x.val.d (List.replicate y.toNat (UInt8.ofNat (nat_lit 0))) (0 : Nat) y.toNat
                    (Cap.exact y.toNat)).bytes).snd →
               ∀ (y_2 : Int),
                y_2 =
                  (x.val.d.swap
                     (Lv.mk x.val.d (List.replicate y.toNat (UInt8.ofNat (nat_lit 0))) (0 : Nat) y.toNat
                       (Cap.exact y.toNat)).bytes).fst.left →
                 ∀ (y_3 : Int),
                  y_3 =
                    (x.val.d.swap
                       (Lv.mk x.val.d (List.replicate y.toNat (UInt8.ofNat (nat_lit 0))) (0 : Nat) y.toNat
                         (Cap.exact y.toNat)).bytes).fst.odd →
                   ∀ (y_4 : Int),
                    y_4 =
                      (x.val.d.swap
                         (Lv.mk x.val.d (List.replicate y.toNat (UInt8.ofNat (nat_lit 0))) (0 : Nat) y.toNat
                           (Cap.exact y.toNat)).bytes).fst.done →
                     ∀ (y_5 : Bool),
                      y_5 =
                        (x.val.d.swap
                           (Lv.mk x.val.d (List.replicate y.toNat (UInt8.ofNat (nat_lit 0))) (0 : Nat) y.toNat
                             (Cap.exact y.toNat)).bytes).fst.dead →
                       ∀ (y_6 : List UInt8),
                        y_6 =
                          (x.val.d.swap
                             (Lv.mk x.val.d (List.replicate y.toNat (UInt8.ofNat (nat_lit 0))) (0 : Nat) y.toNat
                               (Cap.exact y.toNat)).bytes).fst.log →
                         ∀ (y_7 : Int),
                          y_7 =
                            (x.val.d.swap
                               (Lv.mk x.val.d (List.replicate y.toNat (UInt8.ofNat (nat_lit 0))) (0 : Nat) y.toNat
                                 (Cap.exact y.toNat)).bytes).fst.synced →
                           ∀ (y_8 : List UInt8),
                            y_8 =
                              (x.val.d.swap
                                 (Lv.mk x.val.d (List.replicate y.toNat (UInt8.ofNat (nat_lit 0))) (0 : Nat) y.toNat
                                   (Cap.exact y.toNat)).bytes).fst.snap →
                             ∀ (y_9 : Int),
                              y_9 =
                                (x.val.d.swap
                                   (Lv.mk x.val.d (List.replicate y.toNat (UInt8.ofNat (nat_lit 0))) (0 : Nat) y.toNat
                                     (Cap.exact y.toNat)).bytes).fst.room →
                               branch (y_1 != (0 : Int)) (false = true)
                                (branch ((S0 DSt.fine s25).pre (DSt.mk y_2 y_3 y_4 y_5 y_6 y_7 y_8 y_9))
                                 (branch ((↑y_6.length : Int) != (0 : Int)) (false = true)
                                  (branch ((S0 DSt.fine s26).pre (DSt.mk y_2 y_3 y_4 y_5 y_6 y_7 y_8 y_9))
                                   (branch ((↑y_8.length : Int) != y) (false = true)
                                    (∃ (x' : { x : R8 // P8 (w64 ((1 : Int) + wi room (200 : Int))) x }),
                                     ((30 : Int) - x'.val.i).toNat < ((30 : Int) - x.val.i).toNat ∧
                                      (w64 ((1 : Int) + wi room (200 : Int)) = w64 ((1 : Int) + wi room (200 : Int)) ∧
                                        is sizes = is sizes ∧
                                         ((0 : Nat) = (0 : Nat) ∧ (0 : Nat) = (0 : Nat)) ∧
                                          (↑x'.val.d.log.length : Int) = (0 : Int) ∧
                                           (↑x'.val.d.snap.length : Int) = y ∧
                                            x'.val.i = IntKind.i64.wrap (x.val.i + (1 : Int)) ∧ True) ∧
                                       ((x'.val.d.left = y_2 ∧
                                          x'.val.d.odd = y_3 ∧
                                           x'.val.d.done = y_4 ∧
                                            x'.val.d.dead = y_5 ∧
                                             bs x'.val.d.log = bs y_6 ∧
                                              x'.val.d.synced = y_7 ∧
                                               bs x'.val.d.snap = bs y_8 ∧ x'.val.d.room = y_9 ∧ True) ∧
                                         True) ∧
                                        True))
                                   False))
                                 False))
             False)
            False)))
         False)
      False)
     (true = true))
    (true = true))) := by kernel_rfl
end Go.Proofs.Ytaencddffbmdeaa
