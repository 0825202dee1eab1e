/- What is left to be shown of the contracts of disk. No conditions. -/
import Derived.Test.YtaencddffbmdeaaDkC
namespace Go.Proofs.Ytaencddffbmdeaa
open Go Go.W Go.Proofs
set_option maxRecDepth 100000
theorem v38 (d : DSt) : MeetsD h0 (38 : Nat) (S0 tt s38) d = (
  branch (decide (d.left > (0 : Int)))
  (branch (!IntKind.i64.wrap (d.left - (1 : Int)) == (0 : Int))
    (d.spend.snd = !IntKind.i64.wrap (d.left - (1 : Int)) == (0 : Int) ∧
      ((d.spend.fst.left = IntKind.i64.wrap (d.left - (1 : Int)) ∧
            d.spend.fst.odd = d.odd ∧
              d.spend.fst.done = IntKind.i64.wrap (d.done + (1 : Int)) ∧
                d.spend.fst.dead = (IntKind.i64.wrap (d.left - (1 : Int)) == (0 : Int)) ∧
                  bs d.spend.fst.log = bs d.log ∧
                    d.spend.fst.synced = d.synced ∧
                      bs d.spend.fst.snap = bs d.snap ∧ d.spend.fst.room = d.room ∧ True) ∧
          True) ∧
        True)
    (d.spend.snd = !IntKind.i64.wrap (d.left - (1 : Int)) == (0 : Int) ∧
      ((d.spend.fst.left = IntKind.i64.wrap (d.left - (1 : Int)) ∧
            d.spend.fst.odd = d.odd ∧
              d.spend.fst.done = d.done ∧
                d.spend.fst.dead = (IntKind.i64.wrap (d.left - (1 : Int)) == (0 : Int)) ∧
                  bs d.spend.fst.log = bs d.log ∧
                    d.spend.fst.synced = d.synced ∧
                      bs d.spend.fst.snap = bs d.snap ∧ d.spend.fst.room = d.room ∧ True) ∧
          True) ∧
        True))
  (branch (!d.dead)
    (d.spend.snd = !d.dead ∧
      ((d.spend.fst.left = d.left ∧
            d.spend.fst.odd = d.odd ∧
              d.spend.fst.done = IntKind.i64.wrap (d.done + (1 : Int)) ∧
                d.spend.fst.dead = d.dead ∧
                  bs d.spend.fst.log = bs d.log ∧
                    d.spend.fst.synced = d.synced ∧
                      bs d.spend.fst.snap = bs d.snap ∧ d.spend.fst.room = d.room ∧ True) ∧
          True) ∧
        True)
    (d.spend.snd = !d.dead ∧
      ((d.spend.fst.left = d.left ∧
            d.spend.fst.odd = d.odd ∧
              d.spend.fst.done = d.done ∧
                d.spend.fst.dead = d.dead ∧
                  bs d.spend.fst.log = bs d.log ∧
                    d.spend.fst.synced = d.synced ∧
                      bs d.spend.fst.snap = bs d.snap ∧ d.spend.fst.room = d.room ∧ True) ∧
          True) ∧
        True))) := by kernel_rfl
theorem v39 (d : List UInt8) : MeetsD h0 (39 : Nat) SB d = (
  branch
  (decide ((↑d.length : Int) ≤ (↑d.length : Int)) && decide ((↑d.length : Int) ≤ (9223372036854775807 : Int)) &&
        decide ((↑(Try.prog.bytesOf (5 : Nat)) : Int) * (↑d.length : Int) ≤ (140737488355328 : Int)) &&
      true &&
    true)
  (branch
    (((0 : Nat) + (↑d.length : Int).toNat).ble (List.replicate (↑d.length : Int).toNat (UInt8.ofNat (0 : Nat))).length)
    (branch
      (((0 : Nat) + (↑d.length : Int).toNat).ble
        (setRange (List.replicate (↑d.length : Int).toNat (UInt8.ofNat (0 : Nat))) (0 : Nat)
            (List.take (d.length.min (↑d.length : Int).toNat) d)).length)
      (bs d =
          bs
            (List.drop (0 : Nat)
              (List.take ((0 : Nat) + (↑d.length : Int).toNat)
                (setRange (List.replicate (↑d.length : Int).toNat (UInt8.ofNat (0 : Nat))) (0 : Nat)
                  (List.take (d.length.min (↑d.length : Int).toNat) d)))) ∧
        True)
      False)
    False)
  False) := by kernel_rfl
theorem v39l (d : Bv) : MeetsD h0 (39 : Nat) SC d = (
  branch
  (decide ((↑d.len : Int) ≤ (↑d.len : Int)) && decide ((↑d.len : Int) ≤ (9223372036854775807 : Int)) &&
        decide ((↑(Try.prog.bytesOf (5 : Nat)) : Int) * (↑d.len : Int) ≤ (140737488355328 : Int)) &&
      true &&
    true)
  (branch ((d.off + d.len).ble d.xs.length)
    (branch
      (((0 : Nat) + (↑d.len : Int).toNat).ble (List.replicate (↑d.len : Int).toNat (UInt8.ofNat (0 : Nat))).length)
      (branch
        (((0 : Nat) + (↑d.len : Int).toNat).ble
          (setRange (List.replicate (↑d.len : Int).toNat (UInt8.ofNat (0 : Nat))) (0 : Nat)
              (List.take (d.len.min (↑d.len : Int).toNat) (List.take d.len (List.drop d.off d.xs)))).length)
        (bs d.bytes =
            bs
              (List.drop (0 : Nat)
                (List.take ((0 : Nat) + (↑d.len : Int).toNat)
                  (setRange (List.replicate (↑d.len : Int).toNat (UInt8.ofNat (0 : Nat))) (0 : Nat)
                    (List.take (d.len.min (↑d.len : Int).toNat) (List.take d.len (List.drop d.off d.xs)))))) ∧
          ob d.xs = ob d.xs ∧ True)
        False)
      False)
    False)
  False) := by kernel_rfl
theorem v40 (d : RSt) : MeetsD h0 (40 : Nat) (R0 tt s40) d = (
  branch (d.left == (0 : Int))
  (d.goes.snd = false ∧
    ((d.goes.fst.room = d.room ∧
          bs d.goes.fst.log = bs d.log ∧
            d.goes.fst.synced = d.synced ∧
              bs d.goes.fst.snap = bs d.snap ∧
                d.goes.fst.left = d.left ∧
                  d.goes.fst.even = d.even ∧ d.goes.fst.dead = d.dead ∧ d.goes.fst.done = d.done ∧ True) ∧
        True) ∧
      True)
  (d.goes.snd = (IntKind.i64.wrap (d.left - (1 : Int)) == (0 : Int)) ∧
    ((d.goes.fst.room = d.room ∧
          bs d.goes.fst.log = bs d.log ∧
            d.goes.fst.synced = d.synced ∧
              bs d.goes.fst.snap = bs d.snap ∧
                d.goes.fst.left = IntKind.i64.wrap (d.left - (1 : Int)) ∧
                  d.goes.fst.even = d.even ∧
                    d.goes.fst.dead = (IntKind.i64.wrap (d.left - (1 : Int)) == (0 : Int)) ∧
                      d.goes.fst.done = d.done ∧ True) ∧
        True) ∧
      True)) := by kernel_rfl
theorem v41 (d : RSt) : MeetsD h0 (41 : Nat) (R0 tt s41) d = (
  branch d.dead
  (d.end_.snd = (17 : Int) ∧
    ((d.end_.fst.room = d.room ∧
          bs d.end_.fst.log = bs d.log ∧
            d.end_.fst.synced = d.synced ∧
              bs d.end_.fst.snap = bs d.snap ∧
                d.end_.fst.left = d.left ∧
                  d.end_.fst.even = d.even ∧ d.end_.fst.dead = d.dead ∧ d.end_.fst.done = d.done ∧ True) ∧
        True) ∧
      True)
  (d.end_.snd = (0 : Int) ∧
    ((d.end_.fst.room = d.room ∧
          bs d.end_.fst.log = bs d.log ∧
            d.end_.fst.synced = d.synced ∧
              bs d.end_.fst.snap = bs d.snap ∧
                d.end_.fst.left = d.left ∧
                  d.end_.fst.even = d.even ∧
                    d.end_.fst.dead = d.dead ∧ d.end_.fst.done = IntKind.i64.wrap (d.done + (1 : Int)) ∧ True) ∧
        True) ∧
      True)) := by kernel_rfl
theorem v23 (d : DSt) (b : List UInt8) : MeetsD h1 (23 : Nat) (S2 pD s23) (d, b) = (
  branch d.dead
  ((d.append b).snd = (17 : Int) ∧
    (((d.append b).fst.left = d.left ∧
          (d.append b).fst.odd = d.odd ∧
            (d.append b).fst.done = d.done ∧
              (d.append b).fst.dead = d.dead ∧
                bs (d.append b).fst.log = bs d.log ∧
                  (d.append b).fst.synced = d.synced ∧
                    bs (d.append b).fst.snap = bs d.snap ∧ (d.append b).fst.room = d.room ∧ True) ∧
        True) ∧
      True)
  (branch
    (decide
      ((↑b.length : Int) >
        IntKind.i64.wrap (IntKind.i64.wrap (d.room - (↑d.log.length : Int)) - (↑d.snap.length : Int))))
    ((d.append b).snd = (16 : Int) ∧
      (((d.append b).fst.left = d.left ∧
            (d.append b).fst.odd = d.odd ∧
              (d.append b).fst.done = d.done ∧
                (d.append b).fst.dead = d.dead ∧
                  bs (d.append b).fst.log = bs d.log ∧
                    (d.append b).fst.synced = d.synced ∧
                      bs (d.append b).fst.snap = bs d.snap ∧ (d.append b).fst.room = d.room ∧ True) ∧
          True) ∧
        True)
    (branch
      (decide ((0 : Int) ≤ IntKind.i64.wrap ((↑d.spend.fst.log.length : Int) + (↑b.length : Int))) &&
                decide
                  (IntKind.i64.wrap ((↑d.spend.fst.log.length : Int) + (↑b.length : Int)) ≤
                    IntKind.i64.wrap ((↑d.spend.fst.log.length : Int) + (↑b.length : Int))) &&
              decide
                (IntKind.i64.wrap ((↑d.spend.fst.log.length : Int) + (↑b.length : Int)) ≤
                  (9223372036854775807 : Int)) &&
            decide
              ((↑(Try.prog.bytesOf (5 : Nat)) : Int) *
                  IntKind.i64.wrap ((↑d.spend.fst.log.length : Int) + (↑b.length : Int)) ≤
                (140737488355328 : Int)) &&
          true &&
        true)
      (branch
        (((0 : Nat) + (IntKind.i64.wrap ((↑d.spend.fst.log.length : Int) + (↑b.length : Int))).toNat).ble
          (List.replicate (IntKind.i64.wrap ((↑d.spend.fst.log.length : Int) + (↑b.length : Int))).toNat
              (UInt8.ofNat (0 : Nat))).length)
        (branch
          (decide
              ((↑(d.spend.fst.log.length.min
                      (IntKind.i64.wrap ((↑d.spend.fst.log.length : Int) + (↑b.length : Int))).toNat) :
                  Int) ≤
                (↑(IntKind.i64.wrap ((↑d.spend.fst.log.length : Int) + (↑b.length : Int))).toNat : Int)) &&
            decide
              ((↑(IntKind.i64.wrap ((↑d.spend.fst.log.length : Int) + (↑b.length : Int))).toNat : Int) ≤
                (↑(capMin (Cap.exact (IntKind.i64.wrap ((↑d.spend.fst.log.length : Int) + (↑b.length : Int))).toNat)
                      (IntKind.i64.wrap ((↑d.spend.fst.log.length : Int) + (↑b.length : Int))).toNat) :
                  Int)))
          (branch
            (((0 : Nat) +
                    (↑(d.spend.fst.log.length.min
                            (IntKind.i64.wrap ((↑d.spend.fst.log.length : Int) + (↑b.length : Int))).toNat) :
                        Int).toNat +
                  ((↑(IntKind.i64.wrap ((↑d.spend.fst.log.length : Int) + (↑b.length : Int))).toNat : Int) -
                      (↑(d.spend.fst.log.length.min
                            (IntKind.i64.wrap ((↑d.spend.fst.log.length : Int) + (↑b.length : Int))).toNat) :
                        Int)).toNat).ble
              (setRange
                  (List.replicate (IntKind.i64.wrap ((↑d.spend.fst.log.length : Int) + (↑b.length : Int))).toNat
                    (UInt8.ofNat (0 : Nat)))
                  (0 : Nat)
                  (List.take
                    (d.spend.fst.log.length.min
                      (IntKind.i64.wrap ((↑d.spend.fst.log.length : Int) + (↑b.length : Int))).toNat)
                    d.spend.fst.log)).length)
            (branch (!d.spend.snd)
              (branch
                (((0 : Nat) + (IntKind.i64.wrap ((↑d.spend.fst.log.length : Int) + (↑b.length : Int))).toNat).ble
                      (setRange
                          (setRange
                            (List.replicate
                              (IntKind.i64.wrap ((↑d.spend.fst.log.length : Int) + (↑b.length : Int))).toNat
                              (UInt8.ofNat (0 : Nat)))
                            (0 : Nat)
                            (List.take
                              (d.spend.fst.log.length.min
                                (IntKind.i64.wrap ((↑d.spend.fst.log.length : Int) + (↑b.length : Int))).toNat)
                              d.spend.fst.log))
                          ((0 : Nat) +
                            (↑(d.spend.fst.log.length.min
                                    (IntKind.i64.wrap ((↑d.spend.fst.log.length : Int) + (↑b.length : Int))).toNat) :
                                Int).toNat)
                          (List.take
                            (b.length.min
                              ((↑(IntKind.i64.wrap ((↑d.spend.fst.log.length : Int) + (↑b.length : Int))).toNat : Int) -
                                  (↑(d.spend.fst.log.length.min
                                        (IntKind.i64.wrap
                                            ((↑d.spend.fst.log.length : Int) + (↑b.length : Int))).toNat) :
                                    Int)).toNat)
                            b)).length &&
                    true &&
                  true)
                ((d.append b).snd = (17 : Int) ∧
                  (((d.append b).fst.left = d.spend.fst.left ∧
                        (d.append b).fst.odd = d.spend.fst.odd ∧
                          (d.append b).fst.done = d.spend.fst.done ∧
                            (d.append b).fst.dead = d.spend.fst.dead ∧
                              bs (d.append b).fst.log =
                                  bs
                                    (List.drop (0 : Nat)
                                      (List.take
                                        ((0 : Nat) +
                                          (IntKind.i64.wrap
                                              ((↑d.spend.fst.log.length : Int) + (↑b.length : Int))).toNat)
                                        (setRange
                                          (setRange
                                            (List.replicate
                                              (IntKind.i64.wrap
                                                  ((↑d.spend.fst.log.length : Int) + (↑b.length : Int))).toNat
                                              (UInt8.ofNat (0 : Nat)))
                                            (0 : Nat)
                                            (List.take
                                              (d.spend.fst.log.length.min
                                                (IntKind.i64.wrap
                                                    ((↑d.spend.fst.log.length : Int) + (↑b.length : Int))).toNat)
                                              d.spend.fst.log))
                                          ((0 : Nat) +
                                            (↑(d.spend.fst.log.length.min
                                                    (IntKind.i64.wrap
                                                        ((↑d.spend.fst.log.length : Int) + (↑b.length : Int))).toNat) :
                                                Int).toNat)
                                          (List.take
                                            (b.length.min
                                              ((↑(IntKind.i64.wrap
                                                          ((↑d.spend.fst.log.length : Int) + (↑b.length : Int))).toNat :
                                                    Int) -
                                                  (↑(d.spend.fst.log.length.min
                                                        (IntKind.i64.wrap
                                                            ((↑d.spend.fst.log.length : Int) +
                                                              (↑b.length : Int))).toNat) :
                                                    Int)).toNat)
                                            b)))) ∧
                                (d.append b).fst.synced = d.spend.fst.synced ∧
                                  bs (d.append b).fst.snap = bs d.spend.fst.snap ∧
                                    (d.append b).fst.room = d.spend.fst.room ∧ True) ∧
                      True) ∧
                    True)
                False)
              (branch
                (((0 : Nat) + (IntKind.i64.wrap ((↑d.spend.fst.log.length : Int) + (↑b.length : Int))).toNat).ble
                      (setRange
                          (setRange
                            (List.replicate
                              (IntKind.i64.wrap ((↑d.spend.fst.log.length : Int) + (↑b.length : Int))).toNat
                              (UInt8.ofNat (0 : Nat)))
                            (0 : Nat)
                            (List.take
                              (d.spend.fst.log.length.min
                                (IntKind.i64.wrap ((↑d.spend.fst.log.length : Int) + (↑b.length : Int))).toNat)
                              d.spend.fst.log))
                          ((0 : Nat) +
                            (↑(d.spend.fst.log.length.min
                                    (IntKind.i64.wrap ((↑d.spend.fst.log.length : Int) + (↑b.length : Int))).toNat) :
                                Int).toNat)
                          (List.take
                            (b.length.min
                              ((↑(IntKind.i64.wrap ((↑d.spend.fst.log.length : Int) + (↑b.length : Int))).toNat : Int) -
                                  (↑(d.spend.fst.log.length.min
                                        (IntKind.i64.wrap
                                            ((↑d.spend.fst.log.length : Int) + (↑b.length : Int))).toNat) :
                                    Int)).toNat)
                            b)).length &&
                    true &&
                  true)
                ((d.append b).snd = (0 : Int) ∧
                  (((d.append b).fst.left = d.spend.fst.left ∧
                        (d.append b).fst.odd = d.spend.fst.odd ∧
                          (d.append b).fst.done = d.spend.fst.done ∧
                            (d.append b).fst.dead = d.spend.fst.dead ∧
                              bs (d.append b).fst.log =
                                  bs
                                    (List.drop (0 : Nat)
                                      (List.take
                                        ((0 : Nat) +
                                          (IntKind.i64.wrap
                                              ((↑d.spend.fst.log.length : Int) + (↑b.length : Int))).toNat)
                                        (setRange
                                          (setRange
                                            (List.replicate
                                              (IntKind.i64.wrap
                                                  ((↑d.spend.fst.log.length : Int) + (↑b.length : Int))).toNat
                                              (UInt8.ofNat (0 : Nat)))
                                            (0 : Nat)
                                            (List.take
                                              (d.spend.fst.log.length.min
                                                (IntKind.i64.wrap
                                                    ((↑d.spend.fst.log.length : Int) + (↑b.length : Int))).toNat)
                                              d.spend.fst.log))
                                          ((0 : Nat) +
                                            (↑(d.spend.fst.log.length.min
                                                    (IntKind.i64.wrap
                                                        ((↑d.spend.fst.log.length : Int) + (↑b.length : Int))).toNat) :
                                                Int).toNat)
                                          (List.take
                                            (b.length.min
                                              ((↑(IntKind.i64.wrap
                                                          ((↑d.spend.fst.log.length : Int) + (↑b.length : Int))).toNat :
                                                    Int) -
                                                  (↑(d.spend.fst.log.length.min
                                                        (IntKind.i64.wrap
                                                            ((↑d.spend.fst.log.length : Int) +
                                                              (↑b.length : Int))).toNat) :
                                                    Int)).toNat)
                                            b)))) ∧
                                (d.append b).fst.synced = d.spend.fst.synced ∧
                                  bs (d.append b).fst.snap = bs d.spend.fst.snap ∧
                                    (d.append b).fst.room = d.spend.fst.room ∧ True) ∧
                      True) ∧
                    True)
                False))
            False)
          False)
        False)
      False))) := by kernel_rfl
theorem v23l (d : Lv) : MeetsD h1 (23 : Nat) (S3 pD s23l) d = (
  branch d.d.dead
  ((d.d.append d.bytes).snd = (17 : Int) ∧
    (((d.d.append d.bytes).fst.left = d.d.left ∧
          (d.d.append d.bytes).fst.odd = d.d.odd ∧
            (d.d.append d.bytes).fst.done = d.d.done ∧
              (d.d.append d.bytes).fst.dead = d.d.dead ∧
                bs (d.d.append d.bytes).fst.log = bs d.d.log ∧
                  (d.d.append d.bytes).fst.synced = d.d.synced ∧
                    bs (d.d.append d.bytes).fst.snap = bs d.d.snap ∧ (d.d.append d.bytes).fst.room = d.d.room ∧ True) ∧
        True) ∧
      ob d.xs = ob d.xs ∧ True)
  (branch
    (decide
      ((↑d.len : Int) >
        IntKind.i64.wrap (IntKind.i64.wrap (d.d.room - (↑d.d.log.length : Int)) - (↑d.d.snap.length : Int))))
    ((d.d.append d.bytes).snd = (16 : Int) ∧
      (((d.d.append d.bytes).fst.left = d.d.left ∧
            (d.d.append d.bytes).fst.odd = d.d.odd ∧
              (d.d.append d.bytes).fst.done = d.d.done ∧
                (d.d.append d.bytes).fst.dead = d.d.dead ∧
                  bs (d.d.append d.bytes).fst.log = bs d.d.log ∧
                    (d.d.append d.bytes).fst.synced = d.d.synced ∧
                      bs (d.d.append d.bytes).fst.snap = bs d.d.snap ∧
                        (d.d.append d.bytes).fst.room = d.d.room ∧ True) ∧
          True) ∧
        ob d.xs = ob d.xs ∧ True)
    (branch
      (decide ((0 : Int) ≤ IntKind.i64.wrap ((↑d.d.spend.fst.log.length : Int) + (↑d.len : Int))) &&
                decide
                  (IntKind.i64.wrap ((↑d.d.spend.fst.log.length : Int) + (↑d.len : Int)) ≤
                    IntKind.i64.wrap ((↑d.d.spend.fst.log.length : Int) + (↑d.len : Int))) &&
              decide
                (IntKind.i64.wrap ((↑d.d.spend.fst.log.length : Int) + (↑d.len : Int)) ≤ (9223372036854775807 : Int)) &&
            decide
              ((↑(Try.prog.bytesOf (5 : Nat)) : Int) *
                  IntKind.i64.wrap ((↑d.d.spend.fst.log.length : Int) + (↑d.len : Int)) ≤
                (140737488355328 : Int)) &&
          true &&
        true)
      (branch
        (((0 : Nat) + (IntKind.i64.wrap ((↑d.d.spend.fst.log.length : Int) + (↑d.len : Int))).toNat).ble
          (List.replicate (IntKind.i64.wrap ((↑d.d.spend.fst.log.length : Int) + (↑d.len : Int))).toNat
              (UInt8.ofNat (0 : Nat))).length)
        (branch
          (decide
              ((↑(d.d.spend.fst.log.length.min
                      (IntKind.i64.wrap ((↑d.d.spend.fst.log.length : Int) + (↑d.len : Int))).toNat) :
                  Int) ≤
                (↑(IntKind.i64.wrap ((↑d.d.spend.fst.log.length : Int) + (↑d.len : Int))).toNat : Int)) &&
            decide
              ((↑(IntKind.i64.wrap ((↑d.d.spend.fst.log.length : Int) + (↑d.len : Int))).toNat : Int) ≤
                (↑(capMin (Cap.exact (IntKind.i64.wrap ((↑d.d.spend.fst.log.length : Int) + (↑d.len : Int))).toNat)
                      (IntKind.i64.wrap ((↑d.d.spend.fst.log.length : Int) + (↑d.len : Int))).toNat) :
                  Int)))
          (branch ((d.off + d.len).ble d.xs.length)
            (branch
              (((0 : Nat) +
                      (↑(d.d.spend.fst.log.length.min
                              (IntKind.i64.wrap ((↑d.d.spend.fst.log.length : Int) + (↑d.len : Int))).toNat) :
                          Int).toNat +
                    ((↑(IntKind.i64.wrap ((↑d.d.spend.fst.log.length : Int) + (↑d.len : Int))).toNat : Int) -
                        (↑(d.d.spend.fst.log.length.min
                              (IntKind.i64.wrap ((↑d.d.spend.fst.log.length : Int) + (↑d.len : Int))).toNat) :
                          Int)).toNat).ble
                (setRange
                    (List.replicate (IntKind.i64.wrap ((↑d.d.spend.fst.log.length : Int) + (↑d.len : Int))).toNat
                      (UInt8.ofNat (0 : Nat)))
                    (0 : Nat)
                    (List.take
                      (d.d.spend.fst.log.length.min
                        (IntKind.i64.wrap ((↑d.d.spend.fst.log.length : Int) + (↑d.len : Int))).toNat)
                      d.d.spend.fst.log)).length)
              (branch (!d.d.spend.snd)
                (branch
                  (((0 : Nat) + (IntKind.i64.wrap ((↑d.d.spend.fst.log.length : Int) + (↑d.len : Int))).toNat).ble
                        (setRange
                            (setRange
                              (List.replicate
                                (IntKind.i64.wrap ((↑d.d.spend.fst.log.length : Int) + (↑d.len : Int))).toNat
                                (UInt8.ofNat (0 : Nat)))
                              (0 : Nat)
                              (List.take
                                (d.d.spend.fst.log.length.min
                                  (IntKind.i64.wrap ((↑d.d.spend.fst.log.length : Int) + (↑d.len : Int))).toNat)
                                d.d.spend.fst.log))
                            ((0 : Nat) +
                              (↑(d.d.spend.fst.log.length.min
                                      (IntKind.i64.wrap ((↑d.d.spend.fst.log.length : Int) + (↑d.len : Int))).toNat) :
                                  Int).toNat)
                            (List.take
                              (d.len.min
                                ((↑(IntKind.i64.wrap ((↑d.d.spend.fst.log.length : Int) + (↑d.len : Int))).toNat :
                                      Int) -
                                    (↑(d.d.spend.fst.log.length.min
                                          (IntKind.i64.wrap
                                              ((↑d.d.spend.fst.log.length : Int) + (↑d.len : Int))).toNat) :
                                      Int)).toNat)
                              (List.take d.len (List.drop d.off d.xs)))).length &&
                      true &&
                    true)
                  ((d.d.append d.bytes).snd = (17 : Int) ∧
                    (((d.d.append d.bytes).fst.left = d.d.spend.fst.left ∧
                          (d.d.append d.bytes).fst.odd = d.d.spend.fst.odd ∧
                            (d.d.append d.bytes).fst.done = d.d.spend.fst.done ∧
                              (d.d.append d.bytes).fst.dead = d.d.spend.fst.dead ∧
                                bs (d.d.append d.bytes).fst.log =
                                    bs
                                      (List.drop (0 : Nat)
                                        (List.take
                                          ((0 : Nat) +
                                            (IntKind.i64.wrap
                                                ((↑d.d.spend.fst.log.length : Int) + (↑d.len : Int))).toNat)
                                          (setRange
                                            (setRange
                                              (List.replicate
                                                (IntKind.i64.wrap
                                                    ((↑d.d.spend.fst.log.length : Int) + (↑d.len : Int))).toNat
                                                (UInt8.ofNat (0 : Nat)))
                                              (0 : Nat)
                                              (List.take
                                                (d.d.spend.fst.log.length.min
                                                  (IntKind.i64.wrap
                                                      ((↑d.d.spend.fst.log.length : Int) + (↑d.len : Int))).toNat)
                                                d.d.spend.fst.log))
                                            ((0 : Nat) +
                                              (↑(d.d.spend.fst.log.length.min
                                                      (IntKind.i64.wrap
                                                          ((↑d.d.spend.fst.log.length : Int) + (↑d.len : Int))).toNat) :
                                                  Int).toNat)
                                            (List.take
                                              (d.len.min
                                                ((↑(IntKind.i64.wrap
                                                            ((↑d.d.spend.fst.log.length : Int) +
                                                              (↑d.len : Int))).toNat :
                                                      Int) -
                                                    (↑(d.d.spend.fst.log.length.min
                                                          (IntKind.i64.wrap
                                                              ((↑d.d.spend.fst.log.length : Int) +
                                                                (↑d.len : Int))).toNat) :
                                                      Int)).toNat)
                                              (List.take d.len (List.drop d.off d.xs)))))) ∧
                                  (d.d.append d.bytes).fst.synced = d.d.spend.fst.synced ∧
                                    bs (d.d.append d.bytes).fst.snap = bs d.d.spend.fst.snap ∧
                                      (d.d.append d.bytes).fst.room = d.d.spend.fst.room ∧ True) ∧
                        True) ∧
                      ob d.xs = ob d.xs ∧ True)
                  False)
                (branch
                  (((0 : Nat) + (IntKind.i64.wrap ((↑d.d.spend.fst.log.length : Int) + (↑d.len : Int))).toNat).ble
                        (setRange
                            (setRange
                              (List.replicate
                                (IntKind.i64.wrap ((↑d.d.spend.fst.log.length : Int) + (↑d.len : Int))).toNat
                                (UInt8.ofNat (0 : Nat)))
                              (0 : Nat)
                              (List.take
                                (d.d.spend.fst.log.length.min
                                  (IntKind.i64.wrap ((↑d.d.spend.fst.log.length : Int) + (↑d.len : Int))).toNat)
                                d.d.spend.fst.log))
                            ((0 : Nat) +
                              (↑(d.d.spend.fst.log.length.min
                                      (IntKind.i64.wrap ((↑d.d.spend.fst.log.length : Int) + (↑d.len : Int))).toNat) :
                                  Int).toNat)
                            (List.take
                              (d.len.min
                                ((↑(IntKind.i64.wrap ((↑d.d.spend.fst.log.length : Int) + (↑d.len : Int))).toNat :
                                      Int) -
                                    (↑(d.d.spend.fst.log.length.min
                                          (IntKind.i64.wrap
                                              ((↑d.d.spend.fst.log.length : Int) + (↑d.len : Int))).toNat) :
                                      Int)).toNat)
                              (List.take d.len (List.drop d.off d.xs)))).length &&
                      true &&
                    true)
                  ((d.d.append d.bytes).snd = (0 : Int) ∧
                    (((d.d.append d.bytes).fst.left = d.d.spend.fst.left ∧
                          (d.d.append d.bytes).fst.odd = d.d.spend.fst.odd ∧
                            (d.d.append d.bytes).fst.done = d.d.spend.fst.done ∧
                              (d.d.append d.bytes).fst.dead = d.d.spend.fst.dead ∧
                                bs (d.d.append d.bytes).fst.log =
                                    bs
                                      (List.drop (0 : Nat)
                                        (List.take
                                          ((0 : Nat) +
                                            (IntKind.i64.wrap
                                                ((↑d.d.spend.fst.log.length : Int) + (↑d.len : Int))).toNat)
                                          (setRange
                                            (setRange
                                              (List.replicate
                                                (IntKind.i64.wrap
                                                    ((↑d.d.spend.fst.log.length : Int) + (↑d.len : Int))).toNat
                                                (UInt8.ofNat (0 : Nat)))
                                              (0 : Nat)
                                              (List.take
                                                (d.d.spend.fst.log.length.min
                                                  (IntKind.i64.wrap
                                                      ((↑d.d.spend.fst.log.length : Int) + (↑d.len : Int))).toNat)
                                                d.d.spend.fst.log))
                                            ((0 : Nat) +
                                              (↑(d.d.spend.fst.log.length.min
                                                      (IntKind.i64.wrap
                                                          ((↑d.d.spend.fst.log.length : Int) + (↑d.len : Int))).toNat) :
                                                  Int).toNat)
                                            (List.take
                                              (d.len.min
                                                ((↑(IntKind.i64.wrap
                                                            ((↑d.d.spend.fst.log.length : Int) +
                                                              (↑d.len : Int))).toNat :
                                                      Int) -
                                                    (↑(d.d.spend.fst.log.length.min
                                                          (IntKind.i64.wrap
                                                              ((↑d.d.spend.fst.log.length : Int) +
                                                                (↑d.len : Int))).toNat) :
                                                      Int)).toNat)
                                              (List.take d.len (List.drop d.off d.xs)))))) ∧
                                  (d.d.append d.bytes).fst.synced = d.d.spend.fst.synced ∧
                                    bs (d.d.append d.bytes).fst.snap = bs d.d.spend.fst.snap ∧
                                      (d.d.append d.bytes).fst.room = d.d.spend.fst.room ∧ True) ∧
                        True) ∧
                      ob d.xs = ob d.xs ∧ True)
                  False))
              False)
            False)
          False)
        False)
      False))) := by kernel_rfl
theorem v24 (d : DSt) (b : List UInt8) : MeetsD h1 (24 : Nat) (S2 pD s24) (d, b) = (
  branch d.dead
  ((d.swap b).snd = (17 : Int) ∧
    (((d.swap b).fst.left = d.left ∧
          (d.swap b).fst.odd = d.odd ∧
            (d.swap b).fst.done = d.done ∧
              (d.swap b).fst.dead = d.dead ∧
                bs (d.swap b).fst.log = bs d.log ∧
                  (d.swap b).fst.synced = d.synced ∧
                    bs (d.swap b).fst.snap = bs d.snap ∧ (d.swap b).fst.room = d.room ∧ True) ∧
        True) ∧
      True)
  (branch (decide ((↑b.length : Int) > d.room))
    ((d.swap b).snd = (16 : Int) ∧
      (((d.swap b).fst.left = d.left ∧
            (d.swap b).fst.odd = d.odd ∧
              (d.swap b).fst.done = d.done ∧
                (d.swap b).fst.dead = d.dead ∧
                  bs (d.swap b).fst.log = bs d.log ∧
                    (d.swap b).fst.synced = d.synced ∧
                      bs (d.swap b).fst.snap = bs d.snap ∧ (d.swap b).fst.room = d.room ∧ True) ∧
          True) ∧
        True)
    (branch d.spend.snd
      (branch (SB.pre b)
        (branch (!d.spend.snd)
          ((d.swap b).snd = (17 : Int) ∧
            (((d.swap b).fst.left = d.spend.fst.left ∧
                  (d.swap b).fst.odd = d.spend.fst.odd ∧
                    (d.swap b).fst.done = d.spend.fst.done ∧
                      (d.swap b).fst.dead = d.spend.fst.dead ∧
                        (d.swap b).fst.log = [] ∧
                          (d.swap b).fst.synced = (0 : Int) ∧
                            bs (d.swap b).fst.snap = bs b ∧ (d.swap b).fst.room = d.spend.fst.room ∧ True) ∧
                True) ∧
              True)
          ((d.swap b).snd = (0 : Int) ∧
            (((d.swap b).fst.left = d.spend.fst.left ∧
                  (d.swap b).fst.odd = d.spend.fst.odd ∧
                    (d.swap b).fst.done = d.spend.fst.done ∧
                      (d.swap b).fst.dead = d.spend.fst.dead ∧
                        (d.swap b).fst.log = [] ∧
                          (d.swap b).fst.synced = (0 : Int) ∧
                            bs (d.swap b).fst.snap = bs b ∧ (d.swap b).fst.room = d.spend.fst.room ∧ True) ∧
                True) ∧
              True))
        False)
      (branch (d.spend.fst.odd == (0 : Int))
        (branch (SB.pre b)
          (branch (!d.spend.snd)
            ((d.swap b).snd = (17 : Int) ∧
              (((d.swap b).fst.left = d.spend.fst.left ∧
                    (d.swap b).fst.odd = d.spend.fst.odd ∧
                      (d.swap b).fst.done = d.spend.fst.done ∧
                        (d.swap b).fst.dead = d.spend.fst.dead ∧
                          (d.swap b).fst.log = [] ∧
                            (d.swap b).fst.synced = (0 : Int) ∧
                              bs (d.swap b).fst.snap = bs b ∧ (d.swap b).fst.room = d.spend.fst.room ∧ True) ∧
                  True) ∧
                True)
            ((d.swap b).snd = (0 : Int) ∧
              (((d.swap b).fst.left = d.spend.fst.left ∧
                    (d.swap b).fst.odd = d.spend.fst.odd ∧
                      (d.swap b).fst.done = d.spend.fst.done ∧
                        (d.swap b).fst.dead = d.spend.fst.dead ∧
                          (d.swap b).fst.log = [] ∧
                            (d.swap b).fst.synced = (0 : Int) ∧
                              bs (d.swap b).fst.snap = bs b ∧ (d.swap b).fst.room = d.spend.fst.room ∧ True) ∧
                  True) ∧
                True))
          False)
        (branch (!d.spend.snd)
          ((d.swap b).snd = (17 : Int) ∧
            (((d.swap b).fst.left = d.spend.fst.left ∧
                  (d.swap b).fst.odd = d.spend.fst.odd ∧
                    (d.swap b).fst.done = d.spend.fst.done ∧
                      (d.swap b).fst.dead = d.spend.fst.dead ∧
                        bs (d.swap b).fst.log = bs d.spend.fst.log ∧
                          (d.swap b).fst.synced = d.spend.fst.synced ∧
                            bs (d.swap b).fst.snap = bs d.spend.fst.snap ∧
                              (d.swap b).fst.room = d.spend.fst.room ∧ True) ∧
                True) ∧
              True)
          ((d.swap b).snd = (0 : Int) ∧
            (((d.swap b).fst.left = d.spend.fst.left ∧
                  (d.swap b).fst.odd = d.spend.fst.odd ∧
                    (d.swap b).fst.done = d.spend.fst.done ∧
                      (d.swap b).fst.dead = d.spend.fst.dead ∧
                        bs (d.swap b).fst.log = bs d.spend.fst.log ∧
                          (d.swap b).fst.synced = d.spend.fst.synced ∧
                            bs (d.swap b).fst.snap = bs d.spend.fst.snap ∧
                              (d.swap b).fst.room = d.spend.fst.room ∧ True) ∧
                True) ∧
              True)))))) := by kernel_rfl
theorem v24l (d : Lv) : MeetsD h1 (24 : Nat) (S3 pD s24l) d = (
  branch d.d.dead
  ((d.d.swap d.bytes).snd = (17 : Int) ∧
    (((d.d.swap d.bytes).fst.left = d.d.left ∧
          (d.d.swap d.bytes).fst.odd = d.d.odd ∧
            (d.d.swap d.bytes).fst.done = d.d.done ∧
              (d.d.swap d.bytes).fst.dead = d.d.dead ∧
                bs (d.d.swap d.bytes).fst.log = bs d.d.log ∧
                  (d.d.swap d.bytes).fst.synced = d.d.synced ∧
                    bs (d.d.swap d.bytes).fst.snap = bs d.d.snap ∧ (d.d.swap d.bytes).fst.room = d.d.room ∧ True) ∧
        True) ∧
      ob d.xs = ob d.xs ∧ True)
  (branch (decide ((↑d.len : Int) > d.d.room))
    ((d.d.swap d.bytes).snd = (16 : Int) ∧
      (((d.d.swap d.bytes).fst.left = d.d.left ∧
            (d.d.swap d.bytes).fst.odd = d.d.odd ∧
              (d.d.swap d.bytes).fst.done = d.d.done ∧
                (d.d.swap d.bytes).fst.dead = d.d.dead ∧
                  bs (d.d.swap d.bytes).fst.log = bs d.d.log ∧
                    (d.d.swap d.bytes).fst.synced = d.d.synced ∧
                      bs (d.d.swap d.bytes).fst.snap = bs d.d.snap ∧ (d.d.swap d.bytes).fst.room = d.d.room ∧ True) ∧
          True) ∧
        ob d.xs = ob d.xs ∧ True)
    (branch d.d.spend.snd
      (branch (SC.pre (Bv.mk d.xs d.off d.len d.cap))
        (branch (!d.d.spend.snd)
          ((d.d.swap d.bytes).snd = (17 : Int) ∧
            (((d.d.swap d.bytes).fst.left = d.d.spend.fst.left ∧
                  (d.d.swap d.bytes).fst.odd = d.d.spend.fst.odd ∧
                    (d.d.swap d.bytes).fst.done = d.d.spend.fst.done ∧
                      (d.d.swap d.bytes).fst.dead = d.d.spend.fst.dead ∧
                        (d.d.swap d.bytes).fst.log = [] ∧
                          (d.d.swap d.bytes).fst.synced = (0 : Int) ∧
                            bs (d.d.swap d.bytes).fst.snap = bs (Bv.mk d.xs d.off d.len d.cap).bytes ∧
                              (d.d.swap d.bytes).fst.room = d.d.spend.fst.room ∧ True) ∧
                True) ∧
              ob d.xs = ob d.xs ∧ True)
          ((d.d.swap d.bytes).snd = (0 : Int) ∧
            (((d.d.swap d.bytes).fst.left = d.d.spend.fst.left ∧
                  (d.d.swap d.bytes).fst.odd = d.d.spend.fst.odd ∧
                    (d.d.swap d.bytes).fst.done = d.d.spend.fst.done ∧
                      (d.d.swap d.bytes).fst.dead = d.d.spend.fst.dead ∧
                        (d.d.swap d.bytes).fst.log = [] ∧
                          (d.d.swap d.bytes).fst.synced = (0 : Int) ∧
                            bs (d.d.swap d.bytes).fst.snap = bs (Bv.mk d.xs d.off d.len d.cap).bytes ∧
                              (d.d.swap d.bytes).fst.room = d.d.spend.fst.room ∧ True) ∧
                True) ∧
              ob d.xs = ob d.xs ∧ True))
        False)
      (branch (d.d.spend.fst.odd == (0 : Int))
        (branch (SC.pre (Bv.mk d.xs d.off d.len d.cap))
          (branch (!d.d.spend.snd)
            ((d.d.swap d.bytes).snd = (17 : Int) ∧
              (((d.d.swap d.bytes).fst.left = d.d.spend.fst.left ∧
                    (d.d.swap d.bytes).fst.odd = d.d.spend.fst.odd ∧
                      (d.d.swap d.bytes).fst.done = d.d.spend.fst.done ∧
                        (d.d.swap d.bytes).fst.dead = d.d.spend.fst.dead ∧
                          (d.d.swap d.bytes).fst.log = [] ∧
                            (d.d.swap d.bytes).fst.synced = (0 : Int) ∧
                              bs (d.d.swap d.bytes).fst.snap = bs (Bv.mk d.xs d.off d.len d.cap).bytes ∧
                                (d.d.swap d.bytes).fst.room = d.d.spend.fst.room ∧ True) ∧
                  True) ∧
                ob d.xs = ob d.xs ∧ True)
            ((d.d.swap d.bytes).snd = (0 : Int) ∧
              (((d.d.swap d.bytes).fst.left = d.d.spend.fst.left ∧
                    (d.d.swap d.bytes).fst.odd = d.d.spend.fst.odd ∧
                      (d.d.swap d.bytes).fst.done = d.d.spend.fst.done ∧
                        (d.d.swap d.bytes).fst.dead = d.d.spend.fst.dead ∧
                          (d.d.swap d.bytes).fst.log = [] ∧
                            (d.d.swap d.bytes).fst.synced = (0 : Int) ∧
                              bs (d.d.swap d.bytes).fst.snap = bs (Bv.mk d.xs d.off d.len d.cap).bytes ∧
                                (d.d.swap d.bytes).fst.room = d.d.spend.fst.room ∧ True) ∧
                  True) ∧
                ob d.xs = ob d.xs ∧ True))
          False)
        (branch (!d.d.spend.snd)
          ((d.d.swap d.bytes).snd = (17 : Int) ∧
            (((d.d.swap d.bytes).fst.left = d.d.spend.fst.left ∧
                  (d.d.swap d.bytes).fst.odd = d.d.spend.fst.odd ∧
                    (d.d.swap d.bytes).fst.done = d.d.spend.fst.done ∧
                      (d.d.swap d.bytes).fst.dead = d.d.spend.fst.dead ∧
                        bs (d.d.swap d.bytes).fst.log = bs d.d.spend.fst.log ∧
                          (d.d.swap d.bytes).fst.synced = d.d.spend.fst.synced ∧
                            bs (d.d.swap d.bytes).fst.snap = bs d.d.spend.fst.snap ∧
                              (d.d.swap d.bytes).fst.room = d.d.spend.fst.room ∧ True) ∧
                True) ∧
              ob d.xs = ob d.xs ∧ True)
          ((d.d.swap d.bytes).snd = (0 : Int) ∧
            (((d.d.swap d.bytes).fst.left = d.d.spend.fst.left ∧
                  (d.d.swap d.bytes).fst.odd = d.d.spend.fst.odd ∧
                    (d.d.swap d.bytes).fst.done = d.d.spend.fst.done ∧
                      (d.d.swap d.bytes).fst.dead = d.d.spend.fst.dead ∧
                        bs (d.d.swap d.bytes).fst.log = bs d.d.spend.fst.log ∧
                          (d.d.swap d.bytes).fst.synced = d.d.spend.fst.synced ∧
                            bs (d.d.swap d.bytes).fst.snap = bs d.d.spend.fst.snap ∧
                              (d.d.swap d.bytes).fst.room = d.d.spend.fst.room ∧ True) ∧
                True) ∧
              ob d.xs = ob d.xs ∧ True)))))) := by kernel_rfl
theorem v25 (d : DSt) : MeetsD h1 (25 : Nat) (S0 DSt.fine s25) d = (
  branch (SB.pre d.log)
  (bs d.log = bs d.log ∧
    ((d.left = d.left ∧
          d.odd = d.odd ∧
            d.done = d.done ∧
              d.dead = d.dead ∧
                bs d.log = bs d.log ∧ d.synced = d.synced ∧ bs d.snap = bs d.snap ∧ d.room = d.room ∧ True) ∧
        True) ∧
      True)
  False) := by kernel_rfl
theorem v26 (d : DSt) : MeetsD h1 (26 : Nat) (S0 DSt.fine s26) d = (
  branch (SB.pre d.snap)
  (bs d.snap = bs d.snap ∧
    ((d.left = d.left ∧
          d.odd = d.odd ∧
            d.done = d.done ∧
              d.dead = d.dead ∧
                bs d.log = bs d.log ∧ d.synced = d.synced ∧ bs d.snap = bs d.snap ∧ d.room = d.room ∧ True) ∧
        True) ∧
      True)
  False) := by kernel_rfl
theorem v27 (d : DSt) (n : Int) : MeetsD h1 (27 : Nat) (S1 tt s27) (d, n) = (
  True ∧
  ((((d.stop n).left = if (0 : Int) > n then (0 : Int) else n) ∧
        (d.stop n).odd = (if (0 : Int) > n then (0 : Int) else n).tmod (2 : Int) ∧
          (d.stop n).done = d.done ∧
            (d.stop n).dead = d.dead ∧
              bs (d.stop n).log = bs d.log ∧
                (d.stop n).synced = d.synced ∧ bs (d.stop n).snap = bs d.snap ∧ (d.stop n).room = d.room ∧ True) ∧
      True) ∧
    True) := by kernel_rfl
theorem v28 (d : DSt) (n : Int) : MeetsD h1 (28 : Nat) (S1 DSt.fine s28) (d, n) = (
  branch (!decide (IntKind.i64.wrap (IntKind.i64.wrap ((↑d.log.length : Int) - d.synced) + (1 : Int)) = (0 : Int)))
  (branch (!decide (IntKind.i64.wrap (IntKind.i64.wrap ((↑d.log.length : Int) - d.synced) + (1 : Int)) = (0 : Int)))
    (branch
      (decide
              ((0 : Int) ≤
                IntKind.i64.wrap
                  (d.synced +
                    (IntKind.i64.wrap
                          (n.tmod (IntKind.i64.wrap (IntKind.i64.wrap ((↑d.log.length : Int) - d.synced) + (1 : Int))) +
                            IntKind.i64.wrap (IntKind.i64.wrap ((↑d.log.length : Int) - d.synced) + (1 : Int)))).tmod
                      (IntKind.i64.wrap (IntKind.i64.wrap ((↑d.log.length : Int) - d.synced) + (1 : Int))))) &&
            decide
              (IntKind.i64.wrap
                  (d.synced +
                    (IntKind.i64.wrap
                          (n.tmod (IntKind.i64.wrap (IntKind.i64.wrap ((↑d.log.length : Int) - d.synced) + (1 : Int))) +
                            IntKind.i64.wrap (IntKind.i64.wrap ((↑d.log.length : Int) - d.synced) + (1 : Int)))).tmod
                      (IntKind.i64.wrap (IntKind.i64.wrap ((↑d.log.length : Int) - d.synced) + (1 : Int)))) ≤
                (↑d.log.length : Int)) &&
          true &&
        true)
      (branch
        (SB.pre
          (List.drop (Int.toNat (0 : Int))
            (List.take
              (IntKind.i64.wrap
                  (d.synced +
                    (IntKind.i64.wrap
                          (n.tmod (IntKind.i64.wrap (IntKind.i64.wrap ((↑d.log.length : Int) - d.synced) + (1 : Int))) +
                            IntKind.i64.wrap (IntKind.i64.wrap ((↑d.log.length : Int) - d.synced) + (1 : Int)))).tmod
                      (IntKind.i64.wrap (IntKind.i64.wrap ((↑d.log.length : Int) - d.synced) + (1 : Int))))).toNat
              d.log)))
        (d.kept n =
            (IntKind.i64.wrap
                  (n.tmod (IntKind.i64.wrap (IntKind.i64.wrap ((↑d.log.length : Int) - d.synced) + (1 : Int))) +
                    IntKind.i64.wrap (IntKind.i64.wrap ((↑d.log.length : Int) - d.synced) + (1 : Int)))).tmod
              (IntKind.i64.wrap (IntKind.i64.wrap ((↑d.log.length : Int) - d.synced) + (1 : Int))) ∧
          (((d.crash n).left = (0 : Int) ∧
                (d.crash n).odd = (0 : Int) ∧
                  (d.crash n).done = d.done ∧
                    false = false ∧
                      bs (d.crash n).log =
                          bs
                            (List.drop (0 : Nat)
                              (List.take
                                (IntKind.i64.wrap
                                    (d.synced +
                                      (IntKind.i64.wrap
                                            (n.tmod
                                                (IntKind.i64.wrap
                                                  (IntKind.i64.wrap ((↑d.log.length : Int) - d.synced) + (1 : Int))) +
                                              IntKind.i64.wrap
                                                (IntKind.i64.wrap ((↑d.log.length : Int) - d.synced) + (1 : Int)))).tmod
                                        (IntKind.i64.wrap
                                          (IntKind.i64.wrap ((↑d.log.length : Int) - d.synced) + (1 : Int))))).toNat
                                d.log)) ∧
                        (d.crash n).synced =
                            (↑(List.drop (0 : Nat)
                                    (List.take
                                      (IntKind.i64.wrap
                                          (d.synced +
                                            (IntKind.i64.wrap
                                                  (n.tmod
                                                      (IntKind.i64.wrap
                                                        (IntKind.i64.wrap ((↑d.log.length : Int) - d.synced) +
                                                          (1 : Int))) +
                                                    IntKind.i64.wrap
                                                      (IntKind.i64.wrap ((↑d.log.length : Int) - d.synced) +
                                                        (1 : Int)))).tmod
                                              (IntKind.i64.wrap
                                                (IntKind.i64.wrap ((↑d.log.length : Int) - d.synced) +
                                                  (1 : Int))))).toNat
                                      d.log)).length :
                              Int) ∧
                          bs (d.crash n).snap = bs d.snap ∧ (d.crash n).room = d.room ∧ True) ∧
              True) ∧
            True)
        False)
      False)
    False)
  False) := by kernel_rfl
theorem v29 (d : DSt) : MeetsD h1 (29 : Nat) (S0 DSt.fine s29) d = (
  branch d.dead
  (d.sync.snd = (17 : Int) ∧
    ((d.sync.fst.left = d.left ∧
          d.sync.fst.odd = d.odd ∧
            d.sync.fst.done = d.done ∧
              d.sync.fst.dead = d.dead ∧
                bs d.sync.fst.log = bs d.log ∧
                  d.sync.fst.synced = d.synced ∧ bs d.sync.fst.snap = bs d.snap ∧ d.sync.fst.room = d.room ∧ True) ∧
        True) ∧
      True)
  (branch (!d.spend.snd)
    (d.sync.snd = (17 : Int) ∧
      ((d.sync.fst.left = d.spend.fst.left ∧
            d.sync.fst.odd = d.spend.fst.odd ∧
              d.sync.fst.done = d.spend.fst.done ∧
                d.sync.fst.dead = d.spend.fst.dead ∧
                  bs d.sync.fst.log = bs d.spend.fst.log ∧
                    d.sync.fst.synced = d.spend.fst.synced ∧
                      bs d.sync.fst.snap = bs d.spend.fst.snap ∧ d.sync.fst.room = d.spend.fst.room ∧ True) ∧
          True) ∧
        True)
    (d.sync.snd = (0 : Int) ∧
      ((d.sync.fst.left = d.spend.fst.left ∧
            d.sync.fst.odd = d.spend.fst.odd ∧
              d.sync.fst.done = d.spend.fst.done ∧
                d.sync.fst.dead = d.spend.fst.dead ∧
                  bs d.sync.fst.log = bs d.spend.fst.log ∧
                    d.sync.fst.synced = (↑d.spend.fst.log.length : Int) ∧
                      bs d.sync.fst.snap = bs d.spend.fst.snap ∧ d.sync.fst.room = d.spend.fst.room ∧ True) ∧
          True) ∧
        True))) := by kernel_rfl
theorem v33 (d : RSt) (b : List UInt8) : MeetsD h1r (33 : Nat) (R2 pR s33) (d, b) = (
  branch d.dead
  ((d.append b).snd = (17 : Int) ∧
    (((d.append b).fst.room = d.room ∧
          bs (d.append b).fst.log = bs d.log ∧
            (d.append b).fst.synced = d.synced ∧
              bs (d.append b).fst.snap = bs d.snap ∧
                (d.append b).fst.left = d.left ∧
                  (d.append b).fst.even = d.even ∧
                    (d.append b).fst.dead = d.dead ∧ (d.append b).fst.done = d.done ∧ True) ∧
        True) ∧
      True)
  (branch
    (decide
      (IntKind.i64.wrap (IntKind.i64.wrap ((↑d.log.length : Int) + (↑d.snap.length : Int)) + (↑b.length : Int)) >
        d.room))
    ((d.append b).snd = (16 : Int) ∧
      (((d.append b).fst.room = d.room ∧
            bs (d.append b).fst.log = bs d.log ∧
              (d.append b).fst.synced = d.synced ∧
                bs (d.append b).fst.snap = bs d.snap ∧
                  (d.append b).fst.left = d.left ∧
                    (d.append b).fst.even = d.even ∧
                      (d.append b).fst.dead = d.dead ∧ (d.append b).fst.done = d.done ∧ True) ∧
          True) ∧
        True)
    (branch (((0 : Nat) + d.goes.fst.log.length).ble (0 : Nat))
      (branch (((0 : Nat) + d.goes.fst.log.length).ble (0 : Nat))
        (branch (((0 : Nat) + d.goes.fst.log.length + b.length).ble (0 : Nat))
          (branch
            (((0 : Nat) + ((0 : Nat) + d.goes.fst.log.length) + b.length).ble
              (setRange [] (0 : Nat) d.goes.fst.log).length)
            (branch d.goes.fst.dead
              (branch
                (((0 : Nat) + ((0 : Nat) + d.goes.fst.log.length + b.length)).ble
                      (setRange (setRange [] (0 : Nat) d.goes.fst.log) ((0 : Nat) + ((0 : Nat) + d.goes.fst.log.length))
                          b).length &&
                    true &&
                  true)
                ((d.append b).snd = (17 : Int) ∧
                  (((d.append b).fst.room = d.goes.fst.room ∧
                        bs (d.append b).fst.log =
                            bs
                              (List.drop (0 : Nat)
                                (List.take ((0 : Nat) + ((0 : Nat) + d.goes.fst.log.length + b.length))
                                  (setRange (setRange [] (0 : Nat) d.goes.fst.log)
                                    ((0 : Nat) + ((0 : Nat) + d.goes.fst.log.length)) b))) ∧
                          (d.append b).fst.synced = d.goes.fst.synced ∧
                            bs (d.append b).fst.snap = bs d.goes.fst.snap ∧
                              (d.append b).fst.left = d.goes.fst.left ∧
                                (d.append b).fst.even = d.goes.fst.even ∧
                                  (d.append b).fst.dead = d.goes.fst.dead ∧
                                    (d.append b).fst.done = d.goes.fst.done ∧ True) ∧
                      True) ∧
                    True)
                False)
              (branch
                (((0 : Nat) + ((0 : Nat) + d.goes.fst.log.length + b.length)).ble
                      (setRange (setRange [] (0 : Nat) d.goes.fst.log) ((0 : Nat) + ((0 : Nat) + d.goes.fst.log.length))
                          b).length &&
                    true &&
                  true)
                ((d.append b).snd = (0 : Int) ∧
                  (((d.append b).fst.room = d.goes.fst.room ∧
                        bs (d.append b).fst.log =
                            bs
                              (List.drop (0 : Nat)
                                (List.take ((0 : Nat) + ((0 : Nat) + d.goes.fst.log.length + b.length))
                                  (setRange (setRange [] (0 : Nat) d.goes.fst.log)
                                    ((0 : Nat) + ((0 : Nat) + d.goes.fst.log.length)) b))) ∧
                          (d.append b).fst.synced = d.goes.fst.synced ∧
                            bs (d.append b).fst.snap = bs d.goes.fst.snap ∧
                              (d.append b).fst.left = d.goes.fst.left ∧
                                (d.append b).fst.even = d.goes.fst.even ∧
                                  (d.append b).fst.dead = d.goes.fst.dead ∧
                                    (d.append b).fst.done = IntKind.i64.wrap (d.goes.fst.done + (1 : Int)) ∧ True) ∧
                      True) ∧
                    True)
                False))
            False)
          (branch
            ((((0 : Nat) + d.goes.fst.log.length + b.length) * (1 : Nat)).ble (140737488355328 : Nat) &&
                    ((0 : Nat) + d.goes.fst.log.length + b.length).ble (9223372036854775807 : Nat) &&
                  true &&
                true &&
              ((0 : Nat) + ((0 : Nat) + d.goes.fst.log.length)).ble (setRange [] (0 : Nat) d.goes.fst.log).length)
            (branch d.goes.fst.dead
              (branch
                (((0 : Nat) + ((0 : Nat) + d.goes.fst.log.length + b.length)).ble
                      (List.take ((0 : Nat) + d.goes.fst.log.length)
                            (List.drop (0 : Nat) (setRange [] (0 : Nat) d.goes.fst.log)) ++
                          b).length &&
                    true &&
                  true)
                ((d.append b).snd = (17 : Int) ∧
                  (((d.append b).fst.room = d.goes.fst.room ∧
                        bs (d.append b).fst.log =
                            bs
                              (List.drop (0 : Nat)
                                (List.take ((0 : Nat) + ((0 : Nat) + d.goes.fst.log.length + b.length))
                                  (List.take ((0 : Nat) + d.goes.fst.log.length)
                                      (List.drop (0 : Nat) (setRange [] (0 : Nat) d.goes.fst.log)) ++
                                    b))) ∧
                          (d.append b).fst.synced = d.goes.fst.synced ∧
                            bs (d.append b).fst.snap = bs d.goes.fst.snap ∧
                              (d.append b).fst.left = d.goes.fst.left ∧
                                (d.append b).fst.even = d.goes.fst.even ∧
                                  (d.append b).fst.dead = d.goes.fst.dead ∧
                                    (d.append b).fst.done = d.goes.fst.done ∧ True) ∧
                      True) ∧
                    True)
                False)
              (branch
                (((0 : Nat) + ((0 : Nat) + d.goes.fst.log.length + b.length)).ble
                      (List.take ((0 : Nat) + d.goes.fst.log.length)
                            (List.drop (0 : Nat) (setRange [] (0 : Nat) d.goes.fst.log)) ++
                          b).length &&
                    true &&
                  true)
                ((d.append b).snd = (0 : Int) ∧
                  (((d.append b).fst.room = d.goes.fst.room ∧
                        bs (d.append b).fst.log =
                            bs
                              (List.drop (0 : Nat)
                                (List.take ((0 : Nat) + ((0 : Nat) + d.goes.fst.log.length + b.length))
                                  (List.take ((0 : Nat) + d.goes.fst.log.length)
                                      (List.drop (0 : Nat) (setRange [] (0 : Nat) d.goes.fst.log)) ++
                                    b))) ∧
                          (d.append b).fst.synced = d.goes.fst.synced ∧
                            bs (d.append b).fst.snap = bs d.goes.fst.snap ∧
                              (d.append b).fst.left = d.goes.fst.left ∧
                                (d.append b).fst.even = d.goes.fst.even ∧
                                  (d.append b).fst.dead = d.goes.fst.dead ∧
                                    (d.append b).fst.done = IntKind.i64.wrap (d.goes.fst.done + (1 : Int)) ∧ True) ∧
                      True) ∧
                    True)
                False))
            False))
        False)
      (branch
        ((((0 : Nat) + d.goes.fst.log.length) * (1 : Nat)).ble (140737488355328 : Nat) &&
                ((0 : Nat) + d.goes.fst.log.length).ble (9223372036854775807 : Nat) &&
              true &&
            true &&
          true)
        (branch (((0 : Nat) + d.goes.fst.log.length + b.length).ble ((0 : Nat) + d.goes.fst.log.length))
          (branch (((0 : Nat) + ((0 : Nat) + d.goes.fst.log.length) + b.length).ble ([] ++ d.goes.fst.log).length)
            (branch d.goes.fst.dead
              (branch
                (((0 : Nat) + ((0 : Nat) + d.goes.fst.log.length + b.length)).ble
                      (setRange ([] ++ d.goes.fst.log) ((0 : Nat) + ((0 : Nat) + d.goes.fst.log.length)) b).length &&
                    true &&
                  true)
                ((d.append b).snd = (17 : Int) ∧
                  (((d.append b).fst.room = d.goes.fst.room ∧
                        bs (d.append b).fst.log =
                            bs
                              (List.drop (0 : Nat)
                                (List.take ((0 : Nat) + ((0 : Nat) + d.goes.fst.log.length + b.length))
                                  (setRange ([] ++ d.goes.fst.log) ((0 : Nat) + ((0 : Nat) + d.goes.fst.log.length))
                                    b))) ∧
                          (d.append b).fst.synced = d.goes.fst.synced ∧
                            bs (d.append b).fst.snap = bs d.goes.fst.snap ∧
                              (d.append b).fst.left = d.goes.fst.left ∧
                                (d.append b).fst.even = d.goes.fst.even ∧
                                  (d.append b).fst.dead = d.goes.fst.dead ∧
                                    (d.append b).fst.done = d.goes.fst.done ∧ True) ∧
                      True) ∧
                    True)
                False)
              (branch
                (((0 : Nat) + ((0 : Nat) + d.goes.fst.log.length + b.length)).ble
                      (setRange ([] ++ d.goes.fst.log) ((0 : Nat) + ((0 : Nat) + d.goes.fst.log.length)) b).length &&
                    true &&
                  true)
                ((d.append b).snd = (0 : Int) ∧
                  (((d.append b).fst.room = d.goes.fst.room ∧
                        bs (d.append b).fst.log =
                            bs
                              (List.drop (0 : Nat)
                                (List.take ((0 : Nat) + ((0 : Nat) + d.goes.fst.log.length + b.length))
                                  (setRange ([] ++ d.goes.fst.log) ((0 : Nat) + ((0 : Nat) + d.goes.fst.log.length))
                                    b))) ∧
                          (d.append b).fst.synced = d.goes.fst.synced ∧
                            bs (d.append b).fst.snap = bs d.goes.fst.snap ∧
                              (d.append b).fst.left = d.goes.fst.left ∧
                                (d.append b).fst.even = d.goes.fst.even ∧
                                  (d.append b).fst.dead = d.goes.fst.dead ∧
                                    (d.append b).fst.done = IntKind.i64.wrap (d.goes.fst.done + (1 : Int)) ∧ True) ∧
                      True) ∧
                    True)
                False))
            False)
          (branch (((0 : Nat) + ((0 : Nat) + d.goes.fst.log.length)).beq ([] ++ d.goes.fst.log).length)
            (branch
              ((((0 : Nat) + d.goes.fst.log.length + b.length) * (1 : Nat)).ble (140737488355328 : Nat) &&
                      ((0 : Nat) + d.goes.fst.log.length + b.length).ble (9223372036854775807 : Nat) &&
                    true &&
                  true &&
                ((0 : Nat) + ((0 : Nat) + d.goes.fst.log.length)).ble ([] ++ d.goes.fst.log).length)
              (branch d.goes.fst.dead
                (branch
                  (((0 : Nat) + ((0 : Nat) + d.goes.fst.log.length + b.length)).ble
                        (List.take ((0 : Nat) + d.goes.fst.log.length) (List.drop (0 : Nat) ([] ++ d.goes.fst.log)) ++
                            b).length &&
                      true &&
                    true)
                  ((d.append b).snd = (17 : Int) ∧
                    (((d.append b).fst.room = d.goes.fst.room ∧
                          bs (d.append b).fst.log =
                              bs
                                (List.drop (0 : Nat)
                                  (List.take ((0 : Nat) + ((0 : Nat) + d.goes.fst.log.length + b.length))
                                    (List.take ((0 : Nat) + d.goes.fst.log.length)
                                        (List.drop (0 : Nat) ([] ++ d.goes.fst.log)) ++
                                      b))) ∧
                            (d.append b).fst.synced = d.goes.fst.synced ∧
                              bs (d.append b).fst.snap = bs d.goes.fst.snap ∧
                                (d.append b).fst.left = d.goes.fst.left ∧
                                  (d.append b).fst.even = d.goes.fst.even ∧
                                    (d.append b).fst.dead = d.goes.fst.dead ∧
                                      (d.append b).fst.done = d.goes.fst.done ∧ True) ∧
                        True) ∧
                      True)
                  False)
                (branch
                  (((0 : Nat) + ((0 : Nat) + d.goes.fst.log.length + b.length)).ble
                        (List.take ((0 : Nat) + d.goes.fst.log.length) (List.drop (0 : Nat) ([] ++ d.goes.fst.log)) ++
                            b).length &&
                      true &&
                    true)
                  ((d.append b).snd = (0 : Int) ∧
                    (((d.append b).fst.room = d.goes.fst.room ∧
                          bs (d.append b).fst.log =
                              bs
                                (List.drop (0 : Nat)
                                  (List.take ((0 : Nat) + ((0 : Nat) + d.goes.fst.log.length + b.length))
                                    (List.take ((0 : Nat) + d.goes.fst.log.length)
                                        (List.drop (0 : Nat) ([] ++ d.goes.fst.log)) ++
                                      b))) ∧
                            (d.append b).fst.synced = d.goes.fst.synced ∧
                              bs (d.append b).fst.snap = bs d.goes.fst.snap ∧
                                (d.append b).fst.left = d.goes.fst.left ∧
                                  (d.append b).fst.even = d.goes.fst.even ∧
                                    (d.append b).fst.dead = d.goes.fst.dead ∧
                                      (d.append b).fst.done = IntKind.i64.wrap (d.goes.fst.done + (1 : Int)) ∧ True) ∧
                        True) ∧
                      True)
                  False))
              False)
            False))
        False)))) := by kernel_rfl
theorem v34 (d : RSt) : MeetsD h1 (34 : Nat) (R0 RSt.fine s34) d = (
  branch d.dead
  (d.sync.snd = (17 : Int) ∧
    ((d.sync.fst.room = d.room ∧
          bs d.sync.fst.log = bs d.log ∧
            d.sync.fst.synced = d.synced ∧
              bs d.sync.fst.snap = bs d.snap ∧
                d.sync.fst.left = d.left ∧
                  d.sync.fst.even = d.even ∧ d.sync.fst.dead = d.dead ∧ d.sync.fst.done = d.done ∧ True) ∧
        True) ∧
      True)
  (branch (!d.goes.snd)
    (d.sync.snd =
        (RSt.mk d.goes.fst.room d.goes.fst.log (↑d.goes.fst.log.length : Int) d.goes.fst.snap d.goes.fst.left
              d.goes.fst.even d.goes.fst.dead d.goes.fst.done).end_.snd ∧
      ((d.sync.fst.room =
              (RSt.mk d.goes.fst.room d.goes.fst.log (↑d.goes.fst.log.length : Int) d.goes.fst.snap d.goes.fst.left
                      d.goes.fst.even d.goes.fst.dead d.goes.fst.done).end_.fst.room ∧
            bs d.sync.fst.log =
                bs
                  (RSt.mk d.goes.fst.room d.goes.fst.log (↑d.goes.fst.log.length : Int) d.goes.fst.snap d.goes.fst.left
                          d.goes.fst.even d.goes.fst.dead d.goes.fst.done).end_.fst.log ∧
              d.sync.fst.synced =
                  (RSt.mk d.goes.fst.room d.goes.fst.log (↑d.goes.fst.log.length : Int) d.goes.fst.snap d.goes.fst.left
                          d.goes.fst.even d.goes.fst.dead d.goes.fst.done).end_.fst.synced ∧
                bs d.sync.fst.snap =
                    bs
                      (RSt.mk d.goes.fst.room d.goes.fst.log (↑d.goes.fst.log.length : Int) d.goes.fst.snap
                              d.goes.fst.left d.goes.fst.even d.goes.fst.dead d.goes.fst.done).end_.fst.snap ∧
                  d.sync.fst.left =
                      (RSt.mk d.goes.fst.room d.goes.fst.log (↑d.goes.fst.log.length : Int) d.goes.fst.snap
                              d.goes.fst.left d.goes.fst.even d.goes.fst.dead d.goes.fst.done).end_.fst.left ∧
                    d.sync.fst.even =
                        (RSt.mk d.goes.fst.room d.goes.fst.log (↑d.goes.fst.log.length : Int) d.goes.fst.snap
                                d.goes.fst.left d.goes.fst.even d.goes.fst.dead d.goes.fst.done).end_.fst.even ∧
                      d.sync.fst.dead =
                          (RSt.mk d.goes.fst.room d.goes.fst.log (↑d.goes.fst.log.length : Int) d.goes.fst.snap
                                  d.goes.fst.left d.goes.fst.even d.goes.fst.dead d.goes.fst.done).end_.fst.dead ∧
                        d.sync.fst.done =
                            (RSt.mk d.goes.fst.room d.goes.fst.log (↑d.goes.fst.log.length : Int) d.goes.fst.snap
                                    d.goes.fst.left d.goes.fst.even d.goes.fst.dead d.goes.fst.done).end_.fst.done ∧
                          True) ∧
          True) ∧
        True)
    (d.sync.snd = d.goes.fst.end_.snd ∧
      ((d.sync.fst.room = d.goes.fst.end_.fst.room ∧
            bs d.sync.fst.log = bs d.goes.fst.end_.fst.log ∧
              d.sync.fst.synced = d.goes.fst.end_.fst.synced ∧
                bs d.sync.fst.snap = bs d.goes.fst.end_.fst.snap ∧
                  d.sync.fst.left = d.goes.fst.end_.fst.left ∧
                    d.sync.fst.even = d.goes.fst.end_.fst.even ∧
                      d.sync.fst.dead = d.goes.fst.end_.fst.dead ∧ d.sync.fst.done = d.goes.fst.end_.fst.done ∧ True) ∧
          True) ∧
        True))) := by kernel_rfl
theorem v35 (d : RSt) (n : Int) : MeetsD h1 (35 : Nat) (R1 tt s35) (d, n) = (
  True ∧
  (((d.stop n).room = d.room ∧
        bs (d.stop n).log = bs d.log ∧
          (d.stop n).synced = d.synced ∧
            bs (d.stop n).snap = bs d.snap ∧
              ((d.stop n).left = if (0 : Int) > n then (0 : Int) else n) ∧
                (d.stop n).even = (n.tmod (2 : Int) == (0 : Int)) ∧
                  (d.stop n).dead = d.dead ∧ (d.stop n).done = d.done ∧ True) ∧
      True) ∧
    True) := by kernel_rfl
theorem v36 (d : RSt) (n : Int) : MeetsD h1 (36 : Nat) (R1 RSt.fine s36) (d, n) = (
  branch (!decide (IntKind.i64.wrap (IntKind.i64.wrap ((↑d.log.length : Int) - d.synced) + (1 : Int)) = (0 : Int)))
  (branch
    (decide (n.tmod (IntKind.i64.wrap (IntKind.i64.wrap ((↑d.log.length : Int) - d.synced) + (1 : Int))) < (0 : Int)))
    (branch
      (decide
              ((0 : Int) ≤
                IntKind.i64.wrap
                  (d.synced +
                    IntKind.i64.wrap
                      (n.tmod (IntKind.i64.wrap (IntKind.i64.wrap ((↑d.log.length : Int) - d.synced) + (1 : Int))) +
                        IntKind.i64.wrap (IntKind.i64.wrap ((↑d.log.length : Int) - d.synced) + (1 : Int))))) &&
            decide
              (IntKind.i64.wrap
                  (d.synced +
                    IntKind.i64.wrap
                      (n.tmod (IntKind.i64.wrap (IntKind.i64.wrap ((↑d.log.length : Int) - d.synced) + (1 : Int))) +
                        IntKind.i64.wrap (IntKind.i64.wrap ((↑d.log.length : Int) - d.synced) + (1 : Int)))) ≤
                (↑d.log.length : Int)) &&
          true &&
        true)
      (d.kept n =
          IntKind.i64.wrap
            (n.tmod (IntKind.i64.wrap (IntKind.i64.wrap ((↑d.log.length : Int) - d.synced) + (1 : Int))) +
              IntKind.i64.wrap (IntKind.i64.wrap ((↑d.log.length : Int) - d.synced) + (1 : Int))) ∧
        (((d.crash n).room = d.room ∧
              bs (d.crash n).log =
                  bs
                    (List.drop (0 : Nat)
                      (List.take
                        (IntKind.i64.wrap
                            (d.synced +
                              IntKind.i64.wrap
                                (n.tmod
                                    (IntKind.i64.wrap
                                      (IntKind.i64.wrap ((↑d.log.length : Int) - d.synced) + (1 : Int))) +
                                  IntKind.i64.wrap
                                    (IntKind.i64.wrap ((↑d.log.length : Int) - d.synced) + (1 : Int))))).toNat
                        d.log)) ∧
                (d.crash n).synced =
                    (↑(List.drop (0 : Nat)
                            (List.take
                              (IntKind.i64.wrap
                                  (d.synced +
                                    IntKind.i64.wrap
                                      (n.tmod
                                          (IntKind.i64.wrap
                                            (IntKind.i64.wrap ((↑d.log.length : Int) - d.synced) + (1 : Int))) +
                                        IntKind.i64.wrap
                                          (IntKind.i64.wrap ((↑d.log.length : Int) - d.synced) + (1 : Int))))).toNat
                              d.log)).length :
                      Int) ∧
                  bs (d.crash n).snap = bs d.snap ∧
                    (d.crash n).left = (0 : Int) ∧
                      (d.crash n).even = d.even ∧ false = false ∧ (d.crash n).done = d.done ∧ True) ∧
            True) ∧
          True)
      False)
    (branch
      (decide
              ((0 : Int) ≤
                IntKind.i64.wrap
                  (d.synced +
                    n.tmod (IntKind.i64.wrap (IntKind.i64.wrap ((↑d.log.length : Int) - d.synced) + (1 : Int))))) &&
            decide
              (IntKind.i64.wrap
                  (d.synced +
                    n.tmod (IntKind.i64.wrap (IntKind.i64.wrap ((↑d.log.length : Int) - d.synced) + (1 : Int)))) ≤
                (↑d.log.length : Int)) &&
          true &&
        true)
      (d.kept n = n.tmod (IntKind.i64.wrap (IntKind.i64.wrap ((↑d.log.length : Int) - d.synced) + (1 : Int))) ∧
        (((d.crash n).room = d.room ∧
              bs (d.crash n).log =
                  bs
                    (List.drop (0 : Nat)
                      (List.take
                        (IntKind.i64.wrap
                            (d.synced +
                              n.tmod
                                (IntKind.i64.wrap
                                  (IntKind.i64.wrap ((↑d.log.length : Int) - d.synced) + (1 : Int))))).toNat
                        d.log)) ∧
                (d.crash n).synced =
                    (↑(List.drop (0 : Nat)
                            (List.take
                              (IntKind.i64.wrap
                                  (d.synced +
                                    n.tmod
                                      (IntKind.i64.wrap
                                        (IntKind.i64.wrap ((↑d.log.length : Int) - d.synced) + (1 : Int))))).toNat
                              d.log)).length :
                      Int) ∧
                  bs (d.crash n).snap = bs d.snap ∧
                    (d.crash n).left = (0 : Int) ∧
                      (d.crash n).even = d.even ∧ false = false ∧ (d.crash n).done = d.done ∧ True) ∧
            True) ∧
          True)
      False))
  False) := by kernel_rfl
theorem v37 (d : RSt) (b : List UInt8) : MeetsD h1r (37 : Nat) (R2 pR s37) (d, b) = (
  branch d.dead
  ((d.swap b).snd = (17 : Int) ∧
    (((d.swap b).fst.room = d.room ∧
          bs (d.swap b).fst.log = bs d.log ∧
            (d.swap b).fst.synced = d.synced ∧
              bs (d.swap b).fst.snap = bs d.snap ∧
                (d.swap b).fst.left = d.left ∧
                  (d.swap b).fst.even = d.even ∧ (d.swap b).fst.dead = d.dead ∧ (d.swap b).fst.done = d.done ∧ True) ∧
        True) ∧
      True)
  (branch (decide ((↑b.length : Int) > d.room))
    ((d.swap b).snd = (16 : Int) ∧
      (((d.swap b).fst.room = d.room ∧
            bs (d.swap b).fst.log = bs d.log ∧
              (d.swap b).fst.synced = d.synced ∧
                bs (d.swap b).fst.snap = bs d.snap ∧
                  (d.swap b).fst.left = d.left ∧
                    (d.swap b).fst.even = d.even ∧ (d.swap b).fst.dead = d.dead ∧ (d.swap b).fst.done = d.done ∧ True) ∧
          True) ∧
        True)
    (branch (!d.goes.snd)
      (branch (((0 : Nat) + b.length).ble (0 : Nat))
        (branch (((0 : Nat) + b.length).ble (0 : Nat))
          (branch d.goes.fst.dead
            (branch (((0 : Nat) + ((0 : Nat) + b.length)).ble (setRange [] (0 : Nat) b).length && true && true)
              ((d.swap b).snd = (17 : Int) ∧
                (((d.swap b).fst.room = d.goes.fst.room ∧
                      (d.swap b).fst.log = [] ∧
                        (d.swap b).fst.synced = (0 : Int) ∧
                          bs (d.swap b).fst.snap =
                              bs
                                (List.drop (0 : Nat)
                                  (List.take ((0 : Nat) + ((0 : Nat) + b.length)) (setRange [] (0 : Nat) b))) ∧
                            (d.swap b).fst.left = d.goes.fst.left ∧
                              (d.swap b).fst.even = d.goes.fst.even ∧
                                (d.swap b).fst.dead = d.goes.fst.dead ∧ (d.swap b).fst.done = d.goes.fst.done ∧ True) ∧
                    True) ∧
                  True)
              False)
            (branch (((0 : Nat) + ((0 : Nat) + b.length)).ble (setRange [] (0 : Nat) b).length && true && true)
              ((d.swap b).snd = (0 : Int) ∧
                (((d.swap b).fst.room = d.goes.fst.room ∧
                      (d.swap b).fst.log = [] ∧
                        (d.swap b).fst.synced = (0 : Int) ∧
                          bs (d.swap b).fst.snap =
                              bs
                                (List.drop (0 : Nat)
                                  (List.take ((0 : Nat) + ((0 : Nat) + b.length)) (setRange [] (0 : Nat) b))) ∧
                            (d.swap b).fst.left = d.goes.fst.left ∧
                              (d.swap b).fst.even = d.goes.fst.even ∧
                                (d.swap b).fst.dead = d.goes.fst.dead ∧
                                  (d.swap b).fst.done = IntKind.i64.wrap (d.goes.fst.done + (1 : Int)) ∧ True) ∧
                    True) ∧
                  True)
              False))
          False)
        (branch
          ((((0 : Nat) + b.length) * (1 : Nat)).ble (140737488355328 : Nat) &&
                  ((0 : Nat) + b.length).ble (9223372036854775807 : Nat) &&
                true &&
              true &&
            true)
          (branch d.goes.fst.dead
            (branch (((0 : Nat) + ((0 : Nat) + b.length)).ble ([] ++ b).length && true && true)
              ((d.swap b).snd = (17 : Int) ∧
                (((d.swap b).fst.room = d.goes.fst.room ∧
                      (d.swap b).fst.log = [] ∧
                        (d.swap b).fst.synced = (0 : Int) ∧
                          bs (d.swap b).fst.snap =
                              bs (List.drop (0 : Nat) (List.take ((0 : Nat) + ((0 : Nat) + b.length)) ([] ++ b))) ∧
                            (d.swap b).fst.left = d.goes.fst.left ∧
                              (d.swap b).fst.even = d.goes.fst.even ∧
                                (d.swap b).fst.dead = d.goes.fst.dead ∧ (d.swap b).fst.done = d.goes.fst.done ∧ True) ∧
                    True) ∧
                  True)
              False)
            (branch (((0 : Nat) + ((0 : Nat) + b.length)).ble ([] ++ b).length && true && true)
              ((d.swap b).snd = (0 : Int) ∧
                (((d.swap b).fst.room = d.goes.fst.room ∧
                      (d.swap b).fst.log = [] ∧
                        (d.swap b).fst.synced = (0 : Int) ∧
                          bs (d.swap b).fst.snap =
                              bs (List.drop (0 : Nat) (List.take ((0 : Nat) + ((0 : Nat) + b.length)) ([] ++ b))) ∧
                            (d.swap b).fst.left = d.goes.fst.left ∧
                              (d.swap b).fst.even = d.goes.fst.even ∧
                                (d.swap b).fst.dead = d.goes.fst.dead ∧
                                  (d.swap b).fst.done = IntKind.i64.wrap (d.goes.fst.done + (1 : Int)) ∧ True) ∧
                    True) ∧
                  True)
              False))
          False))
      (branch d.goes.fst.even
        (branch (((0 : Nat) + b.length).ble (0 : Nat))
          (branch (((0 : Nat) + b.length).ble (0 : Nat))
            (branch d.goes.fst.dead
              (branch (((0 : Nat) + ((0 : Nat) + b.length)).ble (setRange [] (0 : Nat) b).length && true && true)
                ((d.swap b).snd = (17 : Int) ∧
                  (((d.swap b).fst.room = d.goes.fst.room ∧
                        (d.swap b).fst.log = [] ∧
                          (d.swap b).fst.synced = (0 : Int) ∧
                            bs (d.swap b).fst.snap =
                                bs
                                  (List.drop (0 : Nat)
                                    (List.take ((0 : Nat) + ((0 : Nat) + b.length)) (setRange [] (0 : Nat) b))) ∧
                              (d.swap b).fst.left = d.goes.fst.left ∧
                                (d.swap b).fst.even = d.goes.fst.even ∧
                                  (d.swap b).fst.dead = d.goes.fst.dead ∧
                                    (d.swap b).fst.done = d.goes.fst.done ∧ True) ∧
                      True) ∧
                    True)
                False)
              (branch (((0 : Nat) + ((0 : Nat) + b.length)).ble (setRange [] (0 : Nat) b).length && true && true)
                ((d.swap b).snd = (0 : Int) ∧
                  (((d.swap b).fst.room = d.goes.fst.room ∧
                        (d.swap b).fst.log = [] ∧
                          (d.swap b).fst.synced = (0 : Int) ∧
                            bs (d.swap b).fst.snap =
                                bs
                                  (List.drop (0 : Nat)
                                    (List.take ((0 : Nat) + ((0 : Nat) + b.length)) (setRange [] (0 : Nat) b))) ∧
                              (d.swap b).fst.left = d.goes.fst.left ∧
                                (d.swap b).fst.even = d.goes.fst.even ∧
                                  (d.swap b).fst.dead = d.goes.fst.dead ∧
                                    (d.swap b).fst.done = IntKind.i64.wrap (d.goes.fst.done + (1 : Int)) ∧ True) ∧
                      True) ∧
                    True)
                False))
            False)
          (branch
            ((((0 : Nat) + b.length) * (1 : Nat)).ble (140737488355328 : Nat) &&
                    ((0 : Nat) + b.length).ble (9223372036854775807 : Nat) &&
                  true &&
                true &&
              true)
            (branch d.goes.fst.dead
              (branch (((0 : Nat) + ((0 : Nat) + b.length)).ble ([] ++ b).length && true && true)
                ((d.swap b).snd = (17 : Int) ∧
                  (((d.swap b).fst.room = d.goes.fst.room ∧
                        (d.swap b).fst.log = [] ∧
                          (d.swap b).fst.synced = (0 : Int) ∧
                            bs (d.swap b).fst.snap =
                                bs (List.drop (0 : Nat) (List.take ((0 : Nat) + ((0 : Nat) + b.length)) ([] ++ b))) ∧
                              (d.swap b).fst.left = d.goes.fst.left ∧
                                (d.swap b).fst.even = d.goes.fst.even ∧
                                  (d.swap b).fst.dead = d.goes.fst.dead ∧
                                    (d.swap b).fst.done = d.goes.fst.done ∧ True) ∧
                      True) ∧
                    True)
                False)
              (branch (((0 : Nat) + ((0 : Nat) + b.length)).ble ([] ++ b).length && true && true)
                ((d.swap b).snd = (0 : Int) ∧
                  (((d.swap b).fst.room = d.goes.fst.room ∧
                        (d.swap b).fst.log = [] ∧
                          (d.swap b).fst.synced = (0 : Int) ∧
                            bs (d.swap b).fst.snap =
                                bs (List.drop (0 : Nat) (List.take ((0 : Nat) + ((0 : Nat) + b.length)) ([] ++ b))) ∧
                              (d.swap b).fst.left = d.goes.fst.left ∧
                                (d.swap b).fst.even = d.goes.fst.even ∧
                                  (d.swap b).fst.dead = d.goes.fst.dead ∧
                                    (d.swap b).fst.done = IntKind.i64.wrap (d.goes.fst.done + (1 : Int)) ∧ True) ∧
                      True) ∧
                    True)
                False))
            False))
        (branch d.goes.fst.dead
          ((d.swap b).snd = (17 : Int) ∧
            (((d.swap b).fst.room = d.goes.fst.room ∧
                  bs (d.swap b).fst.log = bs d.goes.fst.log ∧
                    (d.swap b).fst.synced = d.goes.fst.synced ∧
                      bs (d.swap b).fst.snap = bs d.goes.fst.snap ∧
                        (d.swap b).fst.left = d.goes.fst.left ∧
                          (d.swap b).fst.even = d.goes.fst.even ∧
                            (d.swap b).fst.dead = d.goes.fst.dead ∧ (d.swap b).fst.done = d.goes.fst.done ∧ True) ∧
                True) ∧
              True)
          ((d.swap b).snd = (0 : Int) ∧
            (((d.swap b).fst.room = d.goes.fst.room ∧
                  bs (d.swap b).fst.log = bs d.goes.fst.log ∧
                    (d.swap b).fst.synced = d.goes.fst.synced ∧
                      bs (d.swap b).fst.snap = bs d.goes.fst.snap ∧
                        (d.swap b).fst.left = d.goes.fst.left ∧
                          (d.swap b).fst.even = d.goes.fst.even ∧
                            (d.swap b).fst.dead = d.goes.fst.dead ∧
                              (d.swap b).fst.done = IntKind.i64.wrap (d.goes.fst.done + (1 : Int)) ∧ True) ∧
                True) ∧
              True)))))) := by kernel_rfl
end Go.Proofs.Ytaencddffbmdeaa
