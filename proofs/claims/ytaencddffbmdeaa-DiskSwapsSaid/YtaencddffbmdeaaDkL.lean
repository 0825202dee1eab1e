/- The loops of disk's statements: their states. No conditions. -/
import Derived.Test.YtaencddffbmdeaaDkX
namespace Go.Proofs.Ytaencddffbmdeaa
open Go Go.W Go.Proofs

/-- A disk that has power, and is to have it on. -/
structure DUp (room : Int) (d : DSt) : Prop where
  left : d.left = 0
  dead : d.dead = false
  rm : d.room = room
  s0 : 0 ≤ d.synced
  s1 : d.synced ≤ d.log.length
  sz : (d.log.length : Int) + d.snap.length ≤ room

structure R8 where
  i : Int
  d : DSt
def P8 (room : Int) (x : R8) : Prop := DUp room x.d ∧ 0 ≤ x.i ∧ x.i ≤ 30
def L8 (room : Int) (sizes : List Int) (_ : Option Int) (k : Nat) (_ : St regK.T) : Option (LoopI regK.T (Option Int)) := match Nat.beq k 7 with
  | true => some ⟨{ x : R8 // P8 room x }, fun x => ⟨[(0, vi room), (1, .d (.sl 3 sizes)), (5, .ptr 0 0 0), (7, vi x.1.d.log.length), (8, vi x.1.d.snap.length), (9, vi x.1.i)], [(0, x.1.d.o)], 1⟩, fun x => (30 - x.1.i).toNat, fun x => some x.1.i⟩
  | false => none
def allCells (i : Nat) : List Tgt := [.cell i 0 0, .cell i 0 1, .cell i 0 2, .cell i 0 3, .cell i 0 4, .cell i 0 5, .cell i 0 6, .cell i 0 7]
def A8 (k : Nat) : List Tgt := (lookN [(9, [.slot 10]), (15, [.slot 7]), (16, .slot 11 :: allCells 0), (20, .slot 11 :: allCells 0)] k).getD []

structure R9 where
  i : Int
  d : DSt
  last : List UInt8
def P9 (x : R9) : Prop := DUp 100000 x.d ∧ x.d.snap = x.last ∧ 0 ≤ x.i ∧ x.i ≤ 15
def L9 (snaps : List (List UInt8)) (picks : List Int) (_ : Option Int) (k : Nat) (_ : St regK.T) : Option (LoopI regK.T (Option Int)) := match Nat.beq k 6 with
  | true => some ⟨{ x : R9 // P9 x }, fun x => ⟨[(0, .d (.sl 43 snaps)), (1, .d (.sl 3 picks)), (5, .ptr 0 0 0), (7, .d (.str x.1.last)), (8, vi x.1.i)], [(0, x.1.d.o)], 1⟩, fun x => (15 - x.1.i).toNat, fun x => some x.1.i⟩
  | false => none

structure J9s where
  x : R9
  p : Int
def Q9 (snaps : List (List UInt8)) (g : Option Int) (y : J9s) : Prop := g = some y.x.i ∧ P9 y.x ∧ y.x.i < 15 ∧ y.x.i < snaps.length ∧ (snaps.getD y.x.i.toNat []).length ≤ 200
def J9 (snaps : List (List UInt8)) (picks : List Int) (g : Option Int) (k : Nat) : Option (LoopI regK.T (Option Int)) := match Nat.beq k 13 with
  | true => some ⟨{ y : J9s // Q9 snaps g y }, fun y => ⟨[(0, .d (.sl 43 snaps)), (1, .d (.sl 3 picks)), (5, .ptr 0 0 0), (7, .d (.str y.1.x.last)), (8, vi y.1.x.i), (9, vi y.1.p)], [(0, y.1.x.d.o)], 1⟩, fun _ => 0, fun y => some y.1.x.i⟩
  | false => none
def A9 (k : Nat) : List Tgt := (lookN [(13, allCells 0), (14, allCells 0), (15, .slot 10 :: allCells 0), (20, allCells 0), (21, allCells 0)] k).getD []

def P10 (a : List UInt8) (x : R8) : Prop := DUp 100000 x.d ∧ x.d.snap = [] ∧ x.d.log.take a.length = a ∧ (a.length : Int) ≤ x.d.synced ∧ (x.d.log.length : Int) ≤ 300 + 300 * x.i ∧ 0 ≤ x.i ∧ x.i ≤ 20
def L10 (a : List UInt8) (rows : List (List UInt8)) (picks : List Int) (snap : List UInt8) (stop : Int) (_ : Option Int) (k : Nat) (_ : St regK.T) : Option (LoopI regK.T (Option Int)) := match Nat.beq k 9 with
  | true => some ⟨{ x : R8 // P10 a x }, fun x => ⟨[(0, .d (.sl 5 a)), (1, .d (.sl 43 rows)), (2, .d (.sl 3 picks)), (3, .d (.sl 5 snap)), (4, vi stop), (11, .ptr 0 0 0), (13, vi x.1.i)], [(0, x.1.d.o)], 1⟩, fun x => (20 - x.1.i).toNat, fun x => some x.1.i⟩
  | false => none

structure R11 where
  i : Int
  d : DSt
  ops : Int
structure P11 (n : Int) (x : R11) : Prop where
  rm : x.d.room = 50
  s0 : 0 ≤ x.d.synced
  s1 : x.d.synced ≤ x.d.log.length
  sl : (x.d.log.length : Int) ≤ x.i
  sn : x.d.snap.length ≤ 2
  i0 : 0 ≤ x.i
  i1 : x.i ≤ 30
  o0 : 0 ≤ x.ops
  st : (x.d.dead = false ∧ x.d.left = n - x.ops ∧ x.ops < n ∧ x.d.done = x.ops) ∨ (x.d.dead = true ∧ x.d.left = 0 ∧ x.ops = n ∧ x.d.done = n - 1)
def L11 (n : Int) (kinds : List Int) (_ : Option Int) (k : Nat) (_ : St regK.T) : Option (LoopI regK.T (Option Int)) := match Nat.beq k 8 with
  | true => some ⟨{ x : R11 // P11 n x }, fun x => ⟨[(0, vi n), (1, .d (.sl 3 kinds)), (5, .ptr 0 0 0), (7, vi x.1.ops), (8, vi x.1.i)], [(0, x.1.d.o)], 1⟩, fun x => (30 - x.1.i).toNat, fun x => some x.1.i⟩
  | false => none

/-- Two disks that are alike. -/
structure Sim (d : DSt) (x : RSt) : Prop where
  rm : d.room = x.room
  r0 : 1 ≤ d.room
  r1 : d.room ≤ 16777216
  log : d.log = x.log
  synced : d.synced = x.synced
  snap : d.snap = x.snap
  dead : d.dead = x.dead
  done : d.done = x.done
  left : d.left = x.left
  l0 : 0 ≤ d.left
  l1 : d.left ≤ 9223372036854775807
  even : 0 < d.left → (d.odd == 0) = x.even
  s0 : 0 ≤ d.synced
  s1 : d.synced ≤ d.log.length
  sz : (d.log.length : Int) + d.snap.length ≤ d.room
structure R12 where
  i : Int
  d : DSt
  x : RSt
def P12 (x : R12) : Prop := Sim x.d x.x ∧ 0 ≤ x.i ∧ x.i ≤ 100
structure Q12 where
  i : Int
  d : DSt
  x : RSt
  ys : List UInt8
  n : Nat
  k : Int
def P12q (g : Option Int) (y : Q12) : Prop := g = some y.i ∧ Sim y.d y.x ∧ 0 ≤ y.i ∧ y.i < 100 ∧ y.n ≤ y.ys.length ∧ y.n ≤ 500 ∧ 0 ≤ y.k ∧ y.k ≤ y.n
def L12 (calls : List Cl) (g : Option Int) (k : Nat) (st : St regK.T) : Option (LoopI regK.T (Option Int)) := match Nat.beq k 8, Nat.beq k 31, st.env.get 5 with
  | true, _, some (.ptr _ _ _) => some ⟨{ x : R12 // P12 x }, fun x => ⟨[(1, .d (.sl 62 calls)), (5, .ptr 0 0 0), (7, .ptr 1 0 0), (9, vi x.1.i)], [(0, x.1.d.o), (1, x.1.x.o)], 2⟩, fun x => (100 - x.1.i).toNat, fun x => some x.1.i⟩
  | _, true, _ => some ⟨{ y : Q12 // P12q g y }, fun y => ⟨[(1, .d (.sl 62 calls)), (5, .ptr 0 0 0), (7, .ptr 1 0 0), (9, vi y.1.i), (11, .sl 2 0 y.1.n (.least 0)), (12, vi y.1.k)], [(0, y.1.d.o), (1, y.1.x.o), (2, .trows 5 y.1.ys)], 3⟩, fun y => (500 - y.1.k).toNat, fun y => some y.1.i⟩
  | _, _, _ => none
structure J12s where
  i : Int
  d : DSt
  x : RSt
  c : Cl
def P12c (calls : List Cl) (g : Option Int) (y : J12s) : Prop := g = some y.i ∧ Sim y.d y.x ∧ 0 ≤ y.i ∧ y.i < 100 ∧ y.i < calls.length ∧ y.c.b.length ≤ 500 ∧ y.c.n ≤ 9223372036854775807
def J12 (calls : List Cl) (g : Option Int) (k : Nat) : Option (LoopI regK.T (Option Int)) := match Nat.beq k 13, Nat.beq k 30 with
  | true, _ => some ⟨{ y : J12s // P12c calls g y }, fun y => ⟨[(1, .d (.sl 62 calls)), (5, .ptr 0 0 0), (7, .ptr 1 0 0), (9, vi y.1.i), (10, .ptr 2 0 0), (11, .sl 3 0 y.1.c.b.length (.least 0))], [(0, y.1.d.o), (1, y.1.x.o), (2, .rows 3 [[vi y.1.c.kind, vi y.1.c.n, vs y.1.c.b]]), (3, .trows 5 y.1.c.b)], 4⟩, fun _ => 0, fun y => some y.1.i⟩
  | _, true => some ⟨{ y : Q12 // P12q g y }, fun y => ⟨[(1, .d (.sl 62 calls)), (5, .ptr 0 0 0), (7, .ptr 1 0 0), (9, vi y.1.i), (11, .sl 2 0 y.1.n (.least 0))], [(0, y.1.d.o), (1, y.1.x.o), (2, .trows 5 y.1.ys)], 3⟩, fun _ => 0, fun y => some y.1.i⟩
  | _, _ => none
end Go.Proofs.Ytaencddffbmdeaa
