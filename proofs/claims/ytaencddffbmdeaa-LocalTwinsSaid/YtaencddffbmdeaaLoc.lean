/- Contracts of the functions that the statements of local reach. No conditions. -/
import Derived.Test.YtaencddffbmdeaaRows
import Derived.Test.YtaencddffbmdeaaVsI
import Derived.Test.YtaencddffbmdeaaVsB
namespace Go.Proofs.Ytaencddffbmdeaa
open Go.Vs

/-- No slices here. -/
def reg0 : Reg := ⟨fun _ => Empty, fun _ => 0, fun _ _ => [], fun _ _ => none, fun _ _ _ h => by simp at h, fun _ x => x.elim⟩

abbrev W := V reg0.T

structure Ask where
  prio : Int
  label : Int
  mem : Int
  cores : Int
  count : Int
  node : Int
  rack : Int
  missed : Int

structure Node where
  id : Int
  label : Int
  rack : Int
  mem : Int
  cores : Int
  seen : Int
  beat : Int
  up : Bool

def vi (n : Int) : W := .d (.int .i64 n)
def Ask.v (a : Ask) : W := .agg [.d (.int .i64 a.prio), .d (.int .i64 a.label), .d (.int .i64 a.mem), .d (.int .i64 a.cores), .d (.int .i64 a.count), .d (.int .i64 a.node), .d (.int .i64 a.rack), .d (.int .i64 a.missed)]
def Node.v (n : Node) : W := .agg [.d (.int .i64 n.id), .d (.int .i64 n.label), .d (.int .i64 n.rack), .d (.int .i64 n.mem), .d (.int .i64 n.cores), .d (.int .i64 n.seen), .d (.int .i64 n.beat), .d (.bool n.up)]
def asAsk : W → Option Ask
  | .agg [.d (.int .i64 a), .d (.int .i64 b), .d (.int .i64 c), .d (.int .i64 d), .d (.int .i64 e), .d (.int .i64 f), .d (.int .i64 g), .d (.int .i64 h)] => some ⟨a, b, c, d, e, f, g, h⟩
  | _ => none
def asNode : W → Option Node
  | .agg [.d (.int .i64 a), .d (.int .i64 b), .d (.int .i64 c), .d (.int .i64 d), .d (.int .i64 e), .d (.int .i64 f), .d (.int .i64 g), .d (.bool h)] => some ⟨a, b, c, d, e, f, g, h⟩
  | _ => none

/-! What they compute -/
def level (a : Ask) (n : Node) : Int :=
  if n.up = false ∨ n.label ≠ a.label then 4 else if a.rack = -1 ∨ a.node = n.id ∨ (a.node = -1 ∧ a.rack = n.rack) then 1 else if a.rack = n.rack then 2 else 3
def may (a : Ask) (n : Node) : Bool :=
  if level a n = 1 then true else if level a n = 2 then decide (a.missed ≥ 2) else if level a n = 3 then decide (a.missed ≥ 4) else false
def nearA (a : Ask) : Ask := { a with label := a.label % 2, node := a.node % 4 - 1, rack := a.rack % 4 - 1, missed := a.missed % 7 }
def nearN (n : Node) : Node := { n with label := n.label % 2, id := n.id % 3, rack := n.rack % 3 }

/-! Contracts -/
def withinC : PureC reg0.T
  | [.d (.int .i64 a), .d (.int .i64 n)] => some (0 < n ∧ n ≤ 1000000, .d (.int .i64 (a % n)))
  | _ => none
def levelC : PureC reg0.T
  | [x, y] => (match asAsk x, asNode y with | some a, some n => some (True, .d (.int .i64 (level a n))) | _, _ => none)
  | _ => none
def mayC : PureC reg0.T
  | [x, y] => (match asAsk x, asNode y with | some a, some n => some (True, .d (.bool (may a n))) | _, _ => none)
  | _ => none
def nearC : PureC reg0.T
  | [x, y] => (match asAsk x, asNode y with | some a, some n => some (True, .tup [(nearA a).v, (nearN n).v]) | _, _ => none)
  | _ => none
def knownC : PureC reg0.T
  | [] => some (True, .d (.bool true))
  | _ => none

/-! The loop of LocalWaits: at its head, behind i rounds -/
def Ask.cells (a : Ask) : List W := [.d (.int .i64 a.prio), .d (.int .i64 a.label), .d (.int .i64 a.mem), .d (.int .i64 a.cores), .d (.int .i64 a.count), .d (.int .i64 a.node), .d (.int .i64 a.rack), .d (.int .i64 a.missed)]
def askM (a : Ask) (i : Nat) : Ask := { nearA a with missed := (nearA a).missed + i }
def inv4 (a : Ask) (n : Node) : Inv reg0.T := fun k _ => match Nat.beq k 6 with
  | true => some ⟨{ i : Nat // i ≤ 6 }, fun x => ([(5, .d (.bool (may (askM a x.1) (nearN n)))), (6, .d (.int .i64 x.1))], [(66, .box 0 (askM a x.1).cells)]), fun x => 6 - x.1, ⟨0, by decide⟩, 2 ^ 66⟩
  | false => none

def cs (l : List (Nat × PureC reg0.T)) : FuncId → Option (PureC reg0.T) := lookL l
def lsL : List (Nat × PureC reg0.T) := [(14, levelC), (15, levelC), (16, mayC), (17, mayC), (13, knownC), (18, nearC), (19, withinC)]
end Go.Proofs.Ytaencddffbmdeaa
