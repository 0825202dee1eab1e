/- The value semantics: abstract values, objects and states, and the evaluator in the form of a verification condition. No conditions. -/
import Derived.WalkKit
namespace Go.Vs
open Go

/-- Pure data: no reference to anything that may still be written. A slice is by value: its rows, of element type number 'e'. -/
inductive D (T : Nat → Type) : Type
  | bool (b : Bool)
  | int (k : IntKind) (n : Int)
  | str (s : List UInt8)
  | nilp
  | nilm
  | nilf
  | nili
  | nils
  | sl (e : Nat) (xs : List (T e))

inductive Cap where
  | exact (c : Nat)
  | least (c : Nat)

/-- What a temporary, or a cell of an object, holds. -/
inductive V (T : Nat → Type) : Type
  | d (x : D T)
  | ptr (i g o : Nat)
  | elp (i g e r o : Nat)
  | fp (row : List (D T)) (o : Nat)
  | sl (i g e off len : Nat) (cap : Cap)
  | fn (f : FuncId) (caps : List (V T))
  | agg (vs : List (V T))
  | tup (vs : List (V T))
  | ifc (t : TypeId) (v : V T)
  | undef
  | any

/-- An object that is written: a box, or the rows behind a slice; 'g': how often its name was given. -/
inductive O (T : Nat → Type) : Type
  | box (g : Nat) (vs : List (V T))
  | rows (g e : Nat) (xs : List (T e))
  | dead (g : Nat)

def O.gen {T : Nat → Type} : O T → Nat
  | .box g _ => g
  | .rows g _ _ => g
  | .dead g => g

def nextGen {T : Nat → Type} : Option (O T) → Nat
  | some o => o.gen + 1
  | none => 0

/-- The registry of element types: the type of a row, its cells, and back. -/
structure Reg where
  T : Nat → Type
  k : Nat → Nat
  enc : (e : Nat) → T e → List (D T)
  dec : (e : Nat) → List (D T) → Option (T e)
  law : ∀ e l x, dec e l = some x → enc e x = l
  len : ∀ e x, (enc e x).length = k e

/-- 'wr': the names of the objects that were written (bits). -/
structure St (T : Nat → Type) where
  env : Nat → Option (V T)
  H : Nat → Option (O T)
  wr : Nat

section
variable {T : Nat → Type}

def setEnv (env : Nat → Option (V T)) (d : Nat) (v : V T) : Nat → Option (V T) := fun t => match Nat.beq t d with | true => some v | false => env t

def St.put (s : St T) (dst : Option Nat) (v : V T) : St T :=
  match dst with
  | some d => ⟨setEnv s.env d v, s.H, s.wr⟩
  | none => s

abbrev Upd (T : Nat → Type) := List (Nat × Option (O T))

def updH (H : Nat → Option (O T)) : Upd T → (Nat → Option (O T))
  | [] => H
  | (i, o) :: l => updH (fun j => match Nat.beq j i with | true => o | false => H j) l

def updBits : Upd T → Nat
  | [] => 0
  | (i, _) :: l => 2 ^ i ||| updBits l

def St.upd (s : St T) : Upd T → St T
  | [] => s
  | (i, o) :: l => ⟨s.env, updH s.H ((i, o) :: l), s.wr ||| updBits ((i, o) :: l)⟩

theorem upd_env (s : St T) (u : Upd T) : (s.upd u).env = s.env := by cases u <;> rfl
theorem upd_H (s : St T) (u : Upd T) : (s.upd u).H = updH s.H u := by cases u <;> rfl
theorem upd_wr (s : St T) (u : Upd T) : (s.upd u).wr = s.wr ||| updBits u := by cases u <;> simp [St.upd, updBits]

def branch (b : Bool) (x y : Prop) : Prop := match b with | true => x | false => y
theorem branch_iff (b : Bool) (x y : Prop) : branch b x y ↔ (b = true → x) ∧ (b = false → y) := by cases b <;> simp [branch]

/-- A test that is to hold, for the eyes of the kernel. -/
def must (b : Bool) (p : Prop) : Prop := match b with | true => p | false => False
theorem must_iff (b : Bool) (p : Prop) : must b p ↔ b = true ∧ p := by cases b <;> simp [must]

def V.ofValue : Value → V T
  | .bool b => .d (.bool b)
  | .int k n => .d (.int k n)
  | .string s => .d (.str s.data.toList)
  | .pointer none => .d .nilp
  | .map none => .d .nilm
  | .nilFunc => .d .nilf
  | .nilIface => .d .nili
  | .slice none 0 0 => .d .nils
  | _ => .any

def valOf (env : Nat → Option (V T)) : Operand → Option (V T)
  | .tmp t => env t
  | .const v => some (V.ofValue v)
  | .func f => some (.fn f [])
  | .global _ => none

def V.cells : V T → List (V T)
  | .agg vs => vs
  | v => [v]

/-- Surely one cell. -/
def V.solid : V T → Bool
  | .agg _ | .tup _ | .any | .undef => false
  | _ => true
def V.isAny : V T → Bool
  | .any => true
  | .undef => true
  | _ => false

def setRange (vs : List (V T)) (o : Nat) (cs : List (V T)) : List (V T) := vs.take o ++ (cs ++ vs.drop (o + cs.length))

def isAggT (P : Program) (t : TypeId) : Bool :=
  match P.underlying t with
  | some (.struct _) | some (.array _ _) => true
  | _ => false

/-- The type's row lies in the table. -/
def knownT (P : Program) (t : TypeId) : Bool := (P.underlying t).isSome && (P.info? t).isSome

/-- Cells as the value of a variable of type t. -/
def asVar (P : Program) (t : TypeId) (cs : List (V T)) : Option (V T) :=
  match knownT P t, isAggT P t, cs with
  | true, true, cs => (match Nat.beq cs.length (P.cellsOf t) with | true => some (.agg cs) | false => none)
  | true, false, [c] => some c
  | _, _, _ => none

def V.pure : V T → Bool
  | .d _ => true
  | .agg vs => goL vs
  | .tup vs => goL vs
  | _ => false
where goL : List (V T) → Bool
  | [] => true
  | v :: vs => (match V.pure v with | true => goL vs | false => false)

/-- A contract of a function that takes and answers pure data: under the condition, it answers this. -/
abbrev PureC (T : Nat → Type) := List (V T) → Option (Prop × V T)

def allSome {α : Type} : List (Option α) → Option (List α)
  | [] => some []
  | some v :: l => (match allSome l with | some vs => some (v :: vs) | none => none)
  | none :: _ => none

def sameKind (k k' : IntKind) : Bool := match k, k' with
  | .i8, .i8 | .i16, .i16 | .i32, .i32 | .i64, .i64 | .u8, .u8 | .u16, .u16 | .u32, .u32 | .u64, .u64 => true
  | _, _ => false

def intBin (op : BinOp) (k : IntKind) (a b : Int) (K : V T → Prop) : Prop :=
  match op with
  | .add => K (.d (.int k (k.wrap (a + b))))
  | .sub => K (.d (.int k (k.wrap (a - b))))
  | .mul => K (.d (.int k (k.wrap (a * b))))
  | .quo => b ≠ 0 ∧ K (.d (.int k (k.wrap (a.tdiv b))))
  | .rem => b ≠ 0 ∧ K (.d (.int k (a.tmod b)))
  | .eql => K (.d (.bool (a == b)))
  | .neq => K (.d (.bool (a != b)))
  | .lss => K (.d (.bool (decide (a < b))))
  | .leq => K (.d (.bool (decide (a ≤ b))))
  | .gtr => K (.d (.bool (decide (a > b))))
  | .geq => K (.d (.bool (decide (a ≥ b))))
  | _ => False

def boolT (P : Program) (t : TypeId) : Bool := match P.underlying t with | some .bool => true | _ => false

def vBin (P : Program) (op : BinOp) (t : TypeId) (x y : V T) (K : V T → Prop) : Prop :=
  match x, y with
  | .d (.int k a), .d (.int k' b) => (match sameKind k k' with | true => intBin op k a b K | false => False)
  | .d (.bool a), .d (.bool b) => (match boolT P t, op with | true, .eql => K (.d (.bool (a == b))) | true, .neq => K (.d (.bool (!(a == b)))) | _, _ => False)
  | _, _ => False

def okK (x : Option (V T)) (K : V T → Prop) : Prop := match x with | some v => K v | none => False

def loadK (P : Program) (t : TypeId) (x : Option (V T)) (H : Nat → Option (O T)) (K : V T → Prop) : Prop :=
  match x with
  | some (.ptr i g o) => (match H i with
    | some (.box g' vs) => must (Nat.beq g g') <| okK (asVar P t ((vs.drop o).take (P.cellsOf t))) K
    | _ => False)
  | some (.fp row o) => okK (asVar P t (((row.drop o).take (P.cellsOf t)).map V.d)) K
  | _ => False

/-- Does a value that stands for a zero fit the machine's? -/
def zeroFits : V T → Value → Bool
  | .d (.bool b), .bool b' => !b && !b'
  | .d (.int k 0), .int k' 0 => sameKind k k'
  | .d (.str []), .string s => s.data.toList.isEmpty
  | .d .nilp, .pointer none => true
  | .d .nilm, .map none => true
  | .d .nilf, .nilFunc => true
  | .d .nili, .nilIface => true
  | .d (.sl _ []), .slice none 0 0 => true
  | _, _ => false

/-- The zero cells of a type, with the slices' element types. -/
def zeroOf (P : Program) : Nat → TypeId → List (V T)
  | 0, _ => []
  | n + 1, t => (match P.underlying t with
    | some .bool => [.d (.bool false)]
    | some (.int k) => [.d (.int k 0)]
    | some .string => [.d (.str [])]
    | some (.pointer _) => [.d .nilp]
    | some (.slice e) => [.d (.sl e [])]
    | some (.map _ _) => [.d .nilm]
    | some (.func _ _ _) => [.d .nilf]
    | some (.interface _) => [.d .nili]
    | some (.struct fs) => fs.toList.flatMap fun f => zeroOf P n f.type
    | some (.array m e) => (List.replicate m (zeroOf P n e)).flatten
    | _ => [])

def fitsL : List (V T) → List Value → Bool
  | [], [] => true
  | v :: vs, c :: cs => (match zeroFits v c with | true => fitsL vs cs | false => false)
  | _, _ => false

/-- The zero cells of a type, held against the program's table. -/
def zeroT (P : Program) (t : TypeId) : Option (List (V T)) :=
  match P.info? t with
  | some i => (match i.zero with
    | some z => (match fitsL (zeroOf (T := T) P 8 t) z.cells.toList with | true => some (zeroOf P 8 t) | false => none)
    | none => none)
  | none => none

/-- Parts laid over the zero cells of a struct. -/
def fillV (P : Program) (fs : Array Field) : List (Nat × Option (V T)) → List (V T) → Option (List (V T))
  | [], vs => some vs
  | (f, some v) :: r, vs => (match fs[f]? with
    | some fl => (match v.isAny, Nat.beq v.cells.length (P.cellsOf fl.type), Nat.ble (fl.offset + v.cells.length) vs.length with
      | false, true, true => fillV P fs r (setRange vs fl.offset v.cells)
      | _, _, _ => none)
    | none => none)
  | _, _ => none

def buildV (P : Program) (t : TypeId) (parts : List (Nat × Option (V T))) : Option (V T) :=
  match P.underlying t with
  | some (.struct fs) => (match fs.toList.all (fun f => (P.info? f.type).isSome), zeroT P t with
    | true, some z => (match fillV P fs parts z with | some vs => some (.agg vs) | none => none)
    | _, _ => none)
  | _ => none

/-- The name of the object that an operation lays, whose result goes to slot d. -/
def keyOf (dst : Option Nat) : Nat := match dst with | some d => d + 64 | none => 63

/-- The function that is called, if it is named. -/
def staticF : Callee → Option FuncId
  | .value o => (match o with | .func f => some f | _ => none)
  | _ => none

/-- A call by contract. -/
def callV (C : FuncId → Option (PureC T)) (f : Option FuncId) (vs : Option (List (V T))) (K : V T → Prop) : Prop :=
  match f with
  | some f => (match C f with
    | some S => (match vs with
      | some vs => (match V.pure.goL vs with
        | true => (match S vs with | some (p, v) => p ∧ (match v.pure with | true => K v | false => False) | none => False)
        | false => False)
      | none => False)
    | none => False)
  | none => False

/-- One operation. 'key': the name for an object that it lays. -/
def lexec (P : Program) (C : FuncId → Option (PureC T)) (op : Op) (val : Operand → Option (V T)) (H : Nat → Option (O T)) (key : Nat) (K : V T → Upd T → Prop) : Prop :=
  match op with
  | .move x => okK (val x) (K · [])
  | .assign x => okK (val x) (K · [])
  | .pick c a b => (match val c with
    | some (.d (.bool t)) => branch t (okK (val a) (K · [])) (okK (val b) (K · []))
    | _ => False)
  | .box _ x => (match val x with | some v => (match v.isAny with | true => False | false => K (.ptr key (nextGen (H key)) 0) [(key, some (.box (nextGen (H key)) v.cells))]) | _ => False)
  | .alloc t => (match zeroT P t with | some vs => K (.ptr key (nextGen (H key)) 0) [(key, some (.box (nextGen (H key)) vs))] | none => False)
  | .fieldAddr s x f => (match P.underlying s with
    | some (.struct fs) => (match fs[f]? with
      | some fl => (match P.cellsOf fl.type with
        | 0 => False
        | _ => (match val x with
          | some (.ptr i g o) => K (.ptr i g (o + fl.offset)) []
          | some (.fp row o) => K (.fp row (o + fl.offset)) []
          | _ => False))
      | none => False)
    | _ => False)
  | .load t x => loadK P t (val x) H (K · [])
  | .store t x y => (match val x, val y with
    | some (.ptr i g o), some v => (match H i with
      | some (.box g' vs) => (match knownT P t, Nat.beq v.cells.length (P.cellsOf t), Nat.ble (o + v.cells.length) vs.length, v.cells.all V.solid with
        | true, true, true, true => must (Nat.beq g g') <| K .any [(i, some (.box g' (setRange vs o v.cells)))]
        | _, _, _, _ => False)
      | _ => False)
    | _, _ => False)
  | .nilCheck x => (match val x with
    | some (.ptr i g o) => K (.ptr i g o) []
    | some (.fp row o) => K (.fp row o) []
    | _ => False)
  | .binOp op t x y _ => (match val x, val y with | some a, some b => vBin P op t a b (K · []) | _, _ => False)
  | .unOp .not _ x => (match val x with | some (.d (.bool b)) => K (.d (.bool (!b))) [] | _ => False)
  | .build t parts => okK (buildV P t (parts.toList.map fun p => (p.1, val p.2))) (K · [])
  | .extract x n => (match val x with | some (.tup vs) => okK vs[n]? (K · []) | _ => False)
  | .call c => callV C (staticF c.callee) (allSome (c.args.toList.map val)) (K · [])
  | _ => False

/-- What an operation reads of the objects, and what it writes (names). -/
def reads (op : Op) (val : Operand → Option (V T)) : List Nat :=
  match op with
  | .load _ x => (match val x with | some (.ptr i _ _) => [i] | _ => [])
  | .store _ x _ => (match val x with | some (.ptr i _ _) => [i] | _ => [])
  | _ => []
def writes (op : Op) (val : Operand → Option (V T)) (key : Nat) : List Nat :=
  match op with
  | .box _ _ => [key]
  | .alloc _ => [key]
  | .store _ x _ => (match val x with | some (.ptr i _ _) => [i] | _ => [])
  | _ => []

def wantedV (ops : Array Oper) (o : Oper) (env : Nat → Option (V T)) : Option Bool :=
  match o.guard with
  | none => some true
  | some (j, want) => (match (ops[j]?).bind (·.dst) with
    | none => none
    | some d => (match env d with | some (.d (.bool b)) => some (b == want) | some .undef => some false | _ => none))

structure Foot where
  at_ : Nat
  rd : List Nat
  wr : List Nat

/-- The operations of a region, one behind the other; what each read and wrote is kept in 'tr'. -/
def dstOk (nt : Nat) : Option Nat → Bool
  | some d => Nat.blt d nt
  | none => true

def awpOps (P : Program) (C : FuncId → Option (PureC T)) (nt : Nat) (ops : Array Oper) : List Oper → Nat → St T → List Foot → (St T → List Foot → Prop) → Prop
  | [], _, st, tr, Q => Q st tr
  | o :: rest, n, st, tr, Q =>
    match dstOk nt o.dst with
    | false => False
    | true =>
    let run (st : St T) : Prop := lexec P C o.op (valOf st.env) st.H (keyOf o.dst) fun v u =>
      awpOps P C nt ops rest (n + 1) ((st.put o.dst v).upd u) (⟨n, reads o.op (valOf st.env), writes o.op (valOf st.env) (keyOf o.dst)⟩ :: tr) Q
    let skip (st : St T) : Prop := awpOps P C nt ops rest (n + 1) (st.put o.dst .undef) (⟨n, [], []⟩ :: tr) Q
    match o.guard with
    | none => run st
    | some (j, want) =>
      match (ops[j]?).bind (·.dst) with
      | none => False
      | some d =>
        match st.env d with
        | some (.d (.bool b)) =>
          branch b (match want with | true => run (st.put (some d) (.d (.bool true))) | false => skip (st.put (some d) (.d (.bool true))))
                   (match want with | true => skip (st.put (some d) (.d (.bool false))) | false => run (st.put (some d) (.d (.bool false))))
        | some .undef => skip st
        | _ => False

def meets (a b : List Nat) : Bool := a.any fun i => b.any fun j => Nat.beq i j

/-- Do two operations come in one another's way? -/
def Foot.apart (a b : Foot) : Bool := !meets a.wr b.rd && !meets a.wr b.wr && !meets b.wr a.rd

/-- Which operations stand surely ahead of each. -/
def masks : List Oper → List Nat → List Nat
  | [], acc => acc
  | o :: r, acc => masks r (acc ++ [o.after.toList.foldl (fun s e => match Region.binds .any e with | true => s ||| 2 ^ e.on ||| acc.getD e.on 0 | false => s) 0])

/-- The edges lead back. -/
def back : List Oper → Nat → Bool
  | [], _ => true
  | o :: r, n => (o.after.toList.all fun e => !Region.binds .any e || Nat.blt e.on n) && back r (n + 1)

/-- In a region that draws its order: operations that it may take in either order are apart. -/
def okTrace (ops : Array Oper) (tr : List Foot) : Bool :=
  let ms := masks ops.toList []
  back ops.toList 0 && tr.all fun b => tr.all fun a => !Nat.blt a.at_ b.at_ || (ms.getD b.at_ 0).testBit a.at_ ||
    (match ops[a.at_]?, ops[b.at_]? with
      | some oa, some ob => oa.apart ops ob && a.apart b
      | _, _ => false)

inductive AExit where
  | normal | exit (id : Nat) | ret

def AExit.then (K : St T → Prop) (Q : AExit → St T → Prop) : AExit → St T → Prop
  | .normal, st => K st
  | e, st => Q e st
def AExit.inBlock (id : Nat) (Q : AExit → St T → Prop) : AExit → St T → Prop
  | .exit j, st => (match Nat.beq j id with | true => Q .normal st | false => Q (.exit j) st)
  | e, st => Q e st

/-! ### Loops -/
def lookL {α : Type} : List (Nat × α) → Nat → Option α
  | [], _ => none
  | (k, v) :: l, t => (match Nat.beq t k with | true => some v | false => lookL l t)

/-- A state, written out. -/
abbrev StL (T : Nat → Type) := List (Nat × V T) × List (Nat × O T)

def coverE (env : Nat → Option (V T)) : List (Nat × V T) → Prop
  | [] => True
  | (t, v) :: l => env t = some v ∧ coverE env l
def coverO (H : Nat → Option (O T)) : List (Nat × O T) → Prop
  | [] => True
  | (t, v) :: l => H t = some v ∧ coverO H l

/-- A state holds what is written out (and, it may be, more). -/
def covers (st : St T) (L : StL T) : Prop := coverE st.env L.1 ∧ coverO st.H L.2

/-- The slots that code writes, as a set of bits. -/
def dstBit (o : Oper) : Nat := match o.dst with | some d => 2 ^ d | none => 0
def wbits : Code → Nat
  | .region _ ops _ => ops.toList.foldl (fun s o => s ||| dstBit o) 0
  | .seq a b => wbits a ||| wbits b
  | .cond _ a b => wbits a ||| wbits b
  | .block _ c => wbits c
  | .loop c => wbits c
  | _ => 0

/-- The bits of names. -/
def nameBits {α : Type} : List (Nat × α) → Nat
  | [] => 0
  | (i, _) :: l => 2 ^ i ||| nameBits l

/-- The state at a loop's head: of the slots that the loop writes, and the objects that it lays, what is written out, and nothing else; all other things as they were. -/
def headSt (st : St T) (c : Code) (L : StL T) (γ : Nat) : St T :=
  ⟨fun t => (match (wbits c).testBit t with | true => lookL L.1 t | false => st.env t),
   fun i => (match lookL L.2 i with | some o => some o | none => (match Nat.blt i 64, (wbits c).testBit (i - 64) with | false, true => some (.dead γ) | _, _ => st.H i)), 0⟩

/-- The names that a loop may write: those written out, and those that it lays. -/
def loopBits (c : Code) (nb : Nat) : Nat := nb ||| wbits c <<< 64

/-- Behind a loop: what it has written, too. -/
def St.wrote (st : St T) (w : Nat) : St T := ⟨st.env, st.H, st.wr ||| w⟩

/-- What a round must come to: the head's state again, nearer the end; or an end. -/
def roundK {α : Type} (c : Code) (I : α → StL T) (μ : α → Nat) (nb : Nat) (st : St T) (Q : AExit → St T → Prop) (x : α) : AExit → St T → Prop
  | .normal, st' => must (Nat.beq (st'.wr ||| loopBits c nb) (loopBits c nb)) <| ∃ x', covers st' (I x') ∧ μ x' < μ x
  | e, st' => Q e (st'.wrote (st.wr ||| loopBits c nb))

def awp (P : Program) (C : FuncId → Option (PureC T)) (nt : Nat) : Code → (AExit → St T → Prop) → St T → Prop
  | .skip, Q, st => Q .normal st
  | .region _ ops draw, Q, st => awpOps P C nt ops ops.toList 0 st [] fun st tr =>
      (match draw with
      | false => Q .normal st
      | true => (match okTrace ops tr with | true => Q .normal st | false => False))
  | .seq a b, Q, st => awp P C nt a (AExit.then (awp P C nt b Q) Q) st
  | .cond c a b, Q, st => (match c with
    | .tmp t => (match st.env t with
      | some (.d (.bool v)) => branch v (awp P C nt a Q (st.put (some t) (.d (.bool true)))) (awp P C nt b Q (st.put (some t) (.d (.bool false))))
      | _ => False)
    | _ => False)
  | .block id c, Q, st => awp P C nt c (AExit.inBlock id Q) st
  | .exit id, Q, st => Q (.exit id) st
  | .ret, Q, st => Q .ret st
  | .loop c, Q, st => ∃ (α : Type) (I : α → StL T) (μ : α → Nat) (x0 : α) (nb : Nat), covers st (I x0) ∧ (∀ x, nameBits (I x).2 = nb) ∧
      ∀ x γ, awp P C nt c (roundK c I μ nb st Q x) (headSt st c (I x) γ)
  | _, _, _ => False

def initEnv (args : List (V T)) : Nat → Option (V T) := fun t => args[t]?

def resV (P : Program) (st : St T) : ResultVar → Option (V T)
  | .tmp t => st.env t
  | .cell t ty => (match st.env t with
    | some (.ptr i g o) => (match st.H i with | some (.box g' vs) => (match Nat.beq g g' with | true => asVar P ty ((vs.drop o).take (P.cellsOf ty)) | false => none) | _ => none)
    | _ => none)

def retV (P : Program) (fn : Func) (st : St T) : Option (V T) :=
  match fn.results.toList with
  | [r] => resV P st r
  | rs => (match allSome (rs.map (resV P st)) with | some vs => some (.tup vs) | none => none)

def retK (P : Program) (fn : Func) (Q : V T → Prop) (st : St T) : Prop :=
  match retV P fn st with
  | some v => (match v.pure with | true => Q v | false => False)
  | none => False

def finK (P : Program) (fn : Func) (Q : V T → Prop) : AExit → St T → Prop
  | .normal, st => retK P fn Q st
  | .ret, st => retK P fn Q st
  | _, _ => False

/-- A function that only takes and answers pure data. -/
def awpFun (P : Program) (C : FuncId → Option (PureC T)) (fn : Func) (args : List (V T)) (Q : V T → Prop) : Prop :=
  match fn.body with
  | none => False
  | some c => (match V.pure.goL args && Nat.ble args.length fn.ntmps with
    | false => False
    | true => awp P C fn.ntmps c (finK P fn Q) ⟨initEnv args, fun _ => none, 0⟩)
end
end Go.Vs
