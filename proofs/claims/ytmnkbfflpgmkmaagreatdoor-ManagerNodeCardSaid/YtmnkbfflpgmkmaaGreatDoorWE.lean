/- An evaluator of Go's code over abstract values and objects: operations, regions, code, functions. No conditions. -/
import Derived.Test.YtmnkbfflpgmkmaaGreatDoorW
namespace Go.W
open Go

section
variable (reg : Reg) (P : Program)

/-- How a call is carried out. -/
abbrev Hd (T : Nat → Type) := FuncId → List (V T) → Hp T → Out (V T × Hp T)

def oneO {T : Nat → Type} (x : Option (V T)) (h : Hp T) : Out (V T × Hp T) := match x with | some v => .ret (v, h) | none => .bad

/-- A new object, and a value that names it. -/
def newO {T : Nat → Type} (h : Hp T) (o : O T) (v : V T) : Out (V T × Hp T) := Out.ask (Tr.ok h.nx) (.ret (v, h.new o))

/-! ### Numbers, texts -/
def intBin {T : Nat → Type} (op : BinOp) (k : IntKind) (a b : Int) : Out (D T) :=
  match op with
  | .add => .ret (.int k (k.wrap (a + b)))
  | .sub => .ret (.int k (k.wrap (a - b)))
  | .mul => .ret (.int k (k.wrap (a * b)))
  | .quo => .need (!decide (b = 0)) (.ret (.int k (k.wrap (a.tdiv b))))
  | .rem => .need (!decide (b = 0)) (.ret (.int k (a.tmod b)))
  | .and => .ret (.int k (k.wrap ((BitVec.ofInt k.bits a &&& BitVec.ofInt k.bits b).toNat : Int)))
  | .or => .ret (.int k (k.wrap ((BitVec.ofInt k.bits a ||| BitVec.ofInt k.bits b).toNat : Int)))
  | .xor => .ret (.int k (k.wrap ((BitVec.ofInt k.bits a ^^^ BitVec.ofInt k.bits b).toNat : Int)))
  | .andNot => .ret (.int k (k.wrap ((BitVec.ofInt k.bits a &&& ~~~(BitVec.ofInt k.bits b)).toNat : Int)))
  | .eql => .ret (.bool (a == b))
  | .neq => .ret (.bool (a != b))
  | .lss => .ret (.bool (decide (a < b)))
  | .leq => .ret (.bool (decide (a ≤ b)))
  | .gtr => .ret (.bool (decide (a > b)))
  | .geq => .ret (.bool (decide (a ≥ b)))
  | _ => .bad

def shiftBin {T : Nat → Type} (op : BinOp) (k : IntKind) (a b : Int) : Out (D T) :=
  match op with
  | .shl => .need (decide (0 ≤ b)) (.ret (.int k (k.wrap (a * 2 ^ (min b.toNat k.bits)))))
  | .shr => .need (decide (0 ≤ b)) (.ret (.int k (a.fdiv (2 ^ (min b.toNat k.bits)))))
  | _ => .bad

def boolT (t : TypeId) : Bool := match P.underlying t with | some .bool => true | _ => false
def isStrT (t : TypeId) : Bool := match P.underlying t with | some .string => true | _ => false
def ifcT (t : TypeId) : Bool := match P.underlying t with | some (.interface _) => true | _ => false
def isPtrT (t : TypeId) : Bool := match P.underlying t with | some (.pointer _) => true | _ => false
def sliceT (t : TypeId) : Option TypeId := match P.underlying t with | some (.slice e) => some e | _ => none
def mapT (t : TypeId) : Option (TypeId × TypeId) := match P.underlying t with | some (.map k e) => some (k, e) | _ => none
def u8T (t : TypeId) : Bool := match P.underlying t with | some (.int .u8) => true | _ => false

def strBin {T : Nat → Type} (op : BinOp) (s t : List UInt8) : Out (D T) :=
  match op with
  | .add => .need (Nat.ble (s.length + t.length) 9223372036854775807) (.ret (.str (s ++ t)))
  | .eql => .ret (.bool (s == t))
  | .neq => .ret (.bool (!(s == t)))
  | .lss => .ret (.bool (Op.bytesLess s t))
  | .leq => .ret (.bool (Op.bytesLess s t || s == t))
  | .gtr => .ret (.bool (!(Op.bytesLess s t || s == t)))
  | .geq => .ret (.bool (!(Op.bytesLess s t)))
  | _ => .bad

def isShift : BinOp → Bool
  | .shl | .shr => true
  | _ => false

def isLit : Operand → Bool | .const _ => true | _ => false

def binD {T : Nat → Type} (lit : Bool) (op : BinOp) (t : TypeId) (x y : V T) : Out (D T) :=
  match x, y with
  | .d (.int k a), .d (.int k' b) => (match isShift op with
    | true => shiftBin op k a b
    | false => (match sameKind k k' with | true => intBin op k a b | false => .bad))
  | .d (.bool a), .d (.bool b) => (match boolT P t, op with | true, .eql => .ret (.bool (a == b)) | true, .neq => .ret (.bool (!(a == b))) | _, _ => .bad)
  | .d (.str a), .d (.str b) => strBin op a b
  | .d .nilp, .d .nilp => (match isPtrT P t, op with | true, .eql => .ret (.bool true) | true, .neq => .ret (.bool false) | _, _ => .bad)
  | .ptr _ _ _, .d .nilp => (match isPtrT P t, op with | true, .eql => .ret (.bool false) | true, .neq => .ret (.bool true) | _, _ => .bad)
  | .d .nilp, .ptr _ _ _ => (match isPtrT P t, op with | true, .eql => .ret (.bool false) | true, .neq => .ret (.bool true) | _, _ => .bad)
  | .d .nili, .d .nili => (match lit && ifcT P t, op with | true, .eql => .ret (.bool true) | true, .neq => .ret (.bool false) | _, _ => .bad)
  | _, _ => .bad

/-- The literal nil, of a slice's type. -/
def isNilS : Operand → Bool
  | .const (.slice none 0 0) => true
  | _ => false

def unD {T : Nat → Type} (op : UnOp) (x : V T) : Out (D T) :=
  match op, x with
  | .not, .d (.bool b) => .ret (.bool (!b))
  | .neg, .d (.int k n) => .ret (.int k (k.wrap (0 - n)))
  | .xor, .d (.int k n) => .ret (.int k (k.wrap ((BitVec.ofInt k.bits (if k.signed then -1 else k.max) ^^^ BitVec.ofInt k.bits n).toNat : Int)))
  | _, _ => .bad

def outD {T : Nat → Type} (o : Out (D T)) (h : Hp T) : Out (V T × Hp T) := o.bind fun x => .ret (.d x, h)

/-! ### Slices -/
variable {reg}
/-- A slice that is not nil. -/
def capPos : Cap → Nat → Bool
  | .exact _, _ => true
  | .least c, len => Nat.blt 0 len || Nat.blt 0 c
/-- A slice that has something, or was made, is not nil. -/
def nilD (op : BinOp) (t : TypeId) (v : V reg.T) : Out (D reg.T) :=
  match sliceT P t, v, op with
  | some _, .sl _ _ len cap, .eql => .need (capPos cap len) (.ret (.bool false))
  | some _, .sl _ _ len cap, .neq => .need (capPos cap len) (.ret (.bool true))
  | some _, .d (.sl _ xs), .eql => .need (Nat.blt 0 xs.length) (.ret (.bool false))
  | some _, .d (.sl _ xs), .neq => .need (Nat.blt 0 xs.length) (.ret (.bool true))
  | some _, .d .nils, .eql => .ret (.bool true)
  | some _, .d .nils, .neq => .ret (.bool false)
  | _, _, _ => .bad

/-- A slice's length, and its rows, of so many cells each. -/
def slv (k : Nat) (v : V reg.T) (h : Hp reg.T) : Option (Nat × Rw reg.T) :=
  match v with
  | .d x => (match x.len? reg, Nat.beq (x.k reg k) k with | some n, true => some (n, x.rw reg) | _, _ => none)
  | .sl i off len _ => (match h.get i with
    | some o => (match o.isRows reg && Nat.beq (o.k reg) k && Nat.ble (off + len) (o.len reg) with | true => some (len, o.rw reg off len) | false => none)
    | none => none)
  | _ => none

def strRows {T : Nat → Type} (s : List UInt8) : List (List (V T)) := s.map fun b => [.d (.int .u8 b.toNat)]
variable (reg) in
def strRw (e : TypeId) (s : List UInt8) : Rw reg.T := match reg.has e && reg.isB e with
  | true => .t e (reg.ofS e s)
  | false => .u (strRows s)

/-- The source of an append, or a copy. -/
def srcv (e : TypeId) (v : V reg.T) (h : Hp reg.T) : Option (Nat × Rw reg.T) :=
  match v with
  | .d (.str s) => (match Nat.beq (P.cellsOf e) 1 with | true => some (s.length, strRw reg e s) | false => none)
  | v => slv (P.cellsOf e) v h

/-- The same, with what is left to be shown. -/
def slvX (k : Nat) (v : V reg.T) (h : Hp reg.T) : Option (Bool × Nat × Rw reg.T) :=
  match v with
  | .d x => (match x.len? reg, Nat.beq (x.k reg k) k with | some n, true => some (true, n, x.rw reg) | _, _ => none)
  | .sl i off len _ => (match h.get i with
    | some o => (match o.isRows reg && Nat.beq (o.k reg) k with | true => some (Nat.ble (off + len) (o.len reg), len, o.rw reg off len) | false => none)
    | none => none)
  | _ => none
def srcX (e : TypeId) (v : V reg.T) (h : Hp reg.T) : Option (Bool × Nat × Rw reg.T) :=
  match v with
  | .d (.str s) => (match Nat.beq (P.cellsOf e) 1 with | true => some (true, s.length, strRw reg e s) | false => none)
  | v => slvX (P.cellsOf e) v h

theorem slvX_to {k : Nat} {v : V reg.T} {h : Hp reg.T} {p : Bool} {n : Nat} {ys : Rw reg.T} (hs : slvX k v h = some (p, n, ys)) (hp : p = true) : slv k v h = some (n, ys) := by
  unfold slvX at hs
  unfold slv
  split at hs
  · split at hs
    · rename_i n' h1 h2
      simp only [Option.some.injEq, Prod.mk.injEq] at hs
      simp [hs.2.1, hs.2.2]
    · cases hs
  · split at hs
    · rename_i o ho
      split at hs
      · rename_i h1
        simp only [Option.some.injEq, Prod.mk.injEq] at hs
        simp only [Bool.and_eq_true] at h1
        have h2 := hs.1.trans hp
        rw [← hs.2.1, ← hs.2.2]
        simp only [h1.1, h1.2, h2, Bool.and_self]
      · cases hs
    · cases hs
  · cases hs
theorem srcX_to {e : TypeId} {v : V reg.T} {h : Hp reg.T} {p : Bool} {n : Nat} {ys : Rw reg.T} (hs : srcX P e v h = some (p, n, ys)) (hp : p = true) : srcv P e v h = some (n, ys) := by
  unfold srcX at hs
  split at hs
  · split at hs
    · rename_i h1
      simp only [Option.some.injEq, Prod.mk.injEq] at hs
      simp [srcv, h1, hs.2.1, hs.2.2]
    · cases hs
  · rename_i hne
    unfold srcv
    split
    · rename_i s; exact (hne s rfl).elim
    · exact slvX_to hs hp

def bytesOf {T : Nat → Type} : List (List (V T)) → Option (List UInt8)
  | [] => some []
  | [.d (.int .u8 n)] :: l => (match bytesOf l with | some r => some (UInt8.ofNat n.toNat :: r) | none => none)
  | _ :: _ => none
def rwBytes : Rw reg.T → Option (List UInt8)
  | .u xs => bytesOf xs
  | .t e xs => (match reg.isB e with | true => some (reg.toS e xs) | false => none)

def bytesT (e : TypeId) : Nat := P.bytesOf e
def fitsMem (e : TypeId) (n : Nat) : Bool := Nat.ble (n * P.bytesOf e) 140737488355328 && Nat.ble n 9223372036854775807 && (P.info? e).isSome && Nat.blt 0 (P.cellsOf e)

/-- The element's zero has the cells of the element. -/
def zeroK {T : Nat → Type} (e : TypeId) : Bool := match (zeroT P e : Option (List (V T))) with
  | some z => Nat.beq z.length (P.cellsOf e)
  | none => false

/-- Append: in place, or a new object; what it was is gone if it is not known which. -/
def appendG (t : TypeId) (a b : V reg.T) (h : Hp reg.T) : Out (V reg.T × Hp reg.T) :=
  match sliceT P t with
  | none => .bad
  | some e =>
    match srcX P e b h with
    | none => .bad
    | some (p, n, ys) => .need p (
      match a with
      | .d .nils => (match mkRows reg P e (.u []) ys, zeroK (T := reg.T) P e with
        | some o, true => .br (Nat.beq n 0) (.ret (.d .nils, h)) (.need (fitsMem P e n) (newO h o (.sl h.nx 0 n (.least n))))
        | _, _ => .bad)
      | .sl i off len cap =>
        (match h.get i with
        | some o =>
          let grow (keep : Bool) : Out (V reg.T × Hp reg.T) := (match mkRows reg P e (o.rw reg off len) ys, zeroK (T := reg.T) P e with
            | some o', true => .need (fitsMem P e (len + n) && Nat.ble (off + len) (o.len reg)) (newO (match keep with | true => h | false => h.set i none) o' (.sl h.nx 0 (len + n) (.least (len + n))))
            | _, _ => .bad)
          let place : Out (V reg.T × Hp reg.T) := (match o.over reg (off + len) ys with
            | some o' => .need (Nat.ble (off + len + n) (o.len reg)) (.ret (.sl i off (len + n) cap, h.set i (some o')))
            | none => .bad)
          Out.ask (o.isRows reg && Nat.beq (o.k reg) (P.cellsOf e) && (P.info? e).isSome) (match cap with
            | .exact c => .br (Nat.ble (len + n) c) place (grow true)
            | .least c => .br (Nat.ble (len + n) c) place (.need (Nat.beq (off + len) (o.len reg)) (grow false)))
        | none => .bad)
      | _ => .bad)

def copyG (t : TypeId) (a b : V reg.T) (h : Hp reg.T) : Out (V reg.T × Hp reg.T) :=
  match sliceT P t with
  | none => .bad
  | some e =>
    match srcX P e b h with
    | none => .bad
    | some (p, n, ys) => .need p (
      match a with
      | .d .nils => Out.ask ((P.info? e).isSome) (.ret (.d (.int .i64 0), h))
      | .sl i off len _ =>
        (match h.get i with
        | some o => Out.ask (o.isRows reg && Nat.beq (o.k reg) (P.cellsOf e) && (P.info? e).isSome) (match o.over reg off (ys.take (Nat.min n len)) with
          | some o' => .need (Nat.ble (off + len) (o.len reg)) (.ret (.d (.int .i64 ((Nat.min n len : Nat) : Int)), h.set i (some o')))
          | none => .bad)
        | none => .bad)
      | _ => .bad)

variable (reg) in
/-- So many zero rows. -/
def zeroRows (e : TypeId) (n : Nat) : Option (O reg.T) :=
  match (zeroT P e : Option (List (V reg.T))) with
  | none => none
  | some z => (match reg.has e with
    | true => (match Nat.beq (reg.k e) (P.cellsOf e), dataOf z with | true, some l => (match reg.dec e l with | some x => some (.trows e (List.replicate n x)) | none => none) | _, _ => none)
    | false => some (.rows (P.cellsOf e) (List.replicate n z)))

def clearG (t : TypeId) (v : V reg.T) (h : Hp reg.T) : Out (V reg.T × Hp reg.T) :=
  match sliceT P t, v with
  | some _, .d .nils => .ret (.tup [], h)
  | some e, .sl i off len _ => (match h.get i, zeroRows reg P e len with
    | some o, some zo => (match o.over reg off (zo.rw reg 0 len) with
      | some o' => .need (Nat.ble (off + len) (o.len reg) && o.isRows reg && Nat.beq (o.k reg) (P.cellsOf e) && zeroK (T := reg.T) P e) (.ret (.tup [], h.set i (some o')))
      | none => .bad)
    | _, _ => .bad)
  | _, _ => .bad

def makeSliceG (t : TypeId) (l c : V reg.T) (h : Hp reg.T) : Out (V reg.T × Hp reg.T) :=
  match sliceT P t, l, c with
  | some e, .d (.int _ l), .d (.int _ c) => (match zeroRows reg P e c.toNat with
    | some o => .need (decide (0 ≤ l) && decide (l ≤ c) && decide (c ≤ 9223372036854775807) && decide ((P.bytesOf e : Int) * c ≤ 140737488355328) && (P.info? e).isSome && zeroK (T := reg.T) P e)
        (newO h o (.sl h.nx 0 l.toNat (.exact c.toNat)))
    | none => .bad)
  | _, _, _ => .bad

/-- A bound: the number, or what stands for none. -/
def bnd {T : Nat → Type} (x : Option (Option (V T))) (dflt : Int) : Option Int :=
  match x with
  | none => some dflt
  | some (some (.d (.int _ n))) => some n
  | _ => none

def capMin : Cap → Nat → Nat
  | .exact c, _ => c
  | .least c, len => Nat.max c len
def capSub : Cap → Nat → Nat → Cap
  | .exact c, _, lo => .exact (c - lo)
  | .least c, len, lo => .least (Nat.max c len - lo)

def inB (lo hi mx : Int) : Bool := decide (0 ≤ lo) && decide (lo ≤ hi) && decide (hi ≤ mx)

def sliceG (t : TypeId) (x : V reg.T) (lo hi mx : Option (Option (V reg.T))) (h : Hp reg.T) : Out (V reg.T × Hp reg.T) :=
  match x with
  | .d (.str s) => (match isStrT P t, mx, bnd lo 0, bnd hi s.length with
    | true, none, some l, some u => .need (inB l u s.length) (.ret (.d (.str ((s.take u.toNat).drop l.toNat)), h))
    | _, _, _, _ => .bad)
  | .d x => (match x.len? reg, sliceT P t, bnd lo 0 with
    | some n, some e, some l => (match mx with
      | none => (match bnd hi n with
        | some u => (match x with
          | .nils => .need (inB l u n && (P.info? e).isSome) (.ret (.d .nils, h))
          | x => .need (inB l u n && (P.info? e).isSome && Nat.beq (x.k reg (P.cellsOf e)) (P.cellsOf e)) (.ret (.d (x.sub reg l.toNat u.toNat), h)))
        | none => .bad)
      | some m => (match hi.isSome, bnd hi n, bnd (some m) 0, x with
        | true, some 0, some 0, .nils => .need (inB l 0 n && (P.info? e).isSome) (.ret (.d .nils, h))
        | _, _, _, _ => .bad))
    | _, _, _ => .bad)
  | .sl i off len cap => (match sliceT P t, bnd lo 0, h.get i with
    | some e, some l, some o => Out.ask (o.isRows reg && Nat.beq (o.k reg) (P.cellsOf e) && (P.info? e).isSome) (match mx with
      | none => (match bnd hi len with
        | some u => .need (inB l u (capMin cap len)) (.ret (.sl i (off + l.toNat) (u - l).toNat (capSub cap len l.toNat), h))
        | none => .bad)
      | some m => (match hi.isSome, bnd hi len, bnd (some m) 0 with
        | true, some u, some w => .need (inB l u w && decide (w ≤ (capMin cap len : Nat)) && (!cap.loose || decide (l < w))) (.ret (.sl i (off + l.toNat) (u - l).toNat (.exact (w - l).toNat), h))
        | _, _, _ => .bad))
    | _, _, _ => .bad)
  | _ => .bad

/-- The address of an element. -/
def indexAddrG (t : TypeId) (x i : V reg.T) (h : Hp reg.T) : Out (V reg.T × Hp reg.T) :=
  match i with
  | .d (.int _ n) => (match x with
    | .ptr j r o => (match P.underlying t with
      | some (.array m e) => .need (decide (0 ≤ n) && decide (n < (m : Int)) && (P.info? e).isSome) (.ret (.ptr j r (o + n.toNat * P.cellsOf e), h))
      | _ => .bad)
    | .fp row o => (match P.underlying t with
      | some (.array m e) => .need (decide (0 ≤ n) && decide (n < (m : Int)) && (P.info? e).isSome) (.ret (.fp row (o + n.toNat * P.cellsOf e), h))
      | _ => .bad)
    | .d x => (match sliceT P t, x.len? reg with
      | some e, some len => .need (decide (0 ≤ n) && decide (n < (len : Int)) && Nat.beq (x.k reg (P.cellsOf e)) (P.cellsOf e) && (P.info? e).isSome) (.ret (.fp (x.row reg n.toNat) 0, h))
      | _, _ => .bad)
    | .sl j off len _ => (match sliceT P t, h.get j with
      | some e, some o => Out.ask (o.isRows reg && Nat.beq (o.k reg) (P.cellsOf e) && (P.info? e).isSome) (.need (decide (0 ≤ n) && decide (n < (len : Int))) (.ret (.ptr j (off + n.toNat) 0, h)))
      | _, _ => .bad)
    | _ => .bad)
  | _ => .bad

def indexG (t : TypeId) (x i : V reg.T) (h : Hp reg.T) : Out (V reg.T × Hp reg.T) :=
  match x, i with
  | .d (.str s), .d (.int _ n) => Out.ask (isStrT P t) (.need (decide (0 ≤ n) && decide (n < (s.length : Int))) (.ret (.d (.int .u8 (s.getD n.toNat 0).toNat), h)))
  | .agg vs, .d (.int _ n) => (match P.underlying t with
    | some (.array m e) => .need (decide (0 ≤ n) && decide (n < (m : Int)) && Nat.beq vs.length (m * P.cellsOf e)) (oneO (asVar P e ((vs.drop (n.toNat * P.cellsOf e)).take (P.cellsOf e))) h)
    | _ => .bad)
  | _, _ => .bad

def fieldG (t : TypeId) (x : V reg.T) (f : Nat) (h : Hp reg.T) : Out (V reg.T × Hp reg.T) :=
  match x, P.underlying t with
  | .agg vs, some (.struct fs) => (match fs[f]? with
    | some fl => oneO (asVar P fl.type ((vs.drop fl.offset).take (P.cellsOf fl.type))) h
    | none => .bad)
  | _, _ => .bad

def convertG (src dst : TypeId) (x : V reg.T) (h : Hp reg.T) : Out (V reg.T × Hp reg.T) :=
  match P.underlying src, P.underlying dst, x with
  | some _, some (.int k), .d (.int _ n) => .ret (.d (.int k (k.wrap n)), h)
  | some _, some .string, .d (.str s) => .ret (.d (.str s), h)
  | some _, some (.slice e), .d (.str s) => (match u8T P e, Nat.beq (P.cellsOf e) 1, mkRows reg P e (.u []) (strRw reg e s) with
    | true, true, some o => .need (Nat.ble s.length 140737488355328) (newO h o (.sl h.nx 0 s.length (.least s.length)))
    | _, _, _ => .bad)
  | some (.slice _), some (.slice e), .sl i off len cap => (match Nat.beq src dst && u8T P e, h.get i with
    | true, some o => Out.ask (o.isRows reg) (.need (Nat.blt 0 len) (.ret (.sl i off len cap, h.set i (some o))))
    | _, _ => .bad)
  | some (.slice e), some .string, v => (match u8T P e && Nat.beq (P.cellsOf e) 1, slvX 1 v h with
    | true, some (p, _, rs) => .need p (match rwBytes rs with | some s => .ret (.d (.str s), h) | none => .bad)
    | _, _ => .bad)
  | _, _, _ => .bad

/-! ### Structs, arrays, literals -/
def fillV {T : Nat → Type} (place : Nat → Option (Nat × Nat)) : List (Nat × Option (V T)) → List (V T) → Option (List (V T))
  | [], vs => some vs
  | (f, some v) :: r, vs => (match place f with
    | some (off, size) => (match v.isAny, Nat.beq v.cells.length size, Nat.ble (off + v.cells.length) vs.length with
      | false, true, true => fillV place r (setRange vs off v.cells)
      | _, _, _ => none)
    | none => none)
  | _, _ => none

def buildV (t : TypeId) (parts : List (Nat × Option (V reg.T))) : Option (V reg.T) :=
  match P.underlying t with
  | some (.struct fs) => (match fs.toList.all (fun f => (P.info? f.type).isSome), zeroT P t with
    | true, some z => (match fillV (fun i => (fs[i]?).map fun f => (f.offset, P.cellsOf f.type)) parts z with | some vs => some (.agg vs) | none => none)
    | _, _ => none)
  | some (.array _ e) => (match (P.info? e).isSome, zeroT P t with
    | true, some z => (match fillV (fun i => some (i * P.cellsOf e, P.cellsOf e)) parts z with | some vs => some (.agg vs) | none => none)
    | _, _ => none)
  | _ => none

/-- Cells, in rows of k. -/
def chop {α : Type} (k : Nat) : Nat → List α → List (List α)
  | 0, _ => []
  | n + 1, l => l.take k :: chop k n (l.drop k)

def buildSliceG (t : TypeId) (len : Nat) (parts : List (Nat × Option (V reg.T))) (h : Hp reg.T) : Out (V reg.T × Hp reg.T) :=
  match sliceT P t with
  | some e => (match (zeroT P e : Option (List (V reg.T))) with
    | some z => (match fillV (fun i => some (i * P.cellsOf e, P.cellsOf e)) parts (List.replicate len z).flatten with
      | some cs => (match mkRows reg P e (.u []) (.u (chop (P.cellsOf e) len cs)) with
        | some o => .need (Nat.ble (len * P.cellsOf e) 16777216 && Nat.beq z.length (P.cellsOf e) && (P.info? e).isSome && Nat.blt 0 (P.cellsOf e) && cs.all V.solid) (newO h o (.sl h.nx 0 len (.exact len)))
        | none => .bad)
      | none => .bad)
    | none => .bad)
  | none => .bad

def loadG (t : TypeId) (x : Option (V reg.T)) (h : Hp reg.T) : Out (V reg.T × Hp reg.T) :=
  match x with
  | some (.ptr i r o) => (match h.get i with
    | some ob => Out.ask (ob.isRows reg) (.need (Nat.blt r (ob.len reg)) (oneO (asVar P t (((ob.row reg r).drop o).take (P.cellsOf t))) h))
    | none => .bad)
  | some (.fp row o) => oneO (asVar P t (((row.drop o).take (P.cellsOf t)).map .d)) h
  | _ => .bad

def storeG (t : TypeId) (x v : Option (V reg.T)) (h : Hp reg.T) : Out (V reg.T × Hp reg.T) :=
  match x, v with
  | some (.ptr i r o), some v => (match h.get i with
    | some ob => (match knownT P t, Nat.beq v.cells.length (P.cellsOf t), v.cells.all V.solid, ob.setRow reg r (setRange (ob.row reg r) o v.cells) with
      | true, true, true, some ob' => .need (Nat.blt r (ob.len reg) && Nat.ble (o + v.cells.length) (ob.row reg r).length) (.ret (.undef, h.set i (some ob')))
      | _, _, _, _ => .bad)
    | none => .bad)
  | _, _ => .bad

def builtinG (b : Builtin) (ts : List TypeId) (vs : List (V reg.T)) (h : Hp reg.T) : Out (V reg.T × Hp reg.T) :=
  match b, ts, vs with
  | .len, [t], [v] => (match v with
    | .d (.str s) => Out.ask (isStrT P t) (.ret (.d (.int .i64 (s.length : Int)), h))
    | v => (match sliceT P t, v with
      | some _, .d x => (match x.len? reg with | some n => .ret (.d (.int .i64 (n : Int)), h) | none => .bad)
      | some _, .sl _ _ n _ => .ret (.d (.int .i64 (n : Int)), h)
      | _, .mp i => (match mapT P t, h.get i with | some _, some (.map _ es) => .ret (.d (.int .i64 (es.length : Int)), h) | _, _ => .bad)
      | _, _ => .bad))
  | .append, [t, t2], [a, b] => (match (sliceT P t2).isSome || isStrT P t2 with
    | true => appendG P t a b h
    | false => .bad)
  | .copy, [t, t2], [a, b] => (match (sliceT P t2).isSome || isStrT P t2 with
    | true => copyG P t a b h
    | false => .bad)
  | .clear, [t], [v] => clearG P t v h
  | .min, _, [.d (.int k a), .d (.int k' b)] => Out.ask (sameKind k k') (.ret (.d (.int k (if b < a then b else a)), h))
  | .max, _, [.d (.int k a), .d (.int k' b)] => Out.ask (sameKind k k') (.ret (.d (.int k (if b > a then b else a)), h))
  | _, _, _ => .bad

/-! ### Maps -/
/-- Keys that are compared at once. -/
def keyEq {T : Nat → Type} (k k' : V T) : Option Bool :=
  match k, k' with
  | .d (.int a x), .d (.int b y) => (match sameKind a b with | true => some (x == y) | false => none)
  | .d (.str s), .d (.str t) => some (s == t)
  | .d (.bool a), .d (.bool b) => some (a == b)
  | _, _ => none
/-- Is it a key of the type? -/
def keyable {T : Nat → Type} (kt : TypeId) (k : V T) : Bool :=
  match P.underlying kt, k with
  | some (.int k), .d (.int k' _) => sameKind k k'
  | some .string, .d (.str _) => true
  | some .bool, .d (.bool _) => true
  | _, _ => false
/-- The entry of a key: its place, its value, its stamp. -/
def mapFind {T : Nat → Type} {β : Type} (k : V T) : List ((V T × V T) × Nat) → Nat → (Nat → V T → Nat → Out β) → Out β → Out β
  | [], _, _, none' => none'
  | e :: es, j, found, none' => (match keyEq k e.1.1 with
    | some b => .br b (found j e.1.2 e.2) (mapFind k es (j + 1) found none')
    | none => .bad)
/-- A type's zero, as one value. -/
def zeroV {T : Nat → Type} (t : TypeId) : Option (V T) := match P.info? t with
  | some i => (match i.zero, (zeroT P t : Option (List (V T))) with
    | some (.agg _), some vs => some (.agg vs)
    | some (.tuple _), _ => none
    | some _, some [v] => some v
    | _, _ => none)
  | none => none
def setVal {T : Nat → Type} (j : Nat) (v : V T) : List ((V T × V T) × Nat) → List ((V T × V T) × Nat)
  | [] => []
  | e :: es => (match j with | 0 => ((e.1.1, v), e.2) :: es | j + 1 => e :: setVal j v es)
def findBorn {T : Nat → Type} (n : Int) : List ((V T × V T) × Nat) → Nat → Option Nat
  | [], _ => none
  | e :: es, j => (match ((e.2 : Int) == n) with | true => some j | false => findBorn n es (j + 1))

def makeMapG (t : TypeId) (h : Hp reg.T) : Out (V reg.T × Hp reg.T) := match mapT P t with
  | some _ => newO h (.map 0 []) (.mp h.nx)
  | none => .bad
def okV {T : Nat → Type} (ok : Bool) (v : V T) (b : Bool) : V T := match ok with | true => .tup [v, .d (.bool b)] | false => v
def lookupG (t : TypeId) (x k : V reg.T) (ok : Bool) (h : Hp reg.T) : Out (V reg.T × Hp reg.T) :=
  match mapT P t with
  | some (kt, et) => (match zeroV P et with
    | some z => (match x with
      | .d .nilm => Out.ask (keyable P kt k) (.ret (okV ok z false, h))
      | .mp i => (match h.get i with
        | some (.map _ es) => Out.ask (keyable P kt k) (mapFind k es 0 (fun _ v _ => .ret (okV ok v true, h)) (.ret (okV ok z false, h)))
        | _ => .bad)
      | _ => .bad)
    | none => .bad)
  | none => .bad
def mapUpdateG (t : TypeId) (x k v : V reg.T) (h : Hp reg.T) : Out (V reg.T × Hp reg.T) :=
  match mapT P t, x with
  | some (kt, _), .mp i => (match h.get i with
    | some (.map c es) => Out.ask (keyable P kt k) (mapFind k es 0 (fun j _ _ => .ret (.undef, h.set i (some (.map c (setVal j v es))))) (.ret (.undef, h.set i (some (.map (c + 1) (es ++ [((k, v), c)]))))))
    | _ => .bad)
  | _, _ => .bad
def mapEntryG (t : TypeId) (x k : V reg.T) (h : Hp reg.T) : Out (V reg.T × Hp reg.T) :=
  match mapT P t, x with
  | some (kt, et), .mp i => (match zeroV P et, h.get i with
    | some z, some (.map c es) => Out.ask (keyable P kt k) (mapFind k es 0 (fun _ v n => .ret (.tup [v, .d (.int .i64 (n : Int))], h))
        (.ret (.tup [z, .d (.int .i64 (c : Int))], h.set i (some (.map (c + 1) (es ++ [((k, z), c)]))))))
    | _, _ => .bad)
  | _, _ => .bad
def entryStoreG (x n v : V reg.T) (h : Hp reg.T) : Out (V reg.T × Hp reg.T) :=
  match x, n with
  | .mp i, .d (.int _ n) => (match h.get i with
    | some (.map c es) => (match findBorn n es 0 with
      | some j => .ret (.undef, h.set i (some (.map c (setVal j v es))))
      | none => .bad)
    | _ => .bad)
  | _, _ => .bad

/-! ### Texts that are ranged over -/
def rangeG (t : TypeId) (x : V reg.T) (h : Hp reg.T) : Out (V reg.T × Hp reg.T) :=
  match isStrT P t, x with
  | true, .d (.str s) => newO h (.sit s 0) (.it h.nx)
  | _, _ => .bad
/-- The next sign of a text, of those that are one byte. -/
def nextG (x : V reg.T) (isString : Bool) (h : Hp reg.T) : Out (V reg.T × Hp reg.T) :=
  match x, isString with
  | .it i, true => (match h.get i with
    | some (.sit s pos) => .br (Nat.blt pos s.length)
        (.need (Nat.blt (s.getD pos 0).toNat 128) (.ret (.tup [.d (.bool true), .d (.int .i64 (pos : Int)), .d (.int .i32 ((s.getD pos 0).toNat : Int))], h.set i (some (.sit s (pos + 1))))))
        (.ret (.tup [.d (.bool false)], h))
    | _ => .bad)
  | _, _ => .bad

/-! ### Structs that are compared -/
/-- Fields, one by one. -/
def eqFs {T : Nat → Type} (eq : TypeId → V T → V T → Option Bool) (xs ys : List (V T)) : List Field → Option Bool
  | [] => some true
  | f :: fs => (match f.name != "_", asVar P f.type ((xs.drop f.offset).take (P.cellsOf f.type)), asVar P f.type ((ys.drop f.offset).take (P.cellsOf f.type)) with
    | true, some a, some b => (match eq f.type a b, eqFs eq xs ys fs with
      | some p, some q => some (p && q)
      | _, _ => none)
    | _, _, _ => none)
/-- Are two values of a type the same? -/
def eqT {T : Nat → Type} : Nat → TypeId → V T → V T → Option Bool
  | 0, _, _, _ => none
  | n + 1, t, x, y => (match P.underlying t, x, y with
    | some (.struct fs), .agg xs, .agg ys => (match P.stoodInHeld t with | true => none | false => eqFs P (eqT n) xs ys fs.toList)
    | some (.int _), .d (.int a x), .d (.int b y) => (match sameKind a b with | true => some (x == y) | false => none)
    | some .string, .d (.str s), .d (.str u) => some (s == u)
    | some .bool, .d (.bool a), .d (.bool b) => some (a == b)
    | _, _, _ => none)
def eqG (op : BinOp) (t : TypeId) (x y : V reg.T) (h : Hp reg.T) : Out (V reg.T × Hp reg.T) :=
  match op, P.eqGuardType P.depth t, eqT P 8 t x y with
  | .eql, false, some b => .ret (.d (.bool b), h)
  | .neq, false, some b => .ret (.d (.bool (!b)), h)
  | _, _, _ => .bad

/-- One operation. -/
def lexec (hd : Hd reg.T) (op : Op) (val : Operand → Option (V reg.T)) (h : Hp reg.T) : Out (V reg.T × Hp reg.T) :=
  match op with
  | .move x => oneO (val x) h
  | .assign x => oneO (val x) h
  | .pick c a b => (match val c with
    | some (.d (.bool t)) => .br t (oneO (val a) h) (oneO (val b) h)
    | _ => .bad)
  | .box t x => (match val x with
    | some v => (match v.cells.all V.solid, Nat.beq v.cells.length (P.cellsOf t) with | true, true => newO h (.rows v.cells.length [v.cells]) (.ptr h.nx 0 0) | _, _ => .bad)
    | none => .bad)
  | .alloc t => (match zeroT P t with | some vs => newO h (.rows vs.length [vs]) (.ptr h.nx 0 0) | none => .bad)
  | .fieldAddr s x f => (match P.underlying s with
    | some (.struct fs) => (match fs[f]? with
      | some fl => (match P.cellsOf fl.type with
        | 0 => .bad
        | _ => (match val x with
          | some (.ptr i r o) => .ret (.ptr i r (o + fl.offset), h)
          | some (.fp row o) => .ret (.fp row (o + fl.offset), h)
          | _ => .bad))
      | none => .bad)
    | _ => .bad)
  | .load t x => loadG P t (val x) h
  | .store t x y => storeG P t (val x) (val y) h
  | .nilCheck x => (match val x with
    | some (.ptr i r o) => .ret (.ptr i r o, h)
    | some (.fp row o) => .ret (.fp row o, h)
    | some (.fn f cs fs) => .ret (.fn f cs fs, h)
    | _ => .bad)
  | .binOp op t x y _ => (match val x, val y with
    | some (.agg xs), some (.agg ys) => eqG P op t (.agg xs) (.agg ys) h
    | some a, some b => (match isNilS y with | true => outD (nilD P op t a) h | false => outD (binD P (isLit x || isLit y) op t a b) h)
    | _, _ => .bad)
  | .unOp op _ x => (match val x with | some v => outD (unD op v) h | none => .bad)
  | .build t parts => oneO (buildV P t (parts.toList.map fun p => (p.1, val p.2))) h
  | .buildSlice t len parts => buildSliceG P t len (parts.toList.map fun p => (p.1, val p.2)) h
  | .makeSlice t l c => (match val l, val c with | some l, some c => makeSliceG P t l c h | _, _ => .bad)
  | .slice t x lo hi mx => (match val x with | some v => sliceG P t v (lo.map val) (hi.map val) (mx.map val) h | none => .bad)
  | .indexAddr t x i => (match val x, val i with | some v, some n => indexAddrG P t v n h | _, _ => .bad)
  | .index t x i => (match val x, val i with | some v, some n => indexG P t v n h | _, _ => .bad)
  | .field t x f => (match val x with | some v => fieldG P t v f h | none => .bad)
  | .convert src dst x => (match val x with | some v => convertG P src dst v h | none => .bad)
  | .extract x n => (match val x with | some (.tup vs) => oneO vs[n]? h | _ => .bad)
  | .makeFunc (.func f) first caps => (match allSome (first.toList.map val), allSome (caps.toList.map val) with | some fs, some cs => .ret (.fn f cs fs, h) | _, _ => .bad)
  | .call c => (match allSome (c.args.toList.map val) with
    | some vs => (match c.callee with
      | .builtin b => builtinG P b c.argTypes.toList vs h
      | .value o => (match val o with | some (.fn f cs fs) => hd f (fs ++ vs ++ cs) h | _ => .bad)
      | _ => .bad)
    | none => .bad)
  | .makeMap t r => (match r with
    | none => makeMapG P t h
    | some o => (match val o with | some (.d (.int _ _)) => makeMapG P t h | _ => .bad))
  | .lookup t x k ok => (match val x, val k with | some x, some k => lookupG P t x k ok h | _, _ => .bad)
  | .mapUpdate t m k x => (match val m, val k, val x with | some m, some k, some x => mapUpdateG P t m k x h | _, _, _ => .bad)
  | .insert t m k x => (match val m, val k, val x with | some m, some k, some x => mapUpdateG P t m k x h | _, _, _ => .bad)
  | .mapEntry t m k => (match val m, val k with | some m, some k => mapEntryG P t m k h | _, _ => .bad)
  | .entryStore _ m n x => (match val m, val n, val x with | some m, some n, some x => entryStoreG m n x h | _, _, _ => .bad)
  | .range t x => (match val x with | some v => rangeG P t v h | none => .bad)
  | .next x str => (match val x with | some v => nextG v str h | none => .bad)
  | _ => .bad

/-! ### Regions -/
def dstOk (nt : Nat) : Option Nat → Bool
  | some d => Nat.blt d nt
  | none => true

/-- The operations of a region, in the text's order. -/
def exOps (hd : Hd reg.T) (nt : Nat) (ops : Array Oper) : List Oper → St reg.T → Out (St reg.T)
  | [], st => .ret st
  | o :: rest, st =>
    match dstOk nt o.dst with
    | false => .bad
    | true =>
    let run (st : St reg.T) : Out (St reg.T) := (lexec P hd o.op (valOf st.env.get) st.hp).bind fun r => Out.ask (Nat.ble st.hp.nx r.2.nx) (exOps hd nt ops rest (St.put ⟨st.env, r.2⟩ o.dst r.1))
    let skip (st : St reg.T) : Out (St reg.T) := exOps hd nt ops rest (st.put o.dst .undef)
    match o.guard with
    | none => run st
    | some (j, want) =>
      match (ops[j]?).bind (·.dst) with
      | none => .bad
      | some d =>
        match st.env.get d with
        | some (.d (.bool b)) =>
          .br b (match want with | true => run (st.fix d true) | false => skip (st.fix d true)) (match want with | true => skip (st.fix d false) | false => run (st.fix d false))
        | some .undef => skip st
        | _ => .bad

def memN : List Nat → Nat → Bool
  | [], _ => false
  | n :: l, i => (match Nat.beq n i with | true => true | false => memN l i)
def addN (l : List Nat) (i : Nat) : List Nat := match memN l i with | true => l | false => l ++ [i]

/-- The names that a value mentions. -/
def V.names {T : Nat → Type} : V T → List Nat → List Nat
  | .ptr i _ _, l => addN l i
  | .sl i _ _ _, l => addN l i
  | .mp i, l => addN l i
  | .it i, l => addN l i
  | .fn _ vs us, l => goL us (goL vs l)
  | .ifc _ v, l => V.names v l
  | .agg vs, l => goL vs l
  | .tup vs, l => goL vs l
  | _, l => l
where goL {T : Nat → Type} : List (V T) → List Nat → List Nat
  | [], l => l
  | v :: vs, l => goL vs (V.names v l)

def O.names {T : Nat → Type} : O T → List Nat → List Nat
  | .rows _ xs, l => xs.foldl (fun l r => V.names.goL r l) l
  | .trows _ _, l => l
  | .map _ es, l => es.foldl (fun l p => V.names p.1.2 (V.names p.1.1 l)) l
  | .sit _ _, l => l

/-- The names that are reached from those of a list. -/
def reach {T : Nat → Type} (get : Nat → Option (O T)) : Nat → Nat → List Nat → List Nat
  | 0, _, l => l
  | n + 1, k, l => (match l[k]? with
    | none => l
    | some i => reach get n (k + 1) (match get i with | some o => o.names l | none => l))

def isCall : Op → Bool
  | .call c => (match c.callee with | .builtin _ => false | _ => true)
  | _ => false

def isMove : Op → Bool
  | .move _ => true
  | _ => false

/-- Which objects an operation may look at. -/
def lookAt {T : Nat → Type} (op : Op) (val : Operand → Option (V T)) (get : Nat → Option (O T)) : List Nat :=
  let l := V.names.goL (op.operands.toList.filterMap val) []
  match isMove op with | true => [] | false => (match isCall op with | true => reach get 1000 0 l | false => l)

/-- A heap of some objects. -/
def partH {T : Nat → Type} (get : Nat → Option (O T)) (nx : Nat) (l : List Nat) : Hp T := ⟨l.foldl (fun t i => t.set i (get i)) .e, nx, []⟩

/-- What became of a part. -/
def Hp.join {T : Nat → Type} (h p : Hp T) (l : List Nat) : Hp T := ⟨l.foldl (fun t i => t.set i (p.get i)) h.h, p.nx, p.wr ++ h.wr⟩

structure Foot where
  at_ : Nat
  rd : List Nat
  wr : List Nat
  n0 : Nat
  n1 : Nat

/-- What is looked at of a part: the names are small; what was written lay in it, or is new. -/
def okPart (l wr : List Nat) (n0 n1 : Nat) : Bool := Nat.ble n0 n1 && Tr.ok n1 && l.all Tr.ok && wr.all fun i => memN l i || (Nat.ble n0 i && Nat.blt i n1)

/-- The operations of a region that draws its order; what each looked at and wrote is kept in 'tr'. -/
def exOpsD (hd : Hd reg.T) (nt : Nat) (ops : Array Oper) : List Oper → Nat → St reg.T → List Foot → Out (St reg.T × List Foot)
  | [], _, st, tr => .ret (st, tr)
  | o :: rest, n, st, tr =>
    match dstOk nt o.dst with
    | false => .bad
    | true =>
    let run (st : St reg.T) : Out (St reg.T × List Foot) :=
      let l := lookAt o.op (valOf st.env.get) st.hp.get
      (lexec P hd o.op (valOf st.env.get) (partH st.hp.get st.hp.nx l)).bind fun r =>
        let wr := r.2.wr ++ List.range' st.hp.nx (r.2.nx - st.hp.nx)
        Out.ask (okPart l r.2.wr st.hp.nx r.2.nx) (exOpsD hd nt ops rest (n + 1) (St.put ⟨st.env, st.hp.join r.2 wr⟩ o.dst r.1) (⟨n, l, wr, st.hp.nx, r.2.nx⟩ :: tr))
    let skip (st : St reg.T) : Out (St reg.T × List Foot) := exOpsD hd nt ops rest (n + 1) (st.put o.dst .undef) (⟨n, [], [], st.hp.nx, st.hp.nx⟩ :: tr)
    match o.guard with
    | none => run st
    | some (j, want) =>
      match (ops[j]?).bind (·.dst) with
      | none => .bad
      | some d =>
        match st.env.get d with
        | some (.d (.bool b)) =>
          .br b (match want with | true => run (st.fix d true) | false => skip (st.fix d true)) (match want with | true => skip (st.fix d false) | false => run (st.fix d false))
        | some .undef => skip st
        | _ => .bad

def meets (a b : List Nat) : Bool := a.any fun i => b.any fun j => Nat.beq i j
/-- Do two operations come in one another's way? -/
def Foot.apart (a b : Foot) : Bool := !meets a.wr b.rd && !meets a.wr b.wr && !meets b.wr a.rd
/-- Which operations stand surely ahead of each. -/
def masks : List Oper → List Nat → List Nat
  | [], acc => acc
  | o :: r, acc => masks r (acc ++ [o.after.toList.foldl (fun s e => match Region.binds .any e with | true => s ||| 2 ^ e.on ||| acc.getD e.on 0 | false => s) 0])
/-- The edges lead back. -/
def back : List Oper → Nat → Bool
  | [], _ => true
  | o :: r, n => (o.after.toList.all fun e => !Region.binds .any e || Nat.blt e.on n) && back r (n + 1)
/-- In a region that draws its order: operations that it may take in either order are apart. -/
def okTrace (ops : Array Oper) (tr : List Foot) : Bool :=
  let ms := masks ops.toList []
  back ops.toList 0 && tr.all fun b => tr.all fun a => !Nat.blt a.at_ b.at_ || (ms.getD b.at_ 0).testBit a.at_ ||
    (match ops[a.at_]?, ops[b.at_]? with
      | some oa, some ob => oa.apart ops ob && a.apart b
      | _, _ => false)

def exReg (hd : Hd reg.T) (nt : Nat) (ops : Array Oper) (draw : Bool) (st : St reg.T) : Out (St reg.T) :=
  match draw with
  | false => exOps P hd nt ops ops.toList st
  | true => (exOpsD P hd nt ops ops.toList 0 st []).bind fun r => Out.ask (okTrace ops r.2) (.ret r.1)

/-! ### Code -/
inductive AExit where
  | normal | exit (id : Nat) | ret

def loopN {T : Nat → Type} (body : St T → Out (AExit × St T)) : Nat → St T → Out (AExit × St T)
  | 0, _ => .bad
  | n + 1, st => (body st).bind fun r => (match r.1 with | .normal => loopN body n r.2 | e => .ret (e, r.2))

def thenX {T : Nat → Type} (k : St T → Out (AExit × St T)) (r : AExit × St T) : Out (AExit × St T) :=
  match r.1 with
  | .normal => k r.2
  | e => .ret (e, r.2)
def blockX {T : Nat → Type} (id : Nat) (r : AExit × St T) : Out (AExit × St T) :=
  match r.1 with
  | .exit j => (match Nat.beq j id with | true => .ret (.normal, r.2) | false => .ret (.exit j, r.2))
  | e => .ret (e, r.2)

def ex (hd : Hd reg.T) (nt fuel : Nat) : Code → St reg.T → Out (AExit × St reg.T)
  | .skip, st => .ret (.normal, st)
  | .region _ ops draw, st => (exReg P hd nt ops draw st).bind fun st => .ret (.normal, st)
  | .seq a b, st => (ex hd nt fuel a st).bind (thenX (ex hd nt fuel b))
  | .cond c a b, st => (match c with
    | .tmp t => (match st.env.get t with
      | some (.d (.bool v)) => .br v (ex hd nt fuel a (st.fix t true)) (ex hd nt fuel b (st.fix t false))
      | _ => .bad)
    | .const (.bool v) => (match v with | true => ex hd nt fuel a st | false => ex hd nt fuel b st)
    | _ => .bad)
  | .block id c, st => (ex hd nt fuel c st).bind (blockX id)
  | .loop c, st => loopN (ex hd nt fuel c) fuel st
  | .exit id, st => .ret (.exit id, st)
  | .ret, st => .ret (.ret, st)
  | .scope c, st => ex hd nt fuel c st
  | .label _, st => .ret (.normal, st)
  | _, _ => .bad

/-! ### Functions -/
def initEnv {T : Nat → Type} : List (V T) → Nat → Tr (V T) → Tr (V T)
  | [], _, t => t
  | v :: l, n, t => initEnv l (n + 1) (t.set n (some v))

def resV (st : St reg.T) : ResultVar → Option (V reg.T)
  | .tmp t => st.env.get t
  | .cell t ty => (match st.env.get t with
    | some (.ptr i r o) => (match st.hp.get i with
      | some ob => (match ob.isRows reg && Nat.blt r (ob.len reg) with | true => asVar P ty (((ob.row reg r).drop o).take (P.cellsOf ty)) | false => none)
      | none => none)
    | _ => none)

def retV (fn : Func) (st : St reg.T) : Option (V reg.T) :=
  match fn.results.toList with
  | [r] => resV P st r
  | rs => (match allSome (rs.map (resV P st)) with | some vs => some (.tup vs) | none => none)

def finX (fn : Func) (r : AExit × St reg.T) : Out (V reg.T × Hp reg.T) :=
  match r.1 with
  | .exit _ => .bad
  | _ => oneO (retV P fn r.2) r.2.hp

def exFun (hd : Hd reg.T) (fuel : Nat) (f : FuncId) (args : List (V reg.T)) (h : Hp reg.T) : Out (V reg.T × Hp reg.T) :=
  match P.funcs[f]? with
  | none => .bad
  | some fn => (match fn.body with
    | none => .bad
    | some c => Out.ask (Nat.ble args.length fn.ntmps && Nat.ble fn.ntmps 1000000) ((ex P hd fn.ntmps fuel c ⟨initEnv args 0 .e, h⟩).bind (finX P fn)))

abbrev Con (T : Nat → Type) := FuncId → Option (List (V T) → Hp T → Out (V T × Hp T))

/-- Calls: by contract, or by the callee's code. -/
def hdN (C : Con reg.T) (fuel : Nat) : Nat → Hd reg.T
  | 0 => fun f args h => (match C f with | some S => S args h | none => .bad)
  | n + 1 => fun f args h => (match C f with | some S => S args h | none => exFun P (hdN C fuel n) fuel f args h)
end
end Go.W
