/- A closed evaluator that the kernel unfolds quickly. No conditions. -/
import Derived.Test.YtbcmfkognanjdaaGreatDoorVz
namespace Go.W
open Go

section
variable {reg : Reg} (P : Program)
abbrev LX (T : Nat → Type) := (Operand → Option (V T)) → Hp T → Option (V T × Hp T)
noncomputable def liftC {T : Nat → Type} (x : Option (V T)) (h : Hp T) : Option (V T × Hp T) := Option.rec (motive := fun _ => Option (V T × Hp T)) none (fun v => some (v, h)) x
theorem liftC_eq {T : Nat → Type} (x : Option (V T)) (h : Hp T) : liftC x h = (oneO x h).run := by cases x <;> rfl
noncomputable def bin2C (op : BinOp) (t : TypeId) (lit nil : Bool) (a b : V reg.T) (h : Hp reg.T) : Option (V reg.T × Hp reg.T) :=
  Bool.rec (motive := fun _ => Option (V reg.T × Hp reg.T)) (outD (binD P lit op t a b) h).run (outD (nilD P op t a) h).run nil
noncomputable def binC (op : BinOp) (t : TypeId) (lit nil : Bool) (x y : Option (V reg.T)) (h : Hp reg.T) : Option (V reg.T × Hp reg.T) :=
  match x, y with
  | some (.agg xs), some (.agg ys) => (eqG P op t (.agg xs) (.agg ys) h).run
  | some a, some b => bin2C P op t lit nil a b h
  | _, _ => none
theorem bin2C_eq (op : BinOp) (t : TypeId) (lit nil : Bool) (a b : V reg.T) (h : Hp reg.T) : bin2C P op t lit nil a b h = (match nil with | true => outD (nilD P op t a) h | false => outD (binD P lit op t a b) h).run := by cases nil <;> rfl
noncomputable def fieldAt (s : TypeId) (f : Nat) : Option Nat := match P.underlying s with
  | some (.struct fs) => (match fs[f]? with
    | some fl => (match P.cellsOf fl.type with | 0 => none | _ => some fl.offset)
    | none => none)
  | _ => none
noncomputable def fieldAddrC {T : Nat → Type} (off : Option Nat) (x : Option (V T)) (h : Hp T) : Option (V T × Hp T) :=
  match off with
  | some n => (match x with
    | some (.ptr i r o) => some (.ptr i r (o + n), h)
    | some (.fp row o) => some (.fp row (o + n), h)
    | _ => none)
  | none => none
noncomputable def lxBad {T : Nat → Type} : LX T := fun _ _ => none
noncomputable def lx_move (x : Operand) : LX reg.T := fun val h => liftC (val x) h
noncomputable def lx_assign (x : Operand) : LX reg.T := fun val h => liftC (val x) h
noncomputable def lx_pick (c a b : Operand) : LX reg.T := fun val h => (match val c with | some (.d (.bool t)) => Bool.rec (motive := fun _ => Option (V reg.T × Hp reg.T)) (liftC (val b) h) (liftC (val a) h) t | _ => none)
noncomputable def lx_alloc (t : TypeId) : LX reg.T := fun _ h => (match zeroT P t with | some vs => (newO h (.rows vs.length [vs]) (.ptr h.nx 0 0)).run | none => none)
noncomputable def lx_box (t : TypeId) (x : Operand) : LX reg.T := fun val h => (match val x with | some v => (match v.cells.all V.solid, Nat.beq v.cells.length (P.cellsOf t) with | true, true => (newO h (.rows v.cells.length [v.cells]) (.ptr h.nx 0 0)).run | _, _ => none) | none => none)
noncomputable def lx_build (t : TypeId) (parts : Array (Nat × Operand)) : LX reg.T := fun val h => liftC (buildV P t (parts.toList.map fun p => (p.1, val p.2))) h
noncomputable def lx_buildSlice (t : TypeId) (len : Nat) (parts : Array (Nat × Operand)) : LX reg.T := fun val h => (buildSliceG P t len (parts.toList.map fun p => (p.1, val p.2)) h).run
noncomputable def lx_insert (t : TypeId) (m k x : Operand) : LX reg.T := fun val h => (match val m, val k, val x with | some m, some k, some x => (mapUpdateG P t m k x h).run | _, _, _ => none)
noncomputable def lx_load (t : TypeId) (x : Operand) : LX reg.T := fun val h => (loadG P t (val x) h).run
noncomputable def lx_store (t : TypeId) (x y : Operand) : LX reg.T := fun val h => (storeG P t (val x) (val y) h).run
noncomputable def lx_nilCheck (x : Operand) : LX reg.T := fun val h => (match val x with | some (.ptr i r o) => some (.ptr i r o, h) | some (.fp row o) => some (.fp row o, h) | some (.fn f cs fs) => some (.fn f cs fs, h) | _ => none)
noncomputable def lx_binOp (op : BinOp) (t : TypeId) (x y : Operand) (_u : TypeId) : LX reg.T := fun val h => binC P op t (isLit x || isLit y) (isNilS y) (val x) (val y) h
noncomputable def lx_unOp (op : UnOp) (_t : TypeId) (x : Operand) : LX reg.T := fun val h => (match val x with | some v => (outD (unD op v) h).run | none => none)
noncomputable def lx_convert (src dst : TypeId) (x : Operand) : LX reg.T := fun val h => (match val x with | some v => (convertG P src dst v h).run | none => none)
noncomputable def lx_makeFunc (fn : Fn) (first caps : Array Operand) : LX reg.T := fun val h => (match fn with | .func f => (match allSome (first.toList.map val), allSome (caps.toList.map val) with | some fs, some cs => some (.fn f cs fs, h) | _, _ => none) | _ => none)
noncomputable def lx_makeMap (t : TypeId) (r : Option Operand) : LX reg.T := fun val h => (match r with | none => (makeMapG P t h).run | some o => (match val o with | some (.d (.int _ _)) => (makeMapG P t h).run | _ => none))
noncomputable def lx_makeSlice (t : TypeId) (l c : Operand) : LX reg.T := fun val h => (match val l, val c with | some l, some c => (makeSliceG P t l c h).run | _, _ => none)
noncomputable def lx_slice (t : TypeId) (x : Operand) (lo hi mx : Option Operand) : LX reg.T := fun val h => (match val x with | some v => (sliceG P t v (lo.map val) (hi.map val) (mx.map val) h).run | none => none)
noncomputable def lx_fieldAddr (s : TypeId) (x : Operand) (f : Nat) : LX reg.T := fun val h => fieldAddrC (fieldAt P s f) (val x) h
noncomputable def lx_field (t : TypeId) (x : Operand) (f : Nat) : LX reg.T := fun val h => (match val x with | some v => (fieldG P t v f h).run | none => none)
noncomputable def lx_indexAddr (t : TypeId) (x i : Operand) : LX reg.T := fun val h => (match val x, val i with | some v, some n => (indexAddrG P t v n h).run | _, _ => none)
noncomputable def lx_index (t : TypeId) (x i : Operand) : LX reg.T := fun val h => (match val x, val i with | some v, some n => (indexG P t v n h).run | _, _ => none)
noncomputable def lx_lookup (t : TypeId) (x k : Operand) (ok : Bool) : LX reg.T := fun val h => (match val x, val k with | some x, some k => (lookupG P t x k ok h).run | _, _ => none)
noncomputable def lx_mapUpdate (t : TypeId) (m k x : Operand) : LX reg.T := fun val h => (match val m, val k, val x with | some m, some k, some x => (mapUpdateG P t m k x h).run | _, _, _ => none)
noncomputable def lx_mapEntry (t : TypeId) (m k : Operand) : LX reg.T := fun val h => (match val m, val k with | some m, some k => (mapEntryG P t m k h).run | _, _ => none)
noncomputable def lx_entryStore (_t : TypeId) (m n x : Operand) : LX reg.T := fun val h => (match val m, val n, val x with | some m, some n, some x => (entryStoreG m n x h).run | _, _, _ => none)
noncomputable def lx_range (t : TypeId) (x : Operand) : LX reg.T := fun val h => (match val x with | some v => (rangeG P t v h).run | none => none)
noncomputable def lx_next (x : Operand) (str : Bool) : LX reg.T := fun val h => (match val x with | some v => (nextG v str h).run | none => none)
noncomputable def lx_entry (x : Operand) : LX reg.T := fun val h => (match val x with | some v => (entryG v h).run | none => none)
noncomputable def lx_extract (x : Operand) (n : Nat) : LX reg.T := fun val h => (match val x with | some (.tup vs) => liftC vs[n]? h | _ => none)
noncomputable def lxFn (hc : HdC reg.T) (v : Option (V reg.T)) (vs : List (V reg.T)) (h : Hp reg.T) : Option (V reg.T × Hp reg.T) := match v with | some (.fn f cs fs) => hc f (fs ++ vs ++ cs) h | _ => none
noncomputable def lxVal (hc : HdC reg.T) (o : Operand) (vs : Option (List (V reg.T))) : LX reg.T := fun val h => match vs with | some vs => lxFn hc (val o) vs h | none => none
noncomputable def lxBuiltin (b : Builtin) (ts : Array TypeId) (vs : Option (List (V reg.T))) (h : Hp reg.T) : Option (V reg.T × Hp reg.T) := match vs with | some vs => (builtinG P b ts.toList vs h).run | none => none
noncomputable def lx_call (hc : HdC reg.T) (c : Call) : LX reg.T := fun val h =>
  Callee.rec (motive := fun _ => Option (V reg.T × Hp reg.T)) (fun o => lxVal hc o (allSome (c.args.toList.map val)) val h) (fun _ _ => none) (fun b => lxBuiltin P b c.argTypes (allSome (c.args.toList.map val)) h) c.callee
/-- One operation. -/
noncomputable def lexecF (hc : HdC reg.T) (op : Op) : LX reg.T :=
  Op.rec (motive := fun _ => LX reg.T)
    (fun x => lx_move x)
    (fun x => lx_assign x)
    (fun c a b => lx_pick c a b)
    (fun t => lx_alloc P t)
    (fun t x => lx_box P t x)
    (fun t parts => lx_build P t parts)
    (fun t len parts => lx_buildSlice P t len parts)
    (fun t m k x => lx_insert P t m k x)
    (fun t x => lx_load P t x)
    (fun t x y => lx_store P t x y)
    (fun _ => lxBad)
    (fun _ => lxBad)
    (fun x => lx_nilCheck x)
    (fun op t x y _u => lx_binOp P op t x y _u)
    (fun op _t x => lx_unOp op _t x)
    (fun src dst x => lx_convert P src dst x)
    (fun _ _ => lxBad)
    (fun _ _ => lxBad)
    (fun fn first caps => lx_makeFunc fn first caps)
    (fun t r => lx_makeMap P t r)
    (fun _ _ => lxBad)
    (fun t l c => lx_makeSlice P t l c)
    (fun t x lo hi mx => lx_slice P t x lo hi mx)
    (fun s x f => lx_fieldAddr P s x f)
    (fun t x f => lx_field P t x f)
    (fun t x i => lx_indexAddr P t x i)
    (fun t x i => lx_index P t x i)
    (fun t x k ok => lx_lookup P t x k ok)
    (fun t m k x => lx_mapUpdate P t m k x)
    (fun t m k => lx_mapEntry P t m k)
    (fun _t m n x => lx_entryStore _t m n x)
    (fun t x => lx_range P t x)
    (fun x str => lx_next x str)
    (fun x => lx_entry x)
    (fun _ _ _ _ => lxBad)
    (fun x n => lx_extract x n)
    (fun c => lx_call P hc c)
    (fun _ => lxBad)
    (fun _ => lxBad)
    (fun _ => lxBad)
    (fun _ _ => lxBad)
    (fun _ _ _ => lxBad)
    (fun _ _ => lxBad)
    op

theorem lexecF_eq (hc : HdC reg.T) (op : Op) (val : Operand → Option (V reg.T)) (h : Hp reg.T) : lexecF P hc op val h = lexecC P hc op val h := by
  cases op with
  | call c =>
    obtain ⟨callee, args, ts⟩ := c
    cases callee with
    | value o =>
      show lxVal hc o (allSome (args.toList.map val)) val h = _
      simp only [lexecC, lxVal, lxFn]
      generalize allSome (args.toList.map val) = vs
      cases vs with
      | none => rfl
      | some vs =>
        generalize val o = v
        cases v with
        | none => rfl
        | some v => cases v <;> rfl
    | invoke x m =>
      show none = _
      simp only [lexecC, lexec]
      generalize allSome (args.toList.map val) = vs
      cases vs <;> rfl
    | builtin b =>
      show lxBuiltin P b ts (allSome (args.toList.map val)) h = _
      simp only [lexecC, lexec, lxBuiltin]
      generalize allSome (args.toList.map val) = vs
      cases vs <;> rfl
  | makeFunc fn a b =>
    cases fn with
    | func f =>
      show (match allSome (a.toList.map val), allSome (b.toList.map val) with | some fs, some cs => some ((.fn f cs fs : V reg.T), h) | _, _ => none) = _
      simp only [lexecC, lexec]
      generalize allSome (a.toList.map val) = x
      generalize allSome (b.toList.map val) = y
      cases x <;> cases y <;> rfl
    | _ => rfl
  | move x => exact liftC_eq _ _
  | assign x => exact liftC_eq _ _
  | pick c a b =>
    show (match val c with | some (.d (.bool t)) => Bool.rec (motive := fun _ => Option (V reg.T × Hp reg.T)) (liftC (val b) h) (liftC (val a) h) t | _ => none) = _
    simp only [lexecC, lexec, liftC_eq]
    generalize val c = v
    cases v with
    | none => rfl
    | some v =>
      cases v with
      | d x =>
        cases x with
        | bool t => cases t <;> rfl
        | _ => rfl
      | _ => rfl
  | alloc t => show (match zeroT P t with | some vs => (newO h (.rows vs.length [vs]) (.ptr h.nx 0 0)).run | none => none) = _; simp only [lexecC, lexec]; generalize zeroT P t = z; cases z <;> rfl
  | box t x =>
    show (match val x with | some v => (match v.cells.all V.solid, Nat.beq v.cells.length (P.cellsOf t) with | true, true => (newO h (.rows v.cells.length [v.cells]) (.ptr h.nx 0 0)).run | _, _ => none) | none => none) = _
    simp only [lexecC, lexec]
    generalize val x = v
    cases v with
    | none => rfl
    | some v =>
      simp only
      generalize v.cells.all V.solid = p
      generalize Nat.beq v.cells.length (P.cellsOf t) = q
      cases p <;> cases q <;> rfl
  | build t parts => exact liftC_eq _ _
  | insert t m k x => show (match val m, val k, val x with | some m, some k, some x => (mapUpdateG P t m k x h).run | _, _, _ => none) = _; simp only [lexecC, lexec]; generalize val m = a; generalize val k = b; generalize val x = c; cases a <;> cases b <;> cases c <;> rfl
  | nilCheck x =>
    show (match val x with | some (.ptr i r o) => some ((.ptr i r o : V reg.T), h) | some (.fp row o) => some ((.fp row o : V reg.T), h) | some (.fn f cs fs) => some ((.fn f cs fs : V reg.T), h) | _ => none) = _
    simp only [lexecC, lexec]
    generalize val x = v
    cases v with
    | none => rfl
    | some v => cases v <;> rfl
  | binOp op t x y u =>
    show binC P op t (isLit x || isLit y) (isNilS y) (val x) (val y) h = _
    simp only [lexecC, lexec]
    generalize val x = a
    generalize val y = b
    cases a with
    | none => rfl
    | some a =>
      cases b with
      | none => cases a <;> rfl
      | some b => cases a <;> cases b <;> first | exact bin2C_eq P _ _ _ _ _ _ _ | rfl
  | unOp op t x => show (match val x with | some v => (outD (unD op v) h).run | none => none) = _; simp only [lexecC, lexec]; generalize val x = v; cases v <;> rfl
  | convert s d x => show (match val x with | some v => (convertG P s d v h).run | none => none) = _; simp only [lexecC, lexec]; generalize val x = v; cases v <;> rfl
  | makeMap t r =>
    show (match r with | none => (makeMapG P t h).run | some o => (match val o with | some (.d (.int _ _)) => (makeMapG P t h).run | _ => none)) = _
    simp only [lexecC, lexec]
    cases r with
    | none => rfl
    | some o =>
      simp only
      generalize val o = v
      cases v with
      | none => rfl
      | some v =>
        cases v with
        | d x => cases x <;> rfl
        | _ => rfl
  | makeSlice t l c => show (match val l, val c with | some a, some b => (makeSliceG P t a b h).run | _, _ => none) = _; simp only [lexecC, lexec]; generalize val l = a; generalize val c = b; cases a <;> cases b <;> rfl
  | slice t x lo hi mx => show (match val x with | some v => (sliceG P t v (lo.map val) (hi.map val) (mx.map val) h).run | none => none) = _; simp only [lexecC, lexec]; generalize val x = v; cases v <;> rfl
  | fieldAddr s x f =>
    show fieldAddrC (fieldAt P s f) (val x) h = _
    simp only [lexecC, lexec, fieldAt]
    cases P.underlying s with
    | none => rfl
    | some u =>
      cases u <;> try rfl
      rename_i fs
      simp only
      cases fs[f]? with
      | none => rfl
      | some fl =>
        simp only
        cases P.cellsOf fl.type with
        | zero => rfl
        | succ n =>
          simp only [fieldAddrC]
          generalize val x = v
          cases v with
          | none => rfl
          | some v => cases v <;> rfl
  | field t x f => show (match val x with | some v => (fieldG P t v f h).run | none => none) = _; simp only [lexecC, lexec]; generalize val x = v; cases v <;> rfl
  | indexAddr t x i => show (match val x, val i with | some a, some b => (indexAddrG P t a b h).run | _, _ => none) = _; simp only [lexecC, lexec]; generalize val x = a; generalize val i = b; cases a <;> cases b <;> rfl
  | index t x i => show (match val x, val i with | some a, some b => (indexG P t a b h).run | _, _ => none) = _; simp only [lexecC, lexec]; generalize val x = a; generalize val i = b; cases a <;> cases b <;> rfl
  | lookup t x k ok => show (match val x, val k with | some x, some k => (lookupG P t x k ok h).run | _, _ => none) = _; simp only [lexecC, lexec]; generalize val x = a; generalize val k = b; cases a <;> cases b <;> rfl
  | mapUpdate t m k x => show (match val m, val k, val x with | some m, some k, some x => (mapUpdateG P t m k x h).run | _, _, _ => none) = _; simp only [lexecC, lexec]; generalize val m = a; generalize val k = b; generalize val x = c; cases a <;> cases b <;> cases c <;> rfl
  | mapEntry t m k => show (match val m, val k with | some a, some b => (mapEntryG P t a b h).run | _, _ => none) = _; simp only [lexecC, lexec]; generalize val m = a; generalize val k = b; cases a <;> cases b <;> rfl
  | entryStore t m n x => show (match val m, val n, val x with | some m, some n, some x => (entryStoreG m n x h).run | _, _, _ => none) = _; simp only [lexecC, lexec]; generalize val m = a; generalize val n = b; generalize val x = c; cases a <;> cases b <;> cases c <;> rfl
  | range t x => show (match val x with | some v => (rangeG P t v h).run | none => none) = _; simp only [lexecC, lexec]; generalize val x = v; cases v <;> rfl
  | next x s => show (match val x with | some v => (nextG v s h).run | none => none) = _; simp only [lexecC, lexec]; generalize val x = v; cases v <;> rfl
  | entry x => show (match val x with | some v => (entryG v h).run | none => none) = _; simp only [lexecC, lexec]; generalize val x = v; cases v <;> rfl
  | extract x n =>
    show (match val x with | some (.tup vs) => liftC vs[n]? h | _ => none) = _
    simp only [lexecC, lexec, liftC_eq]
    generalize val x = v
    cases v with
    | none => rfl
    | some v => cases v <;> rfl
  | _ => rfl

/-! ### Regions -/
noncomputable def putF (dst : Option Nat) (k : Tr (V reg.T) → Hp reg.T → RC reg.T) (env : Tr (V reg.T)) (hp : Hp reg.T) (v : V reg.T) (h : Hp reg.T) : RC reg.T :=
  Bool.rec (motive := fun _ => RC reg.T) .fail (k (putC env dst v) h) (Nat.ble hp.nx h.nx)
noncomputable def stepF (hc : HdC reg.T) (o : Oper) (k : Tr (V reg.T) → Hp reg.T → RC reg.T) (env : Tr (V reg.T)) (hp : Hp reg.T) : RC reg.T :=
  Option.rec (motive := fun _ => RC reg.T) .fail (fun r => Prod.rec (motive := fun _ => RC reg.T) (putF o.dst k env hp) r) (lexecF P hc o.op (valC env) hp)
noncomputable def guardF {α : Type} (ops : Array Oper) (g : Nat × Bool) (env : Tr (V reg.T)) (run skip bad : α) : α :=
  match (ops[g.1]?).bind (·.dst) with
  | none => bad
  | some d => (match env.getC d with
    | some (.d (.bool b)) => Bool.rec (motive := fun _ => α) skip run (Bool.rec (motive := fun _ => Bool) (!b) b g.2)
    | some .undef => skip
    | _ => bad)
noncomputable def opF (hc : HdC reg.T) (ops : Array Oper) (o : Oper) (k : Tr (V reg.T) → Hp reg.T → RC reg.T) (env : Tr (V reg.T)) (hp : Hp reg.T) : RC reg.T :=
  Option.rec (motive := fun _ => RC reg.T) (stepF P hc o k env hp) (fun g => guardF ops g env (stepF P hc o k env hp) (k (putC env o.dst .undef) hp) .fail) o.guard
noncomputable def exOpsF (hc : HdC reg.T) (ops : Array Oper) (l : List Oper) : Tr (V reg.T) → Hp reg.T → RC reg.T :=
  List.rec (motive := fun _ => Tr (V reg.T) → Hp reg.T → RC reg.T) (fun env hp => .go .normal env hp) (fun o _ ih => opF P hc ops o ih) l

theorem stepF_eq (hc : HdC reg.T) (o : Oper) (k : Tr (V reg.T) → Hp reg.T → RC reg.T) (env : Tr (V reg.T)) (hp : Hp reg.T) : stepF P hc o k env hp = (match lexecC P hc o.op (valC env) hp with
    | some (v, h) => (match Nat.ble hp.nx h.nx with | true => k (putC env o.dst v) h | false => .fail)
    | none => .fail) := by
  unfold stepF
  rw [lexecF_eq]
  cases lexecC P hc o.op (valC env) hp with
  | none => rfl
  | some r =>
    obtain ⟨v, h⟩ := r
    show putF o.dst k env hp v h = _
    unfold putF
    simp only
    cases Nat.ble hp.nx h.nx <;> rfl
theorem exOpsF_eq (hc : HdC reg.T) (ops : Array Oper) : ∀ (l : List Oper) (env : Tr (V reg.T)) (hp : Hp reg.T), exOpsF P hc ops l env hp = exOpsC P hc ops l env hp
  | [], _, _ => rfl
  | o :: rest, env, hp => by
    have ih : exOpsF P hc ops rest = exOpsC P hc ops rest := by funext env hp; exact exOpsF_eq hc ops rest env hp
    show opF P hc ops o (exOpsF P hc ops rest) env hp = (match o.guard with
      | none => (match lexecC P hc o.op (valC env) hp with
        | some (v, h) => (match Nat.ble hp.nx h.nx with | true => exOpsC P hc ops rest (putC env o.dst v) h | false => .fail)
        | none => .fail)
      | some (j, want) => (match (ops[j]?).bind (·.dst) with
        | none => .fail
        | some d => (match env.getC d with
          | some (.d (.bool b)) => (match Bool.rec (motive := fun _ => Bool) (!b) b want with
            | true => (match lexecC P hc o.op (valC env) hp with
              | some (v, h) => (match Nat.ble hp.nx h.nx with | true => exOpsC P hc ops rest (putC env o.dst v) h | false => .fail)
              | none => .fail)
            | false => exOpsC P hc ops rest (putC env o.dst .undef) hp)
          | some .undef => exOpsC P hc ops rest (putC env o.dst .undef) hp
          | _ => .fail)))
    rw [ih]
    unfold opF
    rw [stepF_eq]
    cases o.guard with
    | none => rfl
    | some g =>
      obtain ⟨j, want⟩ := g
      simp only [guardF]
      split
      · rfl
      · split
        · rename_i b _
          cases b <;> cases want <;> rfl
        · rfl
        · rfl

noncomputable def joinF {α : Type} (hp h : Hp reg.T) (l : List Nat) (n : Nat) (tr : List Foot) (k : Hp reg.T → List Foot → α) : α :=
  match h.wr with
  | [] => (match Nat.beq h.nx hp.nx with
    | true => k hp (⟨n, l, [], hp.nx, hp.nx⟩ :: tr)
    | false => k (hp.join h (h.wr ++ List.range' hp.nx (h.nx - hp.nx))) (⟨n, l, h.wr ++ List.range' hp.nx (h.nx - hp.nx), hp.nx, h.nx⟩ :: tr))
  | _ :: _ => k (hp.join h (h.wr ++ List.range' hp.nx (h.nx - hp.nx))) (⟨n, l, h.wr ++ List.range' hp.nx (h.nx - hp.nx), hp.nx, h.nx⟩ :: tr)
theorem joinF_eq {α : Type} (hp h : Hp reg.T) (l : List Nat) (n : Nat) (tr : List Foot) (k : Hp reg.T → List Foot → α) : joinF hp h l n tr k = k (hp.join h (h.wr ++ List.range' hp.nx (h.nx - hp.nx))) (⟨n, l, h.wr ++ List.range' hp.nx (h.nx - hp.nx), hp.nx, h.nx⟩ :: tr) := by
  unfold joinF
  split
  · rename_i hw
    split
    · rename_i hn
      replace hn := Nat.eq_of_beq_eq_true hn
      obtain ⟨t, nx, wr⟩ := h
      obtain ⟨t0, nx0, wr0⟩ := hp
      simp only at hw hn
      subst hw
      subst hn
      simp [Hp.join]
    · rfl
  · rfl
noncomputable def drawF (hc : HdC reg.T) (o : Oper) (k : Nat → Tr (V reg.T) → Hp reg.T → List Foot → Option ((Tr (V reg.T) × Hp reg.T) × List Foot)) (n : Nat) (env : Tr (V reg.T)) (hp : Hp reg.T) (tr : List Foot) (l : List Nat) : Option ((Tr (V reg.T) × Hp reg.T) × List Foot) :=
  match lexecF P hc o.op (valC env) (partH hp.get hp.nx l) with
  | some (v, h) => (match okPart l h.wr hp.nx h.nx with
    | true => joinF hp h l n tr (k (n + 1) (putC env o.dst v))
    | false => none)
  | none => none
noncomputable def opDF (hc : HdC reg.T) (ops : Array Oper) (o : Oper) (k : Nat → Tr (V reg.T) → Hp reg.T → List Foot → Option ((Tr (V reg.T) × Hp reg.T) × List Foot)) (n : Nat) (env : Tr (V reg.T)) (hp : Hp reg.T) (tr : List Foot) : Option ((Tr (V reg.T) × Hp reg.T) × List Foot) :=
  Option.rec (motive := fun _ => Option ((Tr (V reg.T) × Hp reg.T) × List Foot)) (drawF P hc o k n env hp tr (lookAt o.op (valC env) hp.get))
    (fun g => guardF ops g env (drawF P hc o k n env hp tr (lookAt o.op (valC env) hp.get)) (k (n + 1) (putC env o.dst .undef) hp (⟨n, [], [], hp.nx, hp.nx⟩ :: tr)) none) o.guard
noncomputable def exOpsDF (hc : HdC reg.T) (ops : Array Oper) (l : List Oper) : Nat → Tr (V reg.T) → Hp reg.T → List Foot → Option ((Tr (V reg.T) × Hp reg.T) × List Foot) :=
  List.rec (motive := fun _ => Nat → Tr (V reg.T) → Hp reg.T → List Foot → Option ((Tr (V reg.T) × Hp reg.T) × List Foot)) (fun _ env hp tr => some ((env, hp), tr)) (fun o _ ih => opDF P hc ops o ih) l
theorem exOpsDF_eq (hc : HdC reg.T) (ops : Array Oper) : ∀ (l : List Oper) (n : Nat) (env : Tr (V reg.T)) (hp : Hp reg.T) (tr : List Foot), exOpsDF P hc ops l n env hp tr = exOpsDC P hc ops l n env hp tr
  | [], _, _, _, _ => rfl
  | o :: rest, n, env, hp, tr => by
    have ih : exOpsDF P hc ops rest = exOpsDC P hc ops rest := by funext n env hp tr; exact exOpsDF_eq hc ops rest n env hp tr
    show opDF P hc ops o (exOpsDF P hc ops rest) n env hp tr = (match o.guard with
      | none => (match lexecC P hc o.op (valC env) (partH hp.get hp.nx (lookAt o.op (valC env) hp.get)) with
        | some (v, h) => (match okPart (lookAt o.op (valC env) hp.get) h.wr hp.nx h.nx with
          | true => exOpsDC P hc ops rest (n + 1) (putC env o.dst v) (hp.join h (h.wr ++ List.range' hp.nx (h.nx - hp.nx))) (⟨n, lookAt o.op (valC env) hp.get, h.wr ++ List.range' hp.nx (h.nx - hp.nx), hp.nx, h.nx⟩ :: tr)
          | false => none)
        | none => none)
      | some (j, want) => (match (ops[j]?).bind (·.dst) with
        | none => none
        | some d => (match env.getC d with
          | some (.d (.bool b)) => (match Bool.rec (motive := fun _ => Bool) (!b) b want with
            | true => (match lexecC P hc o.op (valC env) (partH hp.get hp.nx (lookAt o.op (valC env) hp.get)) with
              | some (v, h) => (match okPart (lookAt o.op (valC env) hp.get) h.wr hp.nx h.nx with
                | true => exOpsDC P hc ops rest (n + 1) (putC env o.dst v) (hp.join h (h.wr ++ List.range' hp.nx (h.nx - hp.nx))) (⟨n, lookAt o.op (valC env) hp.get, h.wr ++ List.range' hp.nx (h.nx - hp.nx), hp.nx, h.nx⟩ :: tr)
                | false => none)
              | none => none)
            | false => exOpsDC P hc ops rest (n + 1) (putC env o.dst .undef) hp (⟨n, [], [], hp.nx, hp.nx⟩ :: tr))
          | some .undef => exOpsDC P hc ops rest (n + 1) (putC env o.dst .undef) hp (⟨n, [], [], hp.nx, hp.nx⟩ :: tr)
          | _ => none)))
    rw [ih]
    unfold opDF drawF
    simp only [joinF_eq]
    rw [lexecF_eq]
    cases o.guard with
    | none => rfl
    | some g =>
      obtain ⟨j, want⟩ := g
      simp only [guardF]
      split
      · rfl
      · split
        · rename_i b _
          cases b <;> cases want <;> rfl
        · rfl
        · rfl

noncomputable def endDF (ops : Array Oper) (x : Option ((Tr (V reg.T) × Hp reg.T) × List Foot)) : RC reg.T :=
  match x with
  | some ((env, hp), tr) => (match okTraceF ops tr with | true => .go .normal env hp | false => .fail)
  | none => .fail
noncomputable def regF (hc : HdC reg.T) (nt : Nat) (ops : Array Oper) (draw : Bool) (env : Tr (V reg.T)) (hp : Hp reg.T) : RC reg.T :=
  Bool.rec (motive := fun _ => RC reg.T) .fail (Bool.rec (motive := fun _ => RC reg.T) (exOpsF P hc ops ops.toList env hp) (endDF ops (exOpsDF P hc ops ops.toList 0 env hp [])) draw) (dstAll nt ops.toList)
theorem regF_eq (hc : HdC reg.T) (nt : Nat) (ops : Array Oper) (draw : Bool) (env : Tr (V reg.T)) (hp : Hp reg.T) : regF P hc nt ops draw env hp = exRegC P hc nt ops draw env hp := by
  unfold regF exRegC
  rw [exOpsF_eq, exOpsDF_eq]
  cases dstAll nt ops.toList with
  | false => rfl
  | true =>
    cases draw with
    | false => rfl
    | true =>
      simp only [endDF]
      generalize exOpsDC P hc ops ops.toList 0 env hp [] = x
      cases x with
      | none => rfl
      | some x =>
        obtain ⟨⟨en, g⟩, tr⟩ := x
        simp only
        cases okTraceF ops tr <;> rfl

/-! ### Code -/
noncomputable def seqF (a b : Tr (V reg.T) → Hp reg.T → RC reg.T) (env : Tr (V reg.T)) (hp : Hp reg.T) : RC reg.T :=
  RC.rec (motive := fun _ => RC reg.T) .fail (fun k env hp => AExit.rec (motive := fun _ => RC reg.T) (b env hp) (fun id => .go (.exit id) env hp) (.go .ret env hp) k) (a env hp)
noncomputable def condF (c : Operand) (a b : Tr (V reg.T) → Hp reg.T → RC reg.T) (env : Tr (V reg.T)) (hp : Hp reg.T) : RC reg.T :=
  match valC env c with
  | some (.d (.bool v)) => Bool.rec (motive := fun _ => RC reg.T) (b env hp) (a env hp) v
  | _ => .fail
noncomputable def blockF (id : Nat) (a : Tr (V reg.T) → Hp reg.T → RC reg.T) (env : Tr (V reg.T)) (hp : Hp reg.T) : RC reg.T :=
  RC.rec (motive := fun _ => RC reg.T) .fail (fun k env hp => AExit.rec (motive := fun _ => RC reg.T) (.go .normal env hp) (fun j => Bool.rec (motive := fun _ => RC reg.T) (.go (.exit j) env hp) (.go .normal env hp) (Nat.beq j id)) (.go .ret env hp) k) (a env hp)
noncomputable def roundF (a k : Tr (V reg.T) → Hp reg.T → RC reg.T) (env : Tr (V reg.T)) (hp : Hp reg.T) : RC reg.T :=
  RC.rec (motive := fun _ => RC reg.T) .fail (fun e env hp => AExit.rec (motive := fun _ => RC reg.T) (k env hp) (fun id => .go (.exit id) env hp) (.go .ret env hp) e) (a env hp)
noncomputable def loopF (a : Tr (V reg.T) → Hp reg.T → RC reg.T) (n : Nat) : Tr (V reg.T) → Hp reg.T → RC reg.T :=
  Nat.rec (motive := fun _ => Tr (V reg.T) → Hp reg.T → RC reg.T) (fun _ _ => .fail) (fun _ ih => roundF a ih) n
theorem loopF_eq (a : Tr (V reg.T) → Hp reg.T → RC reg.T) : ∀ (n : Nat) (env : Tr (V reg.T)) (hp : Hp reg.T), loopF a n env hp = loopC a n env hp
  | 0, _, _ => rfl
  | n + 1, env, hp => by
    have ih : loopF a n = loopC a n := by funext env hp; exact loopF_eq a n env hp
    show roundF a (loopF a n) env hp = _
    rw [ih]
    simp only [roundF, loopC]
    cases a env hp with
    | fail => rfl
    | go k env hp => cases k <;> rfl
noncomputable def exF (hc : HdC reg.T) (nt fuel : Nat) (c : Code) : Tr (V reg.T) → Hp reg.T → RC reg.T :=
  Code.rec (motive := fun _ => Tr (V reg.T) → Hp reg.T → RC reg.T) (fun env hp => .go .normal env hp) (fun _ ops draw => regF P hc nt ops draw) (fun _ _ a b => seqF a b) (fun c _ _ a b => condF c a b) (fun id _ a => blockF id a) (fun _ a => loopF a fuel)
    (fun _ _ _ _ _ _ _ _ => .fail) (fun id env hp => .go (.exit id) env hp) (fun _ a => a) (fun _ env hp => .go .normal env hp) (fun _ _ _ => .fail) (fun env hp => .go .ret env hp) (fun _ _ _ => .fail) c
theorem exF_eq (hc : HdC reg.T) (nt fuel : Nat) (c : Code) : exF P hc nt fuel c = exC P hc nt fuel c := by
  induction c with
  | skip => rfl
  | region id ops draw => funext env hp; exact (regF_eq P hc nt ops draw env hp).trans (by simp only [exC])
  | seq a b iha ihb =>
    funext env hp
    show seqF (exF P hc nt fuel a) (exF P hc nt fuel b) env hp = _
    rw [iha, ihb]
    simp only [seqF, exC]
    cases exC P hc nt fuel a env hp with
    | fail => rfl
    | go k env hp => cases k <;> rfl
  | cond c a b iha ihb =>
    funext env hp
    show condF c (exF P hc nt fuel a) (exF P hc nt fuel b) env hp = _
    rw [iha, ihb]
    simp only [condF, exC]
    cases c with
    | tmp t =>
      simp only [valC]
      split
      · rename_i v hv; simp only [hv]; cases v <;> rfl
      · rename_i hne
        split
        · rename_i v hv; exact (hne v hv).elim
        · rfl
    | const v =>
      cases v with
      | bool v => cases v <;> rfl
      | pointer a => cases a <;> rfl
      | map a => cases a <;> rfl
      | slice a l c =>
        cases a with
        | some a => rfl
        | none =>
          cases l with
          | succ l => rfl
          | zero => cases c <;> rfl
      | _ => rfl
    | global g => rfl
    | func f => rfl
  | block id c ih =>
    funext env hp
    show blockF id (exF P hc nt fuel c) env hp = _
    rw [ih]
    simp only [blockF, exC]
    cases exC P hc nt fuel c env hp with
    | fail => rfl
    | go k env hp =>
      cases k with
      | normal => rfl
      | exit j => simp only; cases Nat.beq j id <;> rfl
      | ret => rfl
  | loop c ih =>
    funext env hp
    show loopF (exF P hc nt fuel c) fuel env hp = _
    rw [ih, loopF_eq]
    simp only [exC]
  | exit id => rfl
  | ret => rfl
  | scope c ih => funext env hp; show exF P hc nt fuel c env hp = _; rw [ih]; simp only [exC]
  | label l => rfl
  | rangeFunc f ps c1 c2 _ _ => rfl
  | goto l => rfl
  | refuse s => rfl

/-! ### Functions -/
noncomputable def retF (fn : Func) (x : RC reg.T) : Option (V reg.T × Hp reg.T) :=
  RC.rec (motive := fun _ => Option (V reg.T × Hp reg.T)) none (fun k env hp => AExit.rec (motive := fun _ => Option (V reg.T × Hp reg.T)) (liftC (retV P fn ⟨env, hp⟩) hp) (fun _ => none) (liftC (retV P fn ⟨env, hp⟩) hp) k) x
noncomputable def runF (hc : HdC reg.T) (fuel : Nat) (fn : Func) (c : Code) (args : List (V reg.T)) (h : Hp reg.T) : Option (V reg.T × Hp reg.T) :=
  Bool.rec (motive := fun _ => Option (V reg.T × Hp reg.T)) none (retF P fn (exF P hc fn.ntmps fuel c (initEnvC args 0 .e) h)) (Nat.ble args.length fn.ntmps && Nat.ble fn.ntmps 1000000)
noncomputable def bodyF (hc : HdC reg.T) (fuel : Nat) (fn : Func) (args : List (V reg.T)) (h : Hp reg.T) : Option (V reg.T × Hp reg.T) :=
  Option.rec (motive := fun _ => Option (V reg.T × Hp reg.T)) none (fun c => runF P hc fuel fn c args h) fn.body
noncomputable def exFunF (hc : HdC reg.T) (fuel : Nat) (f : FuncId) (args : List (V reg.T)) (h : Hp reg.T) : Option (V reg.T × Hp reg.T) :=
  Option.rec (motive := fun _ => Option (V reg.T × Hp reg.T)) none (fun fn => bodyF P hc fuel fn args h) (P.funcs[f]?)
theorem exFunF_eq (hc : HdC reg.T) (fuel : Nat) (f : FuncId) (args : List (V reg.T)) (h : Hp reg.T) : exFunF P hc fuel f args h = exFunC P hc fuel f args h := by
  unfold exFunF exFunC
  cases P.funcs[f]? with
  | none => rfl
  | some fn =>
    show bodyF P hc fuel fn args h = _
    unfold bodyF
    simp only
    cases fn.body with
    | none => rfl
    | some c =>
      show runF P hc fuel fn c args h = _
      unfold runF
      rw [exF_eq]
      simp only
      cases (Nat.ble args.length fn.ntmps && Nat.ble fn.ntmps 1000000) with
      | false => rfl
      | true =>
        show retF P fn (exC P hc fn.ntmps fuel c (initEnvC args 0 .e) h) = _
        unfold retF
        simp only
        cases exC P hc fn.ntmps fuel c (initEnvC args 0 .e) h with
        | fail => rfl
        | go k env hp =>
          cases k with
          | normal => show liftC (retV P fn ⟨env, hp⟩) hp = (match retV P fn ⟨env, hp⟩ with | some v => some (v, hp) | none => none); cases retV P fn ⟨env, hp⟩ <;> rfl
          | exit id => rfl
          | ret => show liftC (retV P fn ⟨env, hp⟩) hp = (match retV P fn ⟨env, hp⟩ with | some v => some (v, hp) | none => none); cases retV P fn ⟨env, hp⟩ <;> rfl
noncomputable def conF (S : List (V reg.T) → Hp reg.T → Out (V reg.T × Hp reg.T)) (args : List (V reg.T)) (h : Hp reg.T) : Option (V reg.T × Hp reg.T) := (S args h).run
noncomputable def callF (C : Con reg.T) (fuel : Nat) (hc : HdC reg.T) (f : FuncId) (args : List (V reg.T)) (h : Hp reg.T) : Option (V reg.T × Hp reg.T) :=
  Option.rec (motive := fun _ => Option (V reg.T × Hp reg.T)) (exFunF P hc fuel f args h) (fun S => conF S args h) (C f)
noncomputable def hdF (C : Con reg.T) (fuel : Nat) (n : Nat) : HdC reg.T :=
  Nat.rec (motive := fun _ => HdC reg.T) (fun f args h => Option.rec (motive := fun _ => Option (V reg.T × Hp reg.T)) none (fun S => conF S args h) (C f)) (fun _ ih => callF P C fuel ih) n
theorem hdF_eq (C : Con reg.T) (fuel : Nat) : ∀ n, hdF P C fuel n = hdC P C fuel n
  | 0 => by
    funext f args h
    show Option.rec (motive := fun _ => Option (V reg.T × Hp reg.T)) none (fun S => conF S args h) (C f) = (match C f with | some S => (S args h).run | none => none)
    cases C f <;> rfl
  | n + 1 => by
    funext f args h
    show callF P C fuel (hdF P C fuel n) f args h = (match C f with | some S => (S args h).run | none => exFunC P (hdC P C fuel n) fuel f args h)
    rw [hdF_eq C fuel n]
    unfold callF
    rw [exFunF_eq]
    cases C f <;> rfl
/-- A closed run says what is so. -/
theorem exFunF_K {C : Con reg.T} {fuel n : Nat} {f : FuncId} {args : List (V reg.T)} {h : Hp reg.T} {r : V reg.T × Hp reg.T} (he : exFunF P (hdF P C fuel n) fuel f args h = some r) {Q : V reg.T × Hp reg.T → Prop} (hq : Q r) : (exFun P (hdN P C fuel n) fuel f args h).K Q := by
  rw [exFunF_eq, hdF_eq] at he
  exact Out.run_K (exFunC_run P (hdC_rel P C fuel n) he) hq

/-- Calls: by contract; some by what the evaluator of all ways says; the rest is closed. -/
noncomputable def hdS (C : Con reg.T) (sym : FuncId → Bool) (fuel depth : Nat) : Nat → Hd reg.T
  | 0 => fun f args h => (match C f with | some S => S args h | none => .bad)
  | n + 1 => fun f args h => (match C f with
    | some S => S args h
    | none => (match sym f with | true => exFun P (hdS C sym fuel depth n) fuel f args h | false => Out.ofO (exFunF P (hdF P C fuel depth) fuel f args h)))
theorem hdS_sound {P : Program} (hm : P.follows .mixedOrders = true) (hno : ∀ (f : FuncId) fn, P.funcs[f]? = some fn → fn.body.isNone = false → (fn.name == "runtime.NumGoroutine") = false) {C : Con reg.T} (hC : ConOk P C) (sym : FuncId → Bool) (fuel depth : Nat) :
    ∀ n, HdSound P (hdS P C sym fuel depth n)
  | 0 => by
    intro f args h Q hq
    simp only [hdS] at hq
    split at hq
    · rename_i S hS; exact hC f S hS args h Q hq
    · exact hq.elim
  | n + 1 => by
    intro f args h Q hq
    simp only [hdS] at hq
    split at hq
    · rename_i S hS; exact hC f S hS args h Q hq
    · split at hq
      · exact exFun_sound hm (hdS_sound hm hno hC sym fuel depth n) hno fuel f args h Q hq
      · obtain ⟨r, h1, h2⟩ := Out.K_ofO.1 hq
        exact exFun_sound hm (hdN_sound hm hno hC fuel depth) hno fuel f args h Q (exFunF_K P h1 h2)
end
end Go.W
