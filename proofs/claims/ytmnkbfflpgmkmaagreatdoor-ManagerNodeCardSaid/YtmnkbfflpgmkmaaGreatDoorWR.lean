/- What abstract values and heaps say of the machine's. No conditions. -/
import Derived.Test.YtmnkbfflpgmkmaaGreatDoorWE
import Derived.Orders
namespace Go.W
open Go Go.RowKit

/-- A block whose known cells may be written. -/
def free (C : Array Value) (fz : Nat × Nat) : Prop := fz.2 = fz.1 ∨ C.size ≤ fz.1

section
variable (reg : Reg)

inductive DRel (F : Nat → Prop) (w : World) : D reg.T → Value → Prop
  | bool (b : Bool) : DRel F w (.bool b) (.bool b)
  | int (k : IntKind) (n : Int) : DRel F w (.int k n) (.int k n)
  | str (s : List UInt8) : DRel F w (.str s) (.string ⟨s.toArray⟩)
  | nilp : DRel F w .nilp (.pointer none)
  | nilm : DRel F w .nilm (.map none)
  | nilf : DRel F w .nilf .nilFunc
  | nili : DRel F w .nili .nilIface
  | nils : DRel F w .nils (.slice none 0 0)
  | emp (x : D reg.T) (hx : x.isSl = true) (hl : x.len? reg = some 0) (base : Option Addr) (cap : Nat) : DRel F w x (.slice base 0 cap)
  | sl (x : D reg.T) (n : Nat) (a : Addr) (cap : Nat) (C : Array Value) (t : TypeId) (fz : Nat × Nat) (hx : x.isSl = true) (hl : x.len? reg = some n)
      (hF : F a.block) (hb : w.heap[a.block]? = some (.cells C t fz)) (hs : a.spot = Option.none) (hc : n ≤ cap) (hm : n ≤ 9223372036854775807)
      (hz : a.off + n * x.k reg 0 ≤ C.size) (hk : ∀ r, r < n → (x.row reg r).length = x.k reg 0)
      (hr : ∀ r j, r < n → j < x.k reg 0 → DRel F w ((x.row reg r).getD j .nilp) (C.getD (a.off + r * x.k reg 0 + j) undef)) :
      DRel F w x (.slice (some a) n cap)

theorem DRel.mono {F F' : Nat → Prop} {w w' : World} (h : ∀ b, F b → F' b ∧ w'.heap[b]? = w.heap[b]?) {x : D reg.T} {v : Value} (hx : DRel reg F w x v) : DRel reg F' w' x v := by
  induction hx with
  | bool b => exact .bool b
  | int k n => exact .int k n
  | str s => exact .str s
  | nilp => exact .nilp
  | nilm => exact .nilm
  | nilf => exact .nilf
  | nili => exact .nili
  | nils => exact .nils
  | emp x hx hl b c => exact .emp x hx hl b c
  | sl x n a cap C t fz hx hl hF hb hs hc hm hz hk _ ih => exact .sl x n a cap C t fz hx hl (h _ hF).1 ((h _ hF).2.trans hb) hs hc hm hz hk ih

/-- Of each name: the block, where its rows begin, the cells of a row, the cells of the block. -/
abbrev Phi := Nat → Option (Nat × Nat × Nat × Nat)

def CapRel : Cap → Nat → Prop
  | .exact c, n => n = c
  | .least c, n => c ≤ n

inductive VRel (F : Nat → Prop) (w : World) (φ : Phi) : V reg.T → Value → Prop
  | d (x : D reg.T) (v : Value) (h : DRel reg F w x v) : VRel F w φ (.d x) v
  | ptr (i r o b s k z : Nat) (h : φ i = some (b, s, k, z)) : VRel F w φ (.ptr i r o) (.pointer (some ⟨b, s + r * k + o, Option.none⟩))
  | fp (row : List (D reg.T)) (o : Nat) (a : Addr) (C : Array Value) (t : TypeId) (fz : Nat × Nat) (hF : F a.block) (hb : w.heap[a.block]? = some (.cells C t fz))
      (hz : a.off + row.length ≤ C.size) (hr : ∀ j, j < row.length → DRel reg F w (row.getD j .nilp) (C.getD (a.off + j) undef)) :
      VRel F w φ (.fp row o) (.pointer (some ⟨a.block, a.off + o, Option.none⟩))
  | sl (i off len : Nat) (cap : Cap) (b s k z cap' : Nat) (h : φ i = some (b, s, k, z)) (hc : CapRel cap cap') (hl : len ≤ cap') (hm : cap' ≤ 9223372036854775807) (hz : s + off * k + cap' * k ≤ z) :
      VRel F w φ (.sl i off len cap) (.slice (some ⟨b, s + off * k, Option.none⟩) len cap')
  | slz (i off : Nat) (cap : Cap) (base : Option Addr) (hc : CapRel cap 0) (hb : base = none → cap.loose = true) : VRel F w φ (.sl i off 0 cap) (.slice base 0 0)
  | mp (i b : Nat) (s) (h : φ i = some (b, s)) : VRel F w φ (.mp i) (.map (some b))
  | it (i b : Nat) (s) (h : φ i = some (b, s)) : VRel F w φ (.it i) (.pointer (some ⟨b, 0, Option.none⟩))
  | fn (f : FuncId) (caps fst : List (V reg.T)) (cs fs : Array Value) (hz : caps.length = cs.size) (h : ∀ j, j < caps.length → VRel F w φ (caps.getD j .any) (cs.getD j undef))
      (hz' : fst.length = fs.size) (h' : ∀ j, j < fst.length → VRel F w φ (fst.getD j .any) (fs.getD j undef)) :
      VRel F w φ (.fn f caps fst) (.func (.func f) fs cs)
  | agg (vs : List (V reg.T)) (cs : Array Value) (hz : vs.length = cs.size) (h : ∀ j, j < vs.length → VRel F w φ (vs.getD j .any) (cs.getD j undef)) :
      VRel F w φ (.agg vs) (.agg cs)
  | tup (vs : List (V reg.T)) (cs : Array Value) (hz : vs.length = cs.size) (h : ∀ j, j < vs.length → VRel F w φ (vs.getD j .any) (cs.getD j undef)) :
      VRel F w φ (.tup vs) (.tuple cs)
  | ifc (t : TypeId) (v : V reg.T) (cv : Value) (h : VRel F w φ v cv) : VRel F w φ (.ifc t v) (.iface t cv)
  | undef : VRel F w φ .undef Go.undef
  | any (v : Value) : VRel F w φ .any v

theorem VRel.mono {F F' : Nat → Prop} {w w' : World} {φ φ' : Phi} (h : ∀ b, F b → F' b ∧ w'.heap[b]? = w.heap[b]?) (hφ : ∀ i p, φ i = some p → φ' i = some p)
    {x : V reg.T} {v : Value} (hx : VRel reg F w φ x v) : VRel reg F' w' φ' x v := by
  induction hx with
  | d x v hd => exact .d x v (hd.mono reg h)
  | ptr i r o b s k z hp => exact .ptr i r o b s k z (hφ _ _ hp)
  | fp row o a C t fz hF hb hz hr => exact .fp row o a C t fz (h _ hF).1 ((h _ hF).2.trans hb) hz (fun j hj => (hr j hj).mono reg h)
  | sl i off len cap b s k z cap' hp hc hl hm hz => exact .sl i off len cap b s k z cap' (hφ _ _ hp) hc hl hm hz
  | slz i off cap base hc hb => exact .slz i off cap base hc hb
  | mp i b s hp => exact .mp i b s (hφ _ _ hp)
  | it i b s hp => exact .it i b s (hφ _ _ hp)
  | fn f caps fst cs fs hz _ hz' _ ih ih' => exact .fn f caps fst cs fs hz ih hz' ih'
  | agg vs cs hz _ ih => exact .agg vs cs hz ih
  | tup vs cs hz _ ih => exact .tup vs cs hz ih
  | ifc t v cv _ ih => exact .ifc t v cv ih
  | undef => exact .undef
  | any v => exact .any v

/-- Rows, as cells say. -/
structure At (F : Nat → Prop) (w : World) (φ : Phi) (row : Nat → List (V reg.T)) (n k : Nat) (c : Nat → Value) : Prop where
  wid : ∀ r, r < n → (row r).length = k
  solid : ∀ r j, r < n → j < k → ((row r).getD j .any).solid = true
  rel : ∀ r j, r < n → j < k → VRel reg F w φ ((row r).getD j .any) (c (r * k + j))

/-- Cells of a block that hold an object's rows. -/
structure RowsAt (F : Nat → Prop) (w : World) (φ : Phi) (o : O reg.T) (s : Nat) (C : Array Value) : Prop where
  size : s + o.len reg * o.k reg ≤ C.size
  len : o.len reg ≤ 9223372036854775807
  at_ : At reg F w φ (o.row reg) (o.len reg) (o.k reg) (fun i => C.getD (s + i) undef)

/-- Entries of a map, one by one. -/
inductive Ents (F : Nat → Prop) (w : World) (φ : Phi) : List ((V reg.T × V reg.T) × Nat) → List MapEntry → Prop
  | nil : Ents F w φ [] []
  | cons (k v : V reg.T) (n : Nat) (c : MapEntry) (es : List ((V reg.T × V reg.T) × Nat)) (cs : List MapEntry) (hk : VRel reg F w φ k c.key) (hv : VRel reg F w φ v c.val) (hn : c.born = n) (h : Ents F w φ es cs) : Ents F w φ (((k, v), n) :: es) (c :: cs)

theorem Ents.mono {F F' : Nat → Prop} {w w' : World} {φ φ' : Phi} (h : ∀ b, F b → F' b ∧ w'.heap[b]? = w.heap[b]?) (hφ : ∀ i p, φ i = some p → φ' i = some p) {es : List ((V reg.T × V reg.T) × Nat)} {cs : List MapEntry} (he : Ents reg F w φ es cs) : Ents reg F' w' φ' es cs := by
  induction he with
  | nil => exact .nil
  | cons k v n c es cs hk hv hn _ ih => exact .cons k v n c es cs (hk.mono reg h hφ) (hv.mono reg h hφ) hn ih

/-- What a map says of its block. -/
def MRel (F : Nat → Prop) (w : World) (φ : Phi) (i : Nat) (o : O reg.T) : Prop :=
  ∃ clock es b ces, o = .map clock es ∧ φ i = some (b, 0, 0, 0) ∧ w.heap[b]? = some (.map ces clock) ∧ Ents reg F w φ es ces.toList

/-- What an object of rows says of its block. -/
def RRel (F : Nat → Prop) (w : World) (φ : Phi) (i : Nat) (o : O reg.T) : Prop :=
  o.isRows reg = true ∧ ((o.len reg = 0 ∧ φ i = none) ∨ ∃ b s C t fz, φ i = some (b, s, o.k reg, C.size) ∧ w.heap[b]? = some (.cells C t fz) ∧ free C fz ∧ RowsAt reg F w φ o s C)

/-- What a text that is ranged over says of its block. -/
def SRel (w : World) (φ : Phi) (i : Nat) (o : O reg.T) : Prop :=
  ∃ s pos b, o = .sit s pos ∧ φ i = some (b, 0, 0, 0) ∧ w.heap[b]? = some (.stringIter ⟨s.toArray⟩ pos)
/-- What an object says of its block. -/
def ORel (F : Nat → Prop) (w : World) (φ : Phi) (i : Nat) (o : O reg.T) : Prop := RRel reg F w φ i o ∨ MRel reg F w φ i o ∨ SRel reg w φ i o

theorem ORel.rows {F : Nat → Prop} {w : World} {φ : Phi} {i : Nat} {o : O reg.T} (h : ORel reg F w φ i o) (hr : o.isRows reg = true) : RRel reg F w φ i o := by
  rcases h with h | ⟨c, es, b, ces, rfl, _⟩ | ⟨s, p, b, rfl, _⟩
  · exact h
  · cases hr
  · cases hr
theorem ORel.map {F : Nat → Prop} {w : World} {φ : Phi} {i c : Nat} {es : List ((V reg.T × V reg.T) × Nat)} (h : ORel reg F w φ i (.map c es)) : ∃ b ces, φ i = some (b, 0, 0, 0) ∧ w.heap[b]? = some (.map ces c) ∧ Ents reg F w φ es ces.toList := by
  rcases h with h | ⟨c', es', b, ces, he, h1, h2, h3⟩ | ⟨s, p, b, he, _⟩
  · cases h.1
  · cases he; exact ⟨b, ces, h1, h2, h3⟩
  · cases he
theorem ORel.sit {F : Nat → Prop} {w : World} {φ : Phi} {i p : Nat} {s : List UInt8} (h : ORel reg F w φ i (.sit s p)) : ∃ b, φ i = some (b, 0, 0, 0) ∧ w.heap[b]? = some (.stringIter ⟨s.toArray⟩ p) := by
  rcases h with h | ⟨c', es', b, ces, he, h1, h2, h3⟩ | ⟨s, p, b, he, h1, h2⟩
  · cases h.1
  · cases he
  · cases he; exact ⟨b, h1, h2⟩

theorem At.mono {F F' : Nat → Prop} {w w' : World} {φ φ' : Phi} {row : Nat → List (V reg.T)} {n k : Nat} {c : Nat → Value} (h : ∀ b, F b → F' b ∧ w'.heap[b]? = w.heap[b]?)
    (hφ : ∀ i p, φ i = some p → φ' i = some p) (ho : At reg F w φ row n k c) : At reg F' w' φ' row n k c :=
  ⟨ho.wid, ho.solid, fun r j hr hj => (ho.rel r j hr hj).mono reg h hφ⟩

theorem RowsAt.mono {F F' : Nat → Prop} {w w' : World} {φ φ' : Phi} {o : O reg.T} {s : Nat} {C : Array Value} (h : ∀ b, F b → F' b ∧ w'.heap[b]? = w.heap[b]?)
    (hφ : ∀ i p, φ i = some p → φ' i = some p) (ho : RowsAt reg F w φ o s C) : RowsAt reg F' w' φ' o s C :=
  ⟨ho.size, ho.len, ho.at_.mono reg h hφ⟩

theorem ORel.mono {F F' : Nat → Prop} {w w' : World} {φ φ' : Phi} {i : Nat} {o : O reg.T} (h : ∀ b, F b → F' b ∧ w'.heap[b]? = w.heap[b]?)
    (hφ : ∀ i p, φ i = some p → φ' i = some p) (hn : φ i = none → φ' i = none) (hb : ∀ b s k, φ i = some (b, s, k) → w'.heap[b]? = w.heap[b]?) (ho : ORel reg F w φ i o) : ORel reg F' w' φ' i o := by
  rcases ho with ho | ⟨c, es, b, ces, he, h1, h2, h3⟩ | ⟨s, p, b, he, h1, h2⟩
  case inr.inl => exact .inr (.inl ⟨c, es, b, ces, he, hφ _ _ h1, (hb b 0 _ h1).trans h2, h3.mono reg h hφ⟩)
  case inr.inr => exact .inr (.inr ⟨s, p, b, he, hφ _ _ h1, (hb b 0 _ h1).trans h2⟩)
  refine .inl ?_
  obtain ⟨h0, ho⟩ := ho
  refine ⟨h0, ?_⟩
  rcases ho with ⟨h1, h2⟩ | ⟨b, s, C, t, fz, h1, h2, h3, h4⟩
  · exact .inl ⟨h1, hn h2⟩
  · exact .inr ⟨b, s, C, t, fz, hφ _ _ h1, (hb b s _ h1).trans h2, h3, h4.mono reg h hφ⟩

/-- What is laid: a first world that is kept. -/
def LayOk (F : Nat → Prop) (w : World) : Prop := ∃ w0 : World, reg.Tab w0 ∧ ∀ b, b < w0.heap.size → F b ∧ w.heap[b]? = w0.heap[b]?
theorem LayOk.mono {F F' : Nat → Prop} {w w' : World} (h : LayOk reg F w) (hm : ∀ b, F b → F' b ∧ w'.heap[b]? = w.heap[b]?) : LayOk reg F' w' := by
  obtain ⟨w0, h0, h1⟩ := h
  exact ⟨w0, h0, fun b hb => ⟨(hm b (h1 b hb).1).1, (hm b (h1 b hb).1).2.trans (h1 b hb).2⟩⟩

/-- Heaps. 'N': the names that are in use. -/
structure HRel (F : Nat → Prop) (φ : Phi) (N : Nat → Prop) (H : Nat → Option (O reg.T)) (w : World) : Prop where
  obj : ∀ i o, H i = some o → ORel reg F w φ i o
  own : ∀ i o b s k, H i = some o → φ i = some (b, s, k) → ¬F b ∧ b < w.heap.size
  inj : ∀ i j oi oj b s k s' k', H i = some oi → H j = some oj → φ i = some (b, s, k) → φ j = some (b, s', k') → i = j
  dom : ∀ i p, φ i = some p → N i
  lt : ∀ i o, H i = some o → N i
  ok : ∀ i, N i → Tr.ok i = true
  frz : ∀ b, F b → b < w.heap.size
  lay : LayOk reg F w

/-- The blocks of the objects. -/
def Owned (φ : Phi) (H : Nat → Option (O reg.T)) (b : Nat) : Prop := ∃ i o s k, H i = some o ∧ φ i = some (b, s, k)

/-- From one heap to another: only what is owned, or new, is written. -/
structure Goes (F : Nat → Prop) (φ : Phi) (N : Nat → Prop) (H : Nat → Option (O reg.T)) (w : World) (F' : Nat → Prop) (φ' : Phi) (N' : Nat → Prop) (H' : Nat → Option (O reg.T)) (w' : World) : Prop where
  os : w'.os = w.os
  tape : w'.tape = w.tape
  output : w'.output = w.output
  size : w.heap.size ≤ w'.heap.size
  block : ∀ b, b < w.heap.size → ¬Owned reg φ H b → w'.heap[b]? = w.heap[b]?
  fsub : ∀ b, F b → F' b
  fnew : ∀ b, F' b → F b ∨ w.heap.size ≤ b ∨ Owned reg φ H b
  phi : ∀ i, N i → φ' i = φ i
  names : ∀ i, N i → N' i
  dom : ∀ b, Owned reg φ' H' b → Owned reg φ H b ∨ w.heap.size ≤ b
  new : ∀ i p, φ' i = some p → N i ∨ (w.heap.size ≤ p.1 ∨ Owned reg φ H p.1)

theorem Goes.refl {F : Nat → Prop} {φ : Phi} {N : Nat → Prop} {H : Nat → Option (O reg.T)} {w : World} (h : HRel reg F φ N H w) : Goes reg F φ N H w F φ N H w :=
  ⟨rfl, rfl, rfl, Nat.le_refl _, fun _ _ _ => rfl, fun _ h => h, fun _ h => .inl h, fun _ _ => rfl, fun _ h => h, fun _ h => .inl h, fun i p hp => .inl (h.dom i p hp)⟩

theorem Goes.trans {F F' F'' : Nat → Prop} {φ φ' φ'' : Phi} {N N' N'' : Nat → Prop} {H H' H'' : Nat → Option (O reg.T)} {w w' w'' : World}
    (h1 : Goes reg F φ N H w F' φ' N' H' w') (h2 : Goes reg F' φ' N' H' w' F'' φ'' N'' H'' w'') : Goes reg F φ N H w F'' φ'' N'' H'' w'' := by
  have dom : ∀ b, Owned reg φ' H' b → Owned reg φ H b ∨ w.heap.size ≤ b := h1.dom
  refine ⟨h2.os.trans h1.os, h2.tape.trans h1.tape, h2.output.trans h1.output, Nat.le_trans h1.size h2.size, fun b hb hn => ?_, fun b hf => h2.fsub b (h1.fsub b hf), fun b hf => ?_,
    fun i hi => (h2.phi i (h1.names i hi)).trans (h1.phi i hi), fun i hi => h2.names i (h1.names i hi), fun b hb => ?_, fun i p hp => ?_⟩
  · rw [h2.block b (Nat.lt_of_lt_of_le hb h1.size) (fun ho => (dom b ho).elim hn (fun h => by omega)), h1.block b hb hn]
  · rcases h2.fnew b hf with h | h | h
    · exact h1.fnew b h
    · exact .inr (.inl (Nat.le_trans h1.size h))
    · rcases dom b h with h | h
      · exact .inr (.inr h)
      · exact .inr (.inl h)
  · rcases h2.dom b hb with h | h
    · exact dom b h
    · exact .inr (Nat.le_trans h1.size h)
  · rcases h2.new i p hp with h | h | h
    · exact h1.new i p ((h2.phi i h) ▸ hp)
    · exact .inr (.inl (Nat.le_trans h1.size h))
    · rcases dom p.1 h with h | h
      · exact .inr (.inr h)
      · exact .inr (.inl h)

variable {reg}
/-- What values keep on the way. -/
theorem Goes.keep {F F' : Nat → Prop} {φ φ' : Phi} {N N' : Nat → Prop} {H H' : Nat → Option (O reg.T)} {w w' : World} (hH : HRel reg F φ N H w)
    (h : Goes reg F φ N H w F' φ' N' H' w') : (∀ b, F b → F' b ∧ w'.heap[b]? = w.heap[b]?) ∧ (∀ i p, φ i = some p → φ' i = some p) :=
  ⟨fun b hb => ⟨h.fsub b hb, h.block b (hH.frz b hb) (fun ⟨i, o, s, k, ho, hp⟩ => (hH.own i o b s k ho hp).1 hb)⟩, fun i p hp => (h.phi i (hH.dom i p hp)).trans hp⟩

theorem Goes.val {F F' : Nat → Prop} {φ φ' : Phi} {N N' : Nat → Prop} {H H' : Nat → Option (O reg.T)} {w w' : World} (hH : HRel reg F φ N H w)
    (h : Goes reg F φ N H w F' φ' N' H' w') {x : V reg.T} {v : Value} (hx : VRel reg F w φ x v) : VRel reg F' w' φ' x v := hx.mono reg (h.keep hH).1 (h.keep hH).2
end
end Go.W
