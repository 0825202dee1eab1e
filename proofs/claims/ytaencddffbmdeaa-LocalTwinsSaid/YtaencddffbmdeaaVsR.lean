/- What abstract values and states say of the machine's, and that the evaluator's verification condition is enough. No conditions. -/
import Derived.Test.YtaencddffbmdeaaVs
import Derived.Orders
namespace Go.Vs
open Go Go.RowKit

/-- A block whose known cells may be written. -/
def free (C : Array Value) (fz : Nat × Nat) : Prop := fz.2 ≤ fz.1 ∨ C.size ≤ fz.1

section
variable (reg : Reg)

inductive DRel (F : Nat → Prop) (w : World) : D reg.T → Value → Prop
  | bool (b : Bool) : DRel F w (.bool b) (.bool b)
  | int (k : IntKind) (n : Int) : DRel F w (.int k n) (.int k n)
  | str (s : List UInt8) : DRel F w (.str s) (.string ⟨s.toArray⟩)
  | nilp : DRel F w .nilp (.pointer none)
  | nilm : DRel F w .nilm (.map none)
  | nilf : DRel F w .nilf .nilFunc
  | nili : DRel F w .nili .nilIface
  | nils : DRel F w .nils (.slice Option.none 0 0)
  | none (e : Nat) (base : Option Addr) (cap : Nat) : DRel F w (.sl e []) (.slice base 0 cap)
  | sl (e : Nat) (xs : List (reg.T e)) (a : Addr) (cap : Nat) (C : Array Value) (t : TypeId) (fz : Nat × Nat)
      (hF : F a.block) (hb : w.heap[a.block]? = some (.cells C t fz)) (hs : a.spot = Option.none) (hc : xs.length ≤ cap) (hm : xs.length ≤ 9223372036854775807)
      (hz : a.off + xs.length * reg.k e ≤ C.size)
      (hr : ∀ r x j, xs[r]? = some x → j < reg.k e → DRel F w ((reg.enc e x).getD j .nilp) (C.getD (a.off + r * reg.k e + j) undef)) :
      DRel F w (.sl e xs) (.slice (some a) xs.length cap)

theorem DRel.mono {F F' : Nat → Prop} {w w' : World} (h : ∀ b, F b → F' b ∧ w'.heap[b]? = w.heap[b]?) {x : D reg.T} {v : Value} (hx : DRel reg F w x v) : DRel reg F' w' x v := by
  induction hx with
  | bool b => exact .bool b
  | int k n => exact .int k n
  | str s => exact .str s
  | nilp => exact .nilp
  | nilm => exact .nilm
  | nilf => exact .nilf
  | nili => exact .nili
  | nils => exact .nils
  | none e b c => exact .none e b c
  | sl e xs a cap C t fz hF hb hs hc hm hz _ ih => exact .sl e xs a cap C t fz (h _ hF).1 ((h _ hF).2.trans hb) hs hc hm hz ih

abbrev Phi := Nat → Nat → Option (Nat × Nat)

def CapRel : Cap → Nat → Prop
  | .exact c, n => n = c
  | .least c, n => c ≤ n

inductive VRel (F : Nat → Prop) (w : World) (φ : Phi) : V reg.T → Value → Prop
  | d (x : D reg.T) (v : Value) (h : DRel reg F w x v) : VRel F w φ (.d x) v
  | ptr (i g o b s : Nat) (h : φ i g = some (b, s)) : VRel F w φ (.ptr i g o) (.pointer (some ⟨b, s + o, Option.none⟩))
  | elp (i g e r o b s : Nat) (h : φ i g = some (b, s)) : VRel F w φ (.elp i g e r o) (.pointer (some ⟨b, s + r * reg.k e + o, Option.none⟩))
  | fp (row : List (D reg.T)) (o : Nat) (a : Addr) (C : Array Value) (t : TypeId) (fz : Nat × Nat) (hF : F a.block) (hb : w.heap[a.block]? = some (.cells C t fz))
      (hz : a.off + row.length ≤ C.size) (hr : ∀ j, j < row.length → DRel reg F w (row.getD j .nilp) (C.getD (a.off + j) undef)) :
      VRel F w φ (.fp row o) (.pointer (some ⟨a.block, a.off + o, Option.none⟩))
  | sl (i g e off len : Nat) (cap : Cap) (b s cap' : Nat) (h : φ i g = some (b, s)) (hc : CapRel cap cap') (hl : len ≤ cap') (hm : len ≤ 9223372036854775807) :
      VRel F w φ (.sl i g e off len cap) (.slice (some ⟨b, s + off * reg.k e, Option.none⟩) len cap')
  | slz (i g e off : Nat) (cap : Cap) (base : Option Addr) (hc : CapRel cap 0) : VRel F w φ (.sl i g e off 0 cap) (.slice base 0 0)
  | fn (f : FuncId) (caps : List (V reg.T)) (cs : Array Value) (hz : caps.length = cs.size) (h : ∀ j, j < caps.length → VRel F w φ (caps.getD j .any) (cs.getD j undef)) :
      VRel F w φ (.fn f caps) (.func (.func f) #[] cs)
  | agg (vs : List (V reg.T)) (cs : Array Value) (hz : vs.length = cs.size) (h : ∀ j, j < vs.length → VRel F w φ (vs.getD j .any) (cs.getD j undef)) :
      VRel F w φ (.agg vs) (.agg cs)
  | tup (vs : List (V reg.T)) (cs : Array Value) (hz : vs.length = cs.size) (h : ∀ j, j < vs.length → VRel F w φ (vs.getD j .any) (cs.getD j undef)) :
      VRel F w φ (.tup vs) (.tuple cs)
  | ifc (t : TypeId) (v : V reg.T) (cv : Value) (h : VRel F w φ v cv) : VRel F w φ (.ifc t v) (.iface t cv)
  | undef : VRel F w φ .undef Go.undef
  | any (v : Value) : VRel F w φ .any v

theorem VRel.mono {F F' : Nat → Prop} {w w' : World} {φ φ' : Phi} (h : ∀ b, F b → F' b ∧ w'.heap[b]? = w.heap[b]?) (hφ : ∀ i g p, φ i g = some p → φ' i g = some p)
    {x : V reg.T} {v : Value} (hx : VRel reg F w φ x v) : VRel reg F' w' φ' x v := by
  induction hx with
  | d x v hd => exact .d x v (hd.mono reg h)
  | ptr i g o b s hp => exact .ptr i g o b s (hφ _ _ _ hp)
  | elp i g e r o b s hp => exact .elp i g e r o b s (hφ _ _ _ hp)
  | fp row o a C t fz hF hb hz hr => exact .fp row o a C t fz (h _ hF).1 ((h _ hF).2.trans hb) hz (fun j hj => (hr j hj).mono reg h)
  | sl i g e off len cap b s cap' hp hc hl hm => exact .sl i g e off len cap b s cap' (hφ _ _ _ hp) hc hl hm
  | slz i g e off cap base hc => exact .slz i g e off cap base hc
  | fn f caps cs hz _ ih => exact .fn f caps cs hz ih
  | agg vs cs hz _ ih => exact .agg vs cs hz ih
  | tup vs cs hz _ ih => exact .tup vs cs hz ih
  | ifc t v cv _ ih => exact .ifc t v cv ih
  | undef => exact .undef
  | any v => exact .any v

/-- Pure data hangs on no name. -/
theorem VRel.pure {F : Nat → Prop} {w : World} {φ φ' : Phi} {x : V reg.T} {v : Value} (hx : VRel reg F w φ x v) : x.pure = true → VRel reg F w φ' x v := by
  have go : ∀ (l : List (V reg.T)), V.pure.goL l = true → ∀ j, j < l.length → (l.getD j .any).pure = true := by
    intro l
    induction l with
    | nil => intro _ j hj; simp at hj
    | cons a l ih =>
      intro hl j hj
      simp only [V.pure.goL] at hl
      cases ha : a.pure with
      | false => simp [ha] at hl
      | true =>
        simp only [ha] at hl
        cases j with
        | zero => simpa using ha
        | succ j => simpa using ih hl j (by simpa using hj)
  induction hx with
  | d x v hd => exact fun _ => .d x v hd
  | agg vs cs hz _ ih => exact fun hp => .agg vs cs hz (fun j hj => ih j hj (go vs (by simpa [V.pure] using hp) j hj))
  | tup vs cs hz _ ih => exact fun hp => .tup vs cs hz (fun j hj => ih j hj (go vs (by simpa [V.pure] using hp) j hj))
  | _ => intro hp; simp [V.pure] at hp

/-- What an object says of its block. -/
def ORel (F : Nat → Prop) (w : World) (φ : Phi) (i : Nat) : O reg.T → Prop
  | .dead _ => True
  | .box g vs => ∃ b s C t fz, φ i g = some (b, s) ∧ w.heap[b]? = some (.cells C t fz) ∧ free C fz ∧ s + vs.length ≤ C.size ∧
      ∀ j, j < vs.length → VRel reg F w φ (vs.getD j .any) (C.getD (s + j) undef)
  | .rows g e xs => (xs = [] ∧ φ i g = none) ∨ ∃ b s C t fz, φ i g = some (b, s) ∧ w.heap[b]? = some (.cells C t fz) ∧ free C fz ∧ s + xs.length * reg.k e ≤ C.size ∧
      xs.length ≤ 9223372036854775807 ∧ ∀ r x j, xs[r]? = some x → j < reg.k e → DRel reg F w ((reg.enc e x).getD j .nilp) (C.getD (s + r * reg.k e + j) undef)

theorem ORel.mono {F F' : Nat → Prop} {w w' : World} {φ φ' : Phi} {i : Nat} {o : O reg.T} (h : ∀ b, F b → F' b ∧ w'.heap[b]? = w.heap[b]?)
    (hφ : ∀ i g p, φ i g = some p → φ' i g = some p) (hn : φ i o.gen = none → φ' i o.gen = none)
    (hb : ∀ b s, φ i o.gen = some (b, s) → w'.heap[b]? = w.heap[b]?) (ho : ORel reg F w φ i o) : ORel reg F' w' φ' i o := by
  cases o with
  | dead g => trivial
  | box g vs =>
    obtain ⟨b, s, C, t, fz, h1, h2, h3, h4, h5⟩ := ho
    exact ⟨b, s, C, t, fz, hφ _ _ _ h1, (hb b s h1).trans h2, h3, h4, fun j hj => (h5 j hj).mono reg h hφ⟩
  | rows g e xs =>
    rcases ho with ⟨h1, h2⟩ | ⟨b, s, C, t, fz, h1, h2, h3, h4, h5, h6⟩
    · exact .inl ⟨h1, hn h2⟩
    · exact .inr ⟨b, s, C, t, fz, hφ _ _ _ h1, (hb b s h1).trans h2, h3, h4, h5, fun r x j hx hj => (h6 r x j hx hj).mono reg h⟩

/-- Beneath block N0, but for the blocks L0, the world is as it was. -/
structure Fr (N0 : Nat) (L0 : Nat → Prop) (w0 w : World) : Prop where
  os : w.os = w0.os
  tape : w.tape = w0.tape
  output : w.output = w0.output
  size : w0.heap.size ≤ w.heap.size
  block : ∀ b, b < N0 → ¬L0 b → w.heap[b]? = w0.heap[b]?

/-- Where a call began. -/
structure Base where
  L0 : Nat → Prop
  w0 : World
  F0 : Nat → Prop

def Base.N0 (B : Base) : Nat := B.w0.heap.size

structure R (B : Base) (nt : Nat) (F : Nat → Prop) (φ : Phi) (st : St reg.T) (a : Act) (w : World) : Prop where
  env : ∀ t v, st.env t = some v → t < nt ∧ VRel reg F w φ v (a.tmps.getD t undef)
  size : a.tmps.size = nt
  obj : ∀ i o, st.H i = some o → ORel reg F w φ i o
  own : ∀ i o b s, st.H i = some o → φ i o.gen = some (b, s) → ¬F b ∧ (B.L0 b ∨ B.N0 ≤ b) ∧ b < w.heap.size
  inj : ∀ i j oi oj b s s', st.H i = some oi → st.H j = some oj → φ i oi.gen = some (b, s) → φ j oj.gen = some (b, s') → i = j
  dom : ∀ i g p, φ i g = some p → ∃ o, st.H i = some o ∧ g ≤ o.gen
  frz : ∀ b, F b → b < w.heap.size ∧ (B.F0 b ∨ B.N0 ≤ b ∨ B.L0 b)
  keep : ∀ b, B.F0 b → F b
  fr : Fr B.N0 B.L0 B.w0 w
  dfs : a.defers = []
end
end Go.Vs
