/- Runs as a proposition that is shut; a statement's row from it. No conditions. -/
import Derived.Test.YtbcmfkognanjdaaGreatDoorVj
namespace Go.W
open Go Go.RowKit
section
variable {reg : Reg}
/-- A function that is handed no objects answers yes. -/
@[irreducible] noncomputable def runK (P : Program) (hd : Hd reg.T) (n : Nat) (f : FuncId) (args : List (V reg.T)) : Prop := (exFunS P hd n f args ⟨.e, 0, []⟩).K (fun r => yes r.1)
theorem runK_go {P : Program} {hd : Hd reg.T} {n : Nat} {f : FuncId} {args : List (V reg.T)} (h : runK P hd n f args) : (exFunS P hd n f args ⟨.e, 0, []⟩).K (fun r => yes r.1) := by
  unfold runK at h
  exact h
end
section
variable {reg : Reg} {P : Program}
theorem law_row_runK {H : Type} {enc : TypeId × Value → H} {C : Checked} {os : Os} {f : FuncId} {fn : Func} {s : ChangeSpec} {bt : TypeId} {X : World → Array Value → Prop} (hX : ∀ (w w' : World) (args : Array Value), w.heap = w'.heap → X w args → X w' args) (own : ownKnob C.prog.godebug = none) (started : os.Started)
    (hl : laidOutB C.prog = true) (noInit : C.prog.inits.idxOf? f = none) (hfn : C.prog.funcs[f]? = some fn) (hread : ∀ t ∈ fn.params.toList, C.prog.readableRec t = true ∧ t < C.prog.types.size)
    (hres : fn.resultTypes = #[bt]) (hbt : C.prog.underlying bt = some .bool) (hvars : s.vars = [])
    (hs : ∀ ds : List (DataW H), ds.length = fn.params.size → s.fn H (ds ++ []) = { results := [.lit (.bool true)], args := ds })
    (witness : ∃ (w : World) (tape : Tape) (i : Input), w.os = os ∧ (w.forCall tape i).Shaped C.prog ∧ i.vars = [] ∧ Input.okWide C.prog (w.forCall tape i) .any w.heap.size f i ∧
      ((s.pre enc C.prog fn [] false (w.forCall tape i).memory i.args ∧ X (w.forCall tape i).memory i.args) ∧ sizedMet enc C.prog fn (OpenSpec.ofChange s) false (w.forCall tape i).memory i.args) ∧ ({} : Assume).holds C.prog (lone (Frame.enter C.prog f i.args .normal) [] (w.forCall tape i)))
    (n : Nat) (hchk : ∀ t ∈ fn.params.toList, chkT reg C.prog n t = true) (htot : ∀ n e vs, reg.k e = C.prog.cellsOf e → C.prog.cellsOf e ≠ 0 → WT reg C.prog n e vs → ∃ x, reg.enc e x = vs)
    (hTab : ∀ w args, X w args → reg.Tab w) (hm : C.prog.follows .mixedOrders = true) (hno : ∀ (f : FuncId) fn, C.prog.funcs[f]? = some fn → fn.body.isNone = false → (fn.name == "runtime.NumGoroutine") = false) (h : ∀ vs, TypedArgs reg C.prog n fn.params.toList vs → ∃ (hd : Hd reg.T) (_ : HdSound C.prog hd) (fuel : Nat), runK C.prog hd fuel f vs) :
    ReturnsInHanded {} C os f .any (fun w args => (s.pre enc C.prog fn [] false w args ∧ X w args) ∧ sizedMet enc C.prog fn (OpenSpec.ofChange s) false w args) (s.post enc C.prog fn false true false false) :=
  law_row_run hX own started hl noInit hfn hread hres hbt hvars hs witness n hchk htot hTab hm hno fun vs h1 =>
    match h vs h1 with
    | ⟨hd, hHd, fuel, hL⟩ => ⟨hd, hHd, fuel, runK_go hL⟩
end
end Go.W
