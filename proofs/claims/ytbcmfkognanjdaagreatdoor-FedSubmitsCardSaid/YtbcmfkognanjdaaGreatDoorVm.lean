/- Tables of calls that range over maps, in any order. No conditions. -/
import Derived.Test.YtbcmfkognanjdaaGreatDoorVx
namespace Go.W
open Go Go.RowKit
section
variable {reg : Reg}
/-- A row of a table holds: the runs in all orders say so. -/
noncomputable def rowQ (P : Program) (C : Con reg.T) (fuel n : Nat) (f : FuncId) (m : Memo reg.T) : Bool := (exFunQ P (hdF P C fuel n) fuel f m.args (canH m.objs)).goB fun r => CovRb m.objs.length r m.ans m.outs
structure RowQ (P : Program) (C : Con reg.T) (fuel n : Nat) (f : FuncId) (m : Memo reg.T) : Prop where
  mk ::
  is : rowQ P C fuel n f m = true
theorem exFunQ_sound {P : Program} (hm : P.follows .mixedOrders = true) (hno : ∀ (f : FuncId) fn, P.funcs[f]? = some fn → fn.body.isNone = false → (fn.name == "runtime.NumGoroutine") = false) {C : Con reg.T} (hC : ConOk P C) (fuel n : Nat) : HdSound P (exFunQ P (hdF P C fuel n) fuel) := fun f args h Q hq =>
  exFunI_sound hm (hdN_sound hm hno hC fuel n) hno fuel f args h Q (exFunQ_le P (hdC_rel P C fuel n) fuel f args h Q (by rw [← hdF_eq]; exact hq))
theorem specQ {P : Program} (hm : P.follows .mixedOrders = true) (hno : ∀ (f : FuncId) fn, P.funcs[f]? = some fn → fn.body.isNone = false → (fn.name == "runtime.NumGoroutine") = false) {C : Con reg.T} (hC : ConOk P C) {fuel n : Nat} {f : FuncId} {tab : List (Memo reg.T)}
    (ht : There P f) (h : ∀ m ∈ tab, RowQ P C fuel n f m) : SpecOk P f (memoSpec tab) := by
  refine ⟨ht, fun (a : Nat) hp F φ w cargs hH hl q hq => ?_⟩
  have hp : Nat.blt a tab.length = true := hp
  have hp : a < tab.length := by simpa using hp
  have e : tab[a]? = some tab[a] := List.getElem?_eq_getElem hp
  have h1 := (h tab[a] (List.getElem_mem hp)).is
  have h2 : (exFunQ P (hdF P C fuel n) fuel f tab[a].args (canH tab[a].objs)).K fun r => CovR tab[a].objs.length r tab[a].ans tab[a].outs := Out.goB_ok (fun r hr => CovRb_ok hr) h1
  simp only [memoSpec, e] at hH hl hq ⊢
  cases hq
  refine (exFunQ_sound hm hno hC fuel n f _ _ _ h2).2 _ F φ w cargs (fun r _ i hi hj hN => ?_) hH hl
  have hN : i < tab[a].objs.length := hN
  have hi : tab[a].objs.length ≤ i := hi
  omega
/-- By the table; else by the runs in all orders. -/
noncomputable def uMemoQ (P : Program) (C : Con reg.T) (fuel n : Nat) (f : FuncId) (tab : List (Memo reg.T)) : List (V reg.T) → Hp reg.T → Out (V reg.T × Hp reg.T) := fun args h => tabG tab args h (exFunQ P (hdF P C fuel n) fuel f args h)
theorem memoQ_ok {P : Program} (hm : P.follows .mixedOrders = true) (hno : ∀ (f : FuncId) fn, P.funcs[f]? = some fn → fn.body.isNone = false → (fn.name == "runtime.NumGoroutine") = false) {C : Con reg.T} (hC : ConOk P C) {fuel n : Nat} {f : FuncId} {tab : List (Memo reg.T)}
    (ht : There P f) (h : ∀ m ∈ tab, RowQ P C fuel n f m) (hs : ∀ m ∈ tab, m.objs.length ≤ 1000000) (args : List (V reg.T)) (hp : Hp reg.T) (Q : V reg.T × Hp reg.T → Prop) (hq : (uMemoQ P C fuel n f tab args hp).K Q) :
    There P f ∧ ∀ N F φ w cargs, (∀ r, Q r → Fresh N hp.nx r.2.nx) → HR N F φ hp w → LRel F w φ args cargs → Calls P f cargs w (CallPost N F φ hp w Q) := by
  unfold uMemoQ tabG at hq
  split at hq
  · exact Spec.con_ok (specQ hm hno hC ht h) (memoMeet tab) (memo_size hs) args hp Q hq
  · exact exFunQ_sound hm hno hC fuel n f args hp Q hq
end
end Go.W
