/- Tables of closed calls. No conditions. -/
import Derived.Test.YtbcmfkognanjdaaGreatDoorVe
import Derived.Test.YtbcmfkognanjdaaGreatDoorVf
namespace Go.W
open Go

section
variable {reg : Reg} (P : Program)
/-- A row of a table holds: the closed run says so. -/
noncomputable def endG (reg : Reg) (m : Memo reg.T) (x : Option (V reg.T × Hp reg.T)) : Bool :=
  Option.rec (motive := fun _ => Bool) false (fun r => CovRb m.objs.length r m.ans m.outs) x
noncomputable def rowG (C : Con reg.T) (fuel n : Nat) (f : FuncId) (m : Memo reg.T) : Bool := endG reg m (exFunF P (hdF P C fuel n) fuel f m.args (canH m.objs))
structure RowG (C : Con reg.T) (fuel n : Nat) (f : FuncId) (m : Memo reg.T) : Prop where
  mk ::
  is : rowG P C fuel n f m = true

theorem specG {P : Program} (hm : P.follows .mixedOrders = true) (hno : ∀ (f : FuncId) fn, P.funcs[f]? = some fn → fn.body.isNone = false → (fn.name == "runtime.NumGoroutine") = false) {C : Con reg.T} (hC : ConOk P C) {fuel n : Nat} {f : FuncId} {tab : List (Memo reg.T)}
    (ht : There P f) (h : ∀ m ∈ tab, RowG P C fuel n f m) : SpecOk P f (memoSpec tab) := by
  refine specOk_of_ex hm (hdN_sound hm hno hC fuel n) hno (fuel := fuel) ht fun (a : Nat) hp => ?_
  have hp : Nat.blt a tab.length = true := hp
  have hp : a < tab.length := by simpa using hp
  have e : tab[a]? = some tab[a] := List.getElem?_eq_getElem hp
  have h1 := (h tab[a] (List.getElem_mem hp)).is
  simp only [memoSpec, e]
  unfold rowG endG at h1
  cases hx : exFunF P (hdF P C fuel n) fuel f tab[a].args (canH tab[a].objs) with
  | none => rw [hx] at h1; cases h1
  | some r =>
    rw [hx] at h1
    exact exFunF_K P hx (CovRb_ok h1 : CovR _ _ _ _)

/-- Which functions have tables. -/
abbrev Tabs (T : Nat → Type) := FuncId → Option (List (Memo T))
def TabsOk (P : Program) (tabs : Tabs reg.T) : Prop := ∀ f tab, tabs f = some tab → SpecOk P f (memoSpec tab) ∧ ∀ m ∈ tab, m.objs.length ≤ 1000000
noncomputable def tabG (tab : List (Memo reg.T)) (args : List (V reg.T)) (h : Hp reg.T) (other : Out (V reg.T × Hp reg.T)) : Out (V reg.T × Hp reg.T) :=
  match memoFind tab args h.get with
  | some _ => (memoSpec tab).con (memoMeet tab) args h
  | none => other
/-- Calls: by contract; by a table; some by what the evaluator of all ways says; the rest is closed. -/
noncomputable def hdG (C : Con reg.T) (tabs : Tabs reg.T) (sym : FuncId → Bool) (fuel depth : Nat) : Nat → Hd reg.T
  | 0 => fun f args h => (match C f with | some S => S args h | none => .bad)
  | n + 1 => fun f args h => (match C f with
    | some S => S args h
    | none => (match tabs f with
      | some tab => tabG tab args h (exFun P (hdG C tabs sym fuel depth n) fuel f args h)
      | none => (match sym f with | true => exFun P (hdG C tabs sym fuel depth n) fuel f args h | false => Out.ofO (exFunF P (hdF P C fuel depth) fuel f args h))))
theorem memo_size {tab : List (Memo reg.T)} (h : ∀ m ∈ tab, m.objs.length ≤ 1000000) (a : (memoSpec tab).α) : ((memoSpec tab).objs a).length ≤ 1000000 := by
  simp only [memoSpec]
  split
  · rename_i m hm; exact h m (List.mem_of_getElem? hm)
  · exact Nat.zero_le _
theorem hdG_sound {P : Program} (hm : P.follows .mixedOrders = true) (hno : ∀ (f : FuncId) fn, P.funcs[f]? = some fn → fn.body.isNone = false → (fn.name == "runtime.NumGoroutine") = false) {C : Con reg.T} (hC : ConOk P C) {tabs : Tabs reg.T} (hT : TabsOk P tabs) (sym : FuncId → Bool) (fuel depth : Nat) :
    ∀ n, HdSound P (hdG P C tabs sym fuel depth n)
  | 0 => by
    intro f args h Q hq
    simp only [hdG] at hq
    split at hq
    · rename_i S hS; exact hC f S hS args h Q hq
    · exact hq.elim
  | n + 1 => by
    intro f args h Q hq
    simp only [hdG] at hq
    split at hq
    · rename_i S hS; exact hC f S hS args h Q hq
    · split at hq
      · rename_i tab htab
        obtain ⟨h1, h2⟩ := hT f tab htab
        unfold tabG at hq
        split at hq
        · exact Spec.con_ok h1 (memoMeet tab) (memo_size h2) args h Q hq
        · exact exFun_sound hm (hdG_sound hm hno hC hT sym fuel depth n) hno fuel f args h Q hq
      · split at hq
        · exact exFun_sound hm (hdG_sound hm hno hC hT sym fuel depth n) hno fuel f args h Q hq
        · obtain ⟨r, h1, h2⟩ := Out.K_ofO.1 hq
          exact exFun_sound hm (hdN_sound hm hno hC fuel depth) hno fuel f args h Q (exFunF_K P h1 h2)
end
end Go.W
