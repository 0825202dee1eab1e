/- Contracts of the Conf seat: what has no body, and what a class's number comes to. No conditions. -/
import Derived.Test.YtaonjbojhikndaaDoorCx
import Derived.Test.YtaonjbojhikndaaDoorWK
import Derived.Test.YtaonjbojhikndaaDoorWM
namespace Go.Proofs.YtaonjbojhikndaaDoor
open Go Go.W Go.Proofs

def reg0 : Reg where
  T := fun _ => Unit
  has := fun _ => false
  k := fun _ => 0
  dflt := fun _ => ()
  enc := fun _ _ => []
  dec := fun _ _ => none
  isB := fun _ => false
  toS := fun _ _ => []
  ofS := fun _ _ => []
  law := by intro e l x h; cases h
  len := by intro e x; rfl
  toS_len := by intro e xs h; cases h
  toS_get := by intro e xs r h; cases h
  ofS_len := by intro e s h; cases h
  ofS_get := by intro e s r h; cases h
  Tab := fun _ => True
abbrev V0 := V reg0.T
abbrev T0 := List V0 → Hp reg0.T → Out (V0 × Hp reg0.T)
def vi (n : Int) : V0 := .d (.int .i64 n)

theorem mixed : Tryd.prog.follows .mixedOrders = true := by kernel_rfl
theorem noNum : (Tryd.prog.funcs.toList.all fun fn => fn.body.isNone || !(fn.name == "runtime.NumGoroutine")) = true := by kernel_rfl
theorem hno : ∀ (f : FuncId) fn, Tryd.prog.funcs[f]? = some fn → fn.body.isNone = false → (fn.name == "runtime.NumGoroutine") = false := by
  intro f fn h hb
  have := List.all_eq_true.1 noNum fn (by rw [Array.mem_toList_iff]; exact Array.mem_of_getElem? h)
  rw [hb] at this
  simpa using this
theorem there (f : Nat) (h : (match Tryd.prog.funcs[f]? with | some fn => !fn.body.isNone | none => false) = true) : There Tryd.prog f := by
  split at h
  · rename_i fn hfn
    have hb : fn.body.isNone = false := by simpa using h
    exact ⟨fn, hfn, hno f fn hfn hb, hb⟩
  · cases h

/-- What a table's row owes. -/
def RowOk (f : FuncId) (S : T0) : Prop := ∀ args h Q, (S args h).K Q → There Tryd.prog f ∧ ∀ N F φ w cargs, (∀ r, Q r → Fresh N h.nx r.2.nx) → HR N F φ h w → LRel F w φ args cargs → Calls Tryd.prog f cargs w (CallPost N F φ h w Q)
theorem conOk_cons {f : FuncId} {S} {l : List (Nat × T0)} (h : RowOk f S) (hl : ConOk Tryd.prog (fun g => lookN l g)) : ConOk Tryd.prog (fun g => lookN ((f, S) :: l) g) := by
  intro g S' hg
  simp only [lookN] at hg
  split at hg
  · rename_i hb
    cases hg
    rw [← Nat.eq_of_beq_eq_true hb]
    exact h
  · exact hl g S' hg
theorem conOk_nil : ConOk (reg := reg0) Tryd.prog (fun g => lookN [] g) := fun f S h => by cases h

theorem two_args {F : Nat → Prop} {w : World} {φ : Phi} {v u : V0} {cs : Array Value} (hl : LRel F w φ [v, u] cs) : ∃ c d, cs = #[c, d] ∧ VRel reg0 F w φ v c ∧ VRel reg0 F w φ u d := by
  have h1 : cs.size = 2 := hl.1.symm
  refine ⟨cs.getD 0 undef, cs.getD 1 undef, ?_, hl.2 0 (by simp), hl.2 1 (by simp)⟩
  apply Array.ext
  · simpa using h1
  · intro i h2 h3
    have h4 : i < 2 := by simpa using h3
    match i, h4 with
    | 0, _ => simp [h1]
    | 1, _ => simp [h1]

def t79 : T0 := fun args h => match args with | [.d (.str s), .d (.int .u8 c)] => (.ret (.d (.int .i64 (Lib.indexByte s c.toNat.toUInt8)), h)) | _ => .bad
def t50 : T0 := fun args h => match args with | [.d (.str s), .d (.str [c])] => (.ret (.d (.int .i64 (Lib.countByte s c)), h)) | _ => .bad

theorem k79 : RowOk 79 t79 := by
  intro args h Q hq
  unfold t79 at hq
  split at hq
  · rename_i s c
    refine ⟨there 79 (by kernel_rfl), fun N F φ w cargs _ hH hl => ?_⟩
    obtain ⟨x, y, rfl, hx, hy⟩ := two_args hl
    rw [hx.str_inv, hy.int_inv]
    refine (c79 _ c w).mono fun e w' ⟨he, hw⟩ => ?_
    subst hw
    exact ⟨_, he, Res.pure hH hq (.d _ _ (.int _ _))⟩
  · exact hq.elim
theorem k50 : RowOk 50 t50 := by
  intro args h Q hq
  unfold t50 at hq
  split at hq
  · rename_i s c
    refine ⟨there 50 (by kernel_rfl), fun N F φ w cargs _ hH hl => ?_⟩
    obtain ⟨x, y, rfl, hx, hy⟩ := two_args hl
    rw [hx.str_inv, hy.str_inv]
    refine (c50 _ c w).mono fun e w' ⟨he, hw⟩ => ?_
    subst hw
    exact ⟨_, he, Res.pure hH hq (.d _ _ (.int _ _))⟩
  · exact hq.elim

def C1 : Con reg0.T := fun f => lookN [(79, t79), (50, t50)] f
theorem C1_ok : ConOk Tryd.prog C1 := conOk_cons k79 (conOk_cons k50 conOk_nil)
noncomputable def hd1 : Hd reg0.T := hdT reg0 Tryd.prog C1 (fun _ => false) 1000 12
theorem hd1_sound : HdSound Tryd.prog hd1 := hdT_sound mixed hno C1_ok _ _ _

/-! ### A number brought into a class -/
def wi (a n : Int) : Int := bif decide (a.tmod n < 0) then IntKind.i64.wrap (a.tmod n + n) else a.tmod n
def SW : Go.W.Spec reg0.T := ⟨Int × Int, fun a => [vi a.1, vi a.2], fun _ => [], fun a => decide (0 < a.2), fun a => .ret (vi (wi a.1 a.2), [])⟩
def SKn : Go.W.Spec reg0.T := ⟨Unit, fun _ => [], fun _ => [], fun _ => true, fun _ => .ret (.d (.bool true), [])⟩
def MeetsE (f : Nat) (S : Go.W.Spec reg0.T) (a : S.α) : Prop := (exFun Tryd.prog hd1 1000 f (S.args a) (canH (S.objs a))).K fun r => (S.out a).All fun q => CovR (S.objs a).length r q.1 q.2
end Go.Proofs.YtaonjbojhikndaaDoor
