/- Closed runs of the manager's scenarios: the registry, what has no body, a number brought into a class, tables of calls. No conditions. -/
import Derived.Test.YtmnkbfflpgmkmaaGreatDoorCx
import Derived.Test.YtmnkbfflpgmkmaaGreatDoorWJ
import Derived.Test.YtmnkbfflpgmkmaaGreatDoorWM
namespace Go.Proofs.YtmnkbfflpgmkmaaGreatDoor
open Go Go.W Go.Proofs
set_option maxRecDepth 100000
def reg0 : Reg where
  T := fun _ => Unit
  has := fun _ => false
  k := fun _ => 0
  dflt := fun _ => ()
  enc := fun _ _ => []
  dec := fun _ _ => none
  isB := fun _ => false
  toS := fun _ _ => []
  ofS := fun _ _ => []
  law := by intro e l x h; cases h
  len := by intro e x; rfl
  toS_len := by intro e xs h; cases h
  toS_get := by intro e xs r h; cases h
  ofS_len := by intro e s h; cases h
  ofS_get := by intro e s r h; cases h
  Tab := fun _ => True
abbrev V0 := V reg0.T
abbrev O0 := O reg0.T
abbrev D0 := D reg0.T
abbrev TB0 := List V0 → Hp reg0.T → Out (V0 × Hp reg0.T)
def vi (n : Int) : V0 := .d (.int .i64 n)
def i6 (n : Int) : D0 := .int .i64 n
theorem mixed : Tryz.prog.follows .mixedOrders = true := by kernel_rfl
theorem noNum : (Tryz.prog.funcs.toList.all fun fn => fn.body.isNone || !(fn.name == "runtime.NumGoroutine")) = true := by kernel_rfl
theorem hno : ∀ (f : FuncId) fn, Tryz.prog.funcs[f]? = some fn → fn.body.isNone = false → (fn.name == "runtime.NumGoroutine") = false := by
  intro f fn h hb
  have := List.all_eq_true.1 noNum fn (by rw [Array.mem_toList_iff]; exact Array.mem_of_getElem? h)
  rw [hb] at this
  simpa using this
theorem there (f : Nat) (h : (match Tryz.prog.funcs[f]? with | some fn => !fn.body.isNone | none => false) = true) : There Tryz.prog f := by
  split at h
  · rename_i fn hfn
    have hb : fn.body.isNone = false := by simpa using h
    exact ⟨fn, hfn, hno f fn hfn hb, hb⟩
  · cases h
/-- What a table's row owes. -/
def RowOk (f : FuncId) (S : TB0) : Prop := ∀ args h Q, (S args h).K Q → There Tryz.prog f ∧ ∀ N F φ w cargs, (∀ r, Q r → Fresh N h.nx r.2.nx) → HR N F φ h w → LRel F w φ args cargs → Calls Tryz.prog f cargs w (CallPost N F φ h w Q)
theorem conOk_cons {f : FuncId} {S} {l : List (Nat × TB0)} (h : RowOk f S) (hl : ConOk Tryz.prog (fun g => lookN l g)) : ConOk Tryz.prog (fun g => lookN ((f, S) :: l) g) := by
  intro g S' hg
  simp only [lookN] at hg
  split at hg
  · rename_i hb
    cases hg
    rw [← Nat.eq_of_beq_eq_true hb]
    exact h
  · exact hl g S' hg
theorem conOk_nil : ConOk (reg := reg0) Tryz.prog (fun g => lookN [] g) := fun f S h => by cases h
theorem two_args {F : Nat → Prop} {w : World} {φ : Phi} {v u : V0} {cs : Array Value} (hl : LRel F w φ [v, u] cs) : ∃ c d, cs = #[c, d] ∧ VRel reg0 F w φ v c ∧ VRel reg0 F w φ u d := by
  have h1 : cs.size = 2 := hl.1.symm
  refine ⟨cs.getD 0 undef, cs.getD 1 undef, ?_, hl.2 0 (by simp), hl.2 1 (by simp)⟩
  apply Array.ext
  · simpa using h1
  · intro i h2 h3
    have h4 : i < 2 := by simpa using h3
    match i, h4 with
    | 0, _ => simp [h1]
    | 1, _ => simp [h1]
def uIx : TB0 := fun args h => match args with | [.d (.str s), .d (.int .u8 c)] => (.ret (.d (.int .i64 (Lib.indexByte s c.toNat.toUInt8)), h)) | _ => .bad
def uCt : TB0 := fun args h => match args with | [.d (.str s), .d (.str [c])] => (.ret (.d (.int .i64 (Lib.countByte s c)), h)) | _ => .bad
theorem aIx : RowOk 308 uIx := by
  intro args h Q hq
  unfold uIx at hq
  split at hq
  · rename_i s c
    refine ⟨there 308 (by kernel_rfl), fun N F φ w cargs _ hH hl => ?_⟩
    obtain ⟨x, y, rfl, hx, hy⟩ := two_args hl
    rw [hx.str_inv, hy.int_inv]
    refine (cIx _ c w).mono fun e w' ⟨he, hw⟩ => ?_
    subst hw
    exact ⟨_, he, Res.pure hH hq (.d _ _ (.int _ _))⟩
  · exact hq.elim
theorem aCt : RowOk 225 uCt := by
  intro args h Q hq
  unfold uCt at hq
  split at hq
  · rename_i s c
    refine ⟨there 225 (by kernel_rfl), fun N F φ w cargs _ hH hl => ?_⟩
    obtain ⟨x, y, rfl, hx, hy⟩ := two_args hl
    rw [hx.str_inv, hy.str_inv]
    refine (cCt _ c w).mono fun e w' ⟨he, hw⟩ => ?_
    subst hw
    exact ⟨_, he, Res.pure hH hq (.d _ _ (.int _ _))⟩
  · exact hq.elim
def C0 : Con reg0.T := fun f => lookN [(308, uIx), (225, uCt)] f
theorem C0_ok : ConOk Tryz.prog C0 := conOk_cons aIx (conOk_cons aCt conOk_nil)

/-! ### A number brought into a class -/
def wi (a n : Int) : Int := bif decide (a.tmod n < 0) then IntKind.i64.wrap (a.tmod n + n) else a.tmod n
theorem wi_of (a : Int) {n : Int} (h : 0 < n) (hn : n < 100000) : 0 ≤ wi a n ∧ wi a n < n := by
  unfold wi
  have h1 : a.tmod n < n := Int.tmod_lt_of_pos a h
  have h2 : -n < a.tmod n := Int.lt_tmod_of_pos a h
  by_cases h0 : a.tmod n < 0
  · rw [decide_eq_true h0, cond_true]
    have : IntKind.i64.wrap (a.tmod n + n) = a.tmod n + n := IntWalk.i64_in _ (by omega)
    omega
  · rw [decide_eq_false h0, cond_false]
    omega
def SW : Go.W.Spec reg0.T := ⟨Int × Int, fun a => [vi a.1, vi a.2], fun _ => [], fun a => decide (0 < a.2), fun a => .ret (vi (wi a.1 a.2), [])⟩
noncomputable def hd0 : Hd reg0.T := hdN Tryz.prog C0 1000 5
theorem hd0_sound : HdSound Tryz.prog hd0 := hdN_sound mixed hno C0_ok _ _
def MeetsE (f : Nat) (S : Go.W.Spec reg0.T) (a : S.α) : Prop := (exFun Tryz.prog hd0 1000 f (S.args a) (canH (S.objs a))).K fun r => (S.out a).All fun q => CovR (S.objs a).length r q.1 q.2
theorem vW (a n : Int) : MeetsE 7 SW (a, n) = (
  branch (!decide (n = (0 : Int)))
  (branch (decide (a.tmod n < (0 : Int))) (wi a n = IntKind.i64.wrap (a.tmod n + n) ∧ True) (wi a n = a.tmod n ∧ True))
  False) := by kernel_rfl
theorem kW : SpecOk Tryz.prog 7 SW := specOk_of_ex mixed hd0_sound hno (there 7 (by kernel_rfl)) (by
  rintro ⟨a, n⟩ h
  have h : 0 < n := by simpa [SW] using h
  have h' : ¬ n = 0 := by omega
  show MeetsE 7 SW (a, n)
  rw [vW]
  simp only [branch_iff, wi]
  by_cases h2 : a.tmod n < 0 <;> simp [h2, h'])
theorem cov_i (ρ : List (Nat × Nat)) (n : Int) : covV ρ (vi n) (vi n) := (must_iff _ _).2 ⟨rfl, rfl⟩
def MW : Meet SW where
  find args _ := match args with | [.d (.int .i64 a), .d (.int .i64 b)] => some ((a, b), []) | _ => none
  ok args g a ρ h := by
    split at h
    · cases h
      exact ⟨⟨cov_i _ _, cov_i _ _, trivial⟩, rfl, fun j o' hj => by simp [SW] at hj⟩
    · cases h
/-- The numbers' classes, where they are known: by what they are brought into. -/
def tW (l : List (Int × Int)) : Int → Option Int := fun b => match l with
  | [] => none
  | p :: l => (match decide (p.1 = b) with | true => some p.2 | false => tW l b)
def uW (l : List (Int × Int)) : TB0 := fun args h => match args with
  | [.d (.int .i64 a), .d (.int .i64 b)] => (match tW l b with
    | some v => .need (decide (0 < b) && decide (wi a b = v)) (Out.ask (Tr.ok h.nx) (.ret (vi v, ⟨h.h, h.nx, h.wr⟩)))
    | none => .bad)
  | _ => .bad
theorem aW (l : List (Int × Int)) : RowOk 7 (uW l) := by
  intro args h Q hq
  unfold uW at hq
  split at hq
  · rename_i a b
    split at hq
    · rename_i v _
      obtain ⟨hb, hq⟩ := Out.K_need.1 hq
      obtain ⟨hk, hq⟩ := Out.K_ask.1 hq
      simp only [Bool.and_eq_true, decide_eq_true_eq] at hb
      obtain ⟨h1, rfl⟩ := hb
      refine Spec.con_ok kW MW (fun _ => Nat.le_of_ble_eq_true rfl) _ h Q ?_
      exact (must_iff _ _).2 ⟨decide_eq_true h1, Out.K_ask.2 ⟨by rw [Bool.and_eq_true]; exact ⟨rfl, hk⟩, hq⟩⟩
    · exact hq.elim
  · exact hq.elim
def C1 (l : List (Int × Int)) : Con reg0.T := fun f => lookN [(308, uIx), (225, uCt), (7, uW l)] f
theorem C1_ok (l : List (Int × Int)) : ConOk Tryz.prog (C1 l) := conOk_cons aIx (conOk_cons aCt (conOk_cons (aW l) conOk_nil))

/-! ### Rows of tables -/
def sh (n i : Nat) : Nat := n + i
/-- A call that takes a state and something, and answers a state and something. -/
def mkS (sa : V0) (oa : List O0) (x : V0) (sb : V0) (ob : List O0) (o : V0) (oo : List O0) : Memo reg0.T :=
  ⟨[sa, x], oa, .tup [sb.ren (sh oa.length), o.ren (sh (oa.length + ob.length))], oa.map some ++ (ob.map (fun u => some (u.ren (sh oa.length))) ++ oo.map (fun u => some (u.ren (sh (oa.length + ob.length)))))⟩
abbrev Row0 (f : Nat) (m : Memo reg0.T) : Prop := RowG Tryz.prog C0 1000 60 f m
def Rows0 (f : Nat) : List (Memo reg0.T) → Prop
  | [] => True
  | m :: l => Row0 f m ∧ Rows0 f l
theorem rows0_all {f : Nat} : ∀ {l : List (Memo reg0.T)}, Rows0 f l → ∀ m ∈ l, Row0 f m
  | [], _, m, h => by cases h
  | a :: l, h, m, hm => by
    rcases List.mem_cons.1 hm with rfl | hm
    · exact h.1
    · exact rows0_all h.2 m hm
def small0 : List (Memo reg0.T) → Bool := fun l => l.all fun m => Nat.ble m.objs.length 1000
theorem small0_all {l : List (Memo reg0.T)} (h : small0 l = true) : ∀ m ∈ l, m.objs.length ≤ 1000000 := fun m hm => by
  have := Nat.le_of_ble_eq_true (List.all_eq_true.1 h m hm)
  omega
/-- Tables of some functions. -/
def tabsOf (l : List (Nat × List (Memo reg0.T))) : Tabs reg0.T := fun f => lookN l f
theorem tabs_nil : TabsOk (reg := reg0) Tryz.prog (tabsOf []) := fun f tab h => by cases h
theorem tabs_cons {f : Nat} {tab : List (Memo reg0.T)} {l : List (Nat × List (Memo reg0.T))} (ht : (match Tryz.prog.funcs[f]? with | some fn => !fn.body.isNone | none => false) = true) (hr : Rows0 f tab) (hs : small0 tab = true) (hl : TabsOk Tryz.prog (tabsOf l)) : TabsOk Tryz.prog (tabsOf ((f, tab) :: l)) := by
  intro g tab' hg
  unfold tabsOf at hg
  simp only [lookN] at hg
  split at hg
  · rename_i hb
    cases hg
    rw [← Nat.eq_of_beq_eq_true hb]
    exact ⟨specG mixed hno C0_ok (there f ht) (rows0_all hr), small0_all hs⟩
  · exact hl g tab' hg
end Go.Proofs.YtmnkbfflpgmkmaaGreatDoor
