/- Closed runs of the router's scenarios: the registry, what has no body, a number brought into a class, tables of calls. No conditions. -/
import Derived.Test.YtbcmfkognanjdaaGreatDoorCx
import Derived.Test.YtbcmfkognanjdaaGreatDoorVj
import Derived.Test.YtbcmfkognanjdaaGreatDoorVc
namespace Go.Proofs.YtbcmfkognanjdaaGreatDoor
open Go Go.W Go.Proofs
set_option maxRecDepth 100000
def reg0 : Reg where
  T := fun _ => Unit
  has := fun _ => false
  k := fun _ => 0
  dflt := fun _ => ()
  enc := fun _ _ => []
  dec := fun _ _ => none
  isB := fun _ => false
  toS := fun _ _ => []
  ofS := fun _ _ => []
  law := by intro e l x h; cases h
  len := by intro e x; rfl
  toS_len := by intro e xs h; cases h
  toS_get := by intro e xs r h; cases h
  ofS_len := by intro e s h; cases h
  ofS_get := by intro e s r h; cases h
  Tab := fun _ => True
abbrev V0 := V reg0.T
abbrev O0 := O reg0.T
abbrev D0 := D reg0.T
abbrev TB0 := List V0 → Hp reg0.T → Out (V0 × Hp reg0.T)
def vi (n : Int) : V0 := .d (.int .i64 n)
def i6 (n : Int) : D0 := .int .i64 n
theorem mixed : Tryz.prog.follows .mixedOrders = true := by kernel_rfl
theorem noNum : (Tryz.prog.funcs.toList.all fun fn => fn.body.isNone || !(fn.name == "runtime.NumGoroutine")) = true := by kernel_rfl
theorem hno : ∀ (f : FuncId) fn, Tryz.prog.funcs[f]? = some fn → fn.body.isNone = false → (fn.name == "runtime.NumGoroutine") = false := by
  intro f fn h hb
  have := List.all_eq_true.1 noNum fn (by rw [Array.mem_toList_iff]; exact Array.mem_of_getElem? h)
  rw [hb] at this
  simpa using this
theorem there (f : Nat) (h : (match Tryz.prog.funcs[f]? with | some fn => !fn.body.isNone | none => false) = true) : There Tryz.prog f := by
  split at h
  · rename_i fn hfn
    have hb : fn.body.isNone = false := by simpa using h
    exact ⟨fn, hfn, hno f fn hfn hb, hb⟩
  · cases h
/-- What a table's row owes. -/
def RowOk (f : FuncId) (S : TB0) : Prop := ∀ args h Q, (S args h).K Q → There Tryz.prog f ∧ ∀ N F φ w cargs, (∀ r, Q r → Fresh N h.nx r.2.nx) → HR N F φ h w → LRel F w φ args cargs → Calls Tryz.prog f cargs w (CallPost N F φ h w Q)
theorem conOk_cons {f : FuncId} {S} {l : List (Nat × TB0)} (h : RowOk f S) (hl : ConOk Tryz.prog (fun g => lookN l g)) : ConOk Tryz.prog (fun g => lookN ((f, S) :: l) g) := by
  intro g S' hg
  simp only [lookN] at hg
  split at hg
  · rename_i hb
    cases hg
    rw [← Nat.eq_of_beq_eq_true hb]
    exact h
  · exact hl g S' hg
theorem conOk_nil : ConOk (reg := reg0) Tryz.prog (fun g => lookN [] g) := fun f S h => by cases h
theorem two_args {F : Nat → Prop} {w : World} {φ : Phi} {v u : V0} {cs : Array Value} (hl : LRel F w φ [v, u] cs) : ∃ c d, cs = #[c, d] ∧ VRel reg0 F w φ v c ∧ VRel reg0 F w φ u d := by
  have h1 : cs.size = 2 := hl.1.symm
  refine ⟨cs.getD 0 undef, cs.getD 1 undef, ?_, hl.2 0 (by simp), hl.2 1 (by simp)⟩
  apply Array.ext
  · simpa using h1
  · intro i h2 h3
    have h4 : i < 2 := by simpa using h3
    match i, h4 with
    | 0, _ => simp [h1]
    | 1, _ => simp [h1]
def uIx : TB0 := fun args h => match args with | [.d (.str s), .d (.int .u8 c)] => (.ret (.d (.int .i64 (Lib.indexByte s c.toNat.toUInt8)), h)) | _ => .bad
def uCt : TB0 := fun args h => match args with | [.d (.str s), .d (.str [c])] => (.ret (.d (.int .i64 (Lib.countByte s c)), h)) | _ => .bad
theorem aIx : RowOk 327 uIx := by
  intro args h Q hq
  unfold uIx at hq
  split at hq
  · rename_i s c
    refine ⟨there 327 (by kernel_rfl), fun N F φ w cargs _ hH hl => ?_⟩
    obtain ⟨x, y, rfl, hx, hy⟩ := two_args hl
    rw [hx.str_inv, hy.int_inv]
    refine (cIx _ c w).mono fun e w' ⟨he, hw⟩ => ?_
    subst hw
    exact ⟨_, he, Res.pure hH hq (.d _ _ (.int _ _))⟩
  · exact hq.elim
theorem aCt : RowOk 240 uCt := by
  intro args h Q hq
  unfold uCt at hq
  split at hq
  · rename_i s c
    refine ⟨there 240 (by kernel_rfl), fun N F φ w cargs _ hH hl => ?_⟩
    obtain ⟨x, y, rfl, hx, hy⟩ := two_args hl
    rw [hx.str_inv, hy.str_inv]
    refine (cCt _ c w).mono fun e w' ⟨he, hw⟩ => ?_
    subst hw
    exact ⟨_, he, Res.pure hH hq (.d _ _ (.int _ _))⟩
  · exact hq.elim
def Cb : Con reg0.T := fun f => lookN [(327, uIx), (240, uCt)] f
theorem Cb_ok : ConOk Tryz.prog Cb := conOk_cons aIx (conOk_cons aCt conOk_nil)
/-! ### Small functions by tables -/
abbrev RowB (f : Nat) (m : Memo reg0.T) : Prop := RowG Tryz.prog Cb 1000 60 f m
def RowsB (f : Nat) : List (Memo reg0.T) → Prop
  | [] => True
  | m :: l => RowB f m ∧ RowsB f l
theorem rowsB_all {f : Nat} : ∀ {l : List (Memo reg0.T)}, RowsB f l → ∀ m ∈ l, RowB f m
  | [], _, m, h => by cases h
  | a :: l, h, m, hm => by
    rcases List.mem_cons.1 hm with rfl | hm
    · exact h.1
    · exact rowsB_all h.2 m hm
def smallB (l : List (Memo reg0.T)) : Bool := l.all fun m => Nat.ble m.objs.length 1000
theorem smallB_all {l : List (Memo reg0.T)} (h : smallB l = true) : ∀ m ∈ l, m.objs.length ≤ 1000000 := fun m hm => by
  have := Nat.le_of_ble_eq_true (List.all_eq_true.1 h m hm)
  omega
noncomputable def uMemo (f : Nat) (tab : List (Memo reg0.T)) : TB0 := fun args h => tabG tab args h (Out.ofO (exFunF Tryz.prog (hdF Tryz.prog Cb 1000 60) 1000 f args h))
theorem aMemo {f : Nat} {tab : List (Memo reg0.T)} (ht : (match Tryz.prog.funcs[f]? with | some fn => !fn.body.isNone | none => false) = true) (hr : RowsB f tab) (hs : smallB tab = true) : RowOk f (uMemo f tab) := by
  intro args h Q hq
  unfold uMemo tabG at hq
  split at hq
  · exact Spec.con_ok (specG mixed hno Cb_ok (there f ht) (rowsB_all hr)) (memoMeet tab) (memo_size (smallB_all hs)) args h Q hq
  · obtain ⟨r, h1, h2⟩ := Out.K_ofO.1 hq
    exact exFun_sound mixed (hdN_sound mixed hno Cb_ok 1000 60) hno 1000 f args h Q (exFunF_K _ h1 h2)
def lf0_0 : Memo reg0.T := ⟨[.agg [.d (i6 (0)), .d (i6 (0))]], [], .d (.bool true), []⟩
theorem lf0_0_ok : RowB 311 lf0_0 := ⟨by kernel_rfl⟩
def lf0_1 : Memo reg0.T := ⟨[.agg [.d (i6 (50)), .d (i6 (50))]], [], .d (.bool true), []⟩
theorem lf0_1_ok : RowB 311 lf0_1 := ⟨by kernel_rfl⟩
def lf0_2 : Memo reg0.T := ⟨[.agg [.d (i6 (1)), .d (i6 (1))]], [], .d (.bool true), []⟩
theorem lf0_2_ok : RowB 311 lf0_2 := ⟨by kernel_rfl⟩
def lf0_3 : Memo reg0.T := ⟨[.agg [.d (i6 (10)), .d (i6 (10))]], [], .d (.bool true), []⟩
theorem lf0_3_ok : RowB 311 lf0_3 := ⟨by kernel_rfl⟩
def lf0_4 : Memo reg0.T := ⟨[.agg [.d (i6 (40)), .d (i6 (40))]], [], .d (.bool true), []⟩
theorem lf0_4_ok : RowB 311 lf0_4 := ⟨by kernel_rfl⟩
def lfT0 : List (Memo reg0.T) := [lf0_0, lf0_1, lf0_2, lf0_3, lf0_4]
theorem lfT0_ok : RowsB 311 lfT0 := ⟨lf0_0_ok, lf0_1_ok, lf0_2_ok, lf0_3_ok, lf0_4_ok, trivial⟩
def lf1_0 : Memo reg0.T := ⟨[.d (.nils)], [], .sl 0 0 0 (.exact 0), [some (.rows 1 [])]⟩
theorem lf1_0_ok : RowB 132 lf1_0 := ⟨by kernel_rfl⟩
def lf1_1 : Memo reg0.T := ⟨[.sl 0 0 0 (.exact 0)], [.rows 1 []], .sl 1 0 0 (.exact 0), [some (.rows 1 []), some (.rows 1 [])]⟩
theorem lf1_1_ok : RowB 132 lf1_1 := ⟨by kernel_rfl⟩
def lfT1 : List (Memo reg0.T) := [lf1_0, lf1_1]
theorem lfT1_ok : RowsB 132 lfT1 := ⟨lf1_0_ok, lf1_1_ok, trivial⟩
def lf2_0 : Memo reg0.T := ⟨[.agg [.sl 0 0 1 (.least 1), .sl 1 0 1 (.least 1)], .d (.str [114, 111, 111, 116])], [.rows 1 [[.d (.str [])]], .rows 3 [[.d (.str [114, 111, 111, 116]), .sl 2 0 1 (.least 1), .d (i6 (10000))]], .rows 2 [[.d (i6 (10000)), .d (i6 (10000))]]], .tup [.agg [.d (.str [114, 111, 111, 116]), .sl 3 0 1 (.least 1), .d (i6 (10000))], .d (.bool true)], [some (.rows 1 [[.d (.str [])]]), some (.rows 3 [[.d (.str [114, 111, 111, 116]), .sl 2 0 1 (.least 1), .d (i6 (10000))]]), some (.rows 2 [[.d (i6 (10000)), .d (i6 (10000))]]), some (.rows 2 [[.d (i6 (10000)), .d (i6 (10000))]])]⟩
theorem lf2_0_ok : RowB 165 lf2_0 := ⟨by kernel_rfl⟩
def lfT2 : List (Memo reg0.T) := [lf2_0]
theorem lfT2_ok : RowsB 165 lfT2 := ⟨lf2_0_ok, trivial⟩
def lf3_0 : Memo reg0.T := ⟨[.d (.str [114, 111, 111, 116]), .d (.int .u8 (46))], [], .d (i6 (-1)), []⟩
theorem lf3_0_ok : RowB 292 lf3_0 := ⟨by kernel_rfl⟩
def lfT3 : List (Memo reg0.T) := [lf3_0]
theorem lfT3_ok : RowsB 292 lfT3 := ⟨lf3_0_ok, trivial⟩
def lf4_0 : Memo reg0.T := ⟨[.d (.int .u64 (0)), .d (.int .u64 (500000)), .d (.int .u64 (10000))], [], .tup [.d (.int .u64 (50)), .d (.int .u64 (0))], []⟩
theorem lf4_0_ok : RowB 385 lf4_0 := ⟨by kernel_rfl⟩
def lf4_1 : Memo reg0.T := ⟨[.d (.int .u64 (0)), .d (.int .u64 (100000)), .d (.int .u64 (10000))], [], .tup [.d (.int .u64 (10)), .d (.int .u64 (0))], []⟩
theorem lf4_1_ok : RowB 385 lf4_1 := ⟨by kernel_rfl⟩
def lf4_2 : Memo reg0.T := ⟨[.d (.int .u64 (0)), .d (.int .u64 (400000)), .d (.int .u64 (10000))], [], .tup [.d (.int .u64 (40)), .d (.int .u64 (0))], []⟩
theorem lf4_2_ok : RowB 385 lf4_2 := ⟨by kernel_rfl⟩
def lfT4 : List (Memo reg0.T) := [lf4_0, lf4_1, lf4_2]
theorem lfT4_ok : RowsB 385 lfT4 := ⟨lf4_0_ok, lf4_1_ok, lf4_2_ok, trivial⟩
def lf5_0 : Memo reg0.T := ⟨[.d (.int .u64 (50)), .d (.int .u64 (10000))], [], .tup [.d (.int .u64 (0)), .d (.int .u64 (500000))], []⟩
theorem lf5_0_ok : RowB 384 lf5_0 := ⟨by kernel_rfl⟩
def lf5_1 : Memo reg0.T := ⟨[.d (.int .u64 (10)), .d (.int .u64 (10000))], [], .tup [.d (.int .u64 (0)), .d (.int .u64 (100000))], []⟩
theorem lf5_1_ok : RowB 384 lf5_1 := ⟨by kernel_rfl⟩
def lf5_2 : Memo reg0.T := ⟨[.d (.int .u64 (40)), .d (.int .u64 (10000))], [], .tup [.d (.int .u64 (0)), .d (.int .u64 (400000))], []⟩
theorem lf5_2_ok : RowB 384 lf5_2 := ⟨by kernel_rfl⟩
def lfT5 : List (Memo reg0.T) := [lf5_0, lf5_1, lf5_2]
theorem lfT5_ok : RowsB 384 lfT5 := ⟨lf5_0_ok, lf5_1_ok, lf5_2_ok, trivial⟩
def lf6_0 : Memo reg0.T := ⟨[.sl 0 0 1 (.least 1)], [.rows 8 [[.d (i6 (0)), .d (i6 (0)), .d (i6 (1)), .d (i6 (1)), .d (i6 (1)), .d (i6 (-1)), .d (i6 (-1)), .d (i6 (0))]]], .sl 1 0 1 (.least 1), [some (.rows 8 [[.d (i6 (0)), .d (i6 (0)), .d (i6 (1)), .d (i6 (1)), .d (i6 (1)), .d (i6 (-1)), .d (i6 (-1)), .d (i6 (0))]]), some (.rows 8 [[.d (i6 (0)), .d (i6 (0)), .d (i6 (1)), .d (i6 (1)), .d (i6 (1)), .d (i6 (-1)), .d (i6 (-1)), .d (i6 (0))]])]⟩
theorem lf6_0_ok : RowB 131 lf6_0 := ⟨by kernel_rfl⟩
def lf6_1 : Memo reg0.T := ⟨[.d (.nils)], [], .d (.nils), []⟩
theorem lf6_1_ok : RowB 131 lf6_1 := ⟨by kernel_rfl⟩
def lf6_2 : Memo reg0.T := ⟨[.sl 0 0 1 (.least 1)], [.rows 8 [[.d (i6 (2)), .d (i6 (0)), .d (i6 (1)), .d (i6 (1)), .d (i6 (20)), .d (i6 (-1)), .d (i6 (-1)), .d (i6 (0))]]], .sl 1 0 1 (.least 1), [some (.rows 8 [[.d (i6 (2)), .d (i6 (0)), .d (i6 (1)), .d (i6 (1)), .d (i6 (20)), .d (i6 (-1)), .d (i6 (-1)), .d (i6 (0))]]), some (.rows 8 [[.d (i6 (2)), .d (i6 (0)), .d (i6 (1)), .d (i6 (1)), .d (i6 (20)), .d (i6 (-1)), .d (i6 (-1)), .d (i6 (0))]])]⟩
theorem lf6_2_ok : RowB 131 lf6_2 := ⟨by kernel_rfl⟩
def lf6_3 : Memo reg0.T := ⟨[.sl 0 0 1 (.least 1)], [.rows 8 [[.d (i6 (1)), .d (i6 (0)), .d (i6 (1)), .d (i6 (1)), .d (i6 (2)), .d (i6 (-1)), .d (i6 (-1)), .d (i6 (0))]]], .sl 1 0 1 (.least 1), [some (.rows 8 [[.d (i6 (1)), .d (i6 (0)), .d (i6 (1)), .d (i6 (1)), .d (i6 (2)), .d (i6 (-1)), .d (i6 (-1)), .d (i6 (0))]]), some (.rows 8 [[.d (i6 (1)), .d (i6 (0)), .d (i6 (1)), .d (i6 (1)), .d (i6 (2)), .d (i6 (-1)), .d (i6 (-1)), .d (i6 (0))]])]⟩
theorem lf6_3_ok : RowB 131 lf6_3 := ⟨by kernel_rfl⟩
def lf6_4 : Memo reg0.T := ⟨[.sl 0 0 1 (.least 1)], [.rows 8 [[.d (i6 (2)), .d (i6 (0)), .d (i6 (1)), .d (i6 (1)), .d (i6 (20)), .d (i6 (-1)), .d (i6 (0)), .d (i6 (0))]]], .sl 1 0 1 (.least 1), [some (.rows 8 [[.d (i6 (2)), .d (i6 (0)), .d (i6 (1)), .d (i6 (1)), .d (i6 (20)), .d (i6 (-1)), .d (i6 (0)), .d (i6 (0))]]), some (.rows 8 [[.d (i6 (2)), .d (i6 (0)), .d (i6 (1)), .d (i6 (1)), .d (i6 (20)), .d (i6 (-1)), .d (i6 (0)), .d (i6 (0))]])]⟩
theorem lf6_4_ok : RowB 131 lf6_4 := ⟨by kernel_rfl⟩
def lf6_5 : Memo reg0.T := ⟨[.sl 0 0 0 (.exact 0)], [.rows 8 []], .sl 1 0 0 (.exact 0), [some (.rows 8 []), some (.rows 8 [])]⟩
theorem lf6_5_ok : RowB 131 lf6_5 := ⟨by kernel_rfl⟩
def lf6_6 : Memo reg0.T := ⟨[.sl 0 0 1 (.least 1)], [.rows 8 [[.d (i6 (2)), .d (i6 (0)), .d (i6 (1)), .d (i6 (1)), .d (i6 (20)), .d (i6 (-1)), .d (i6 (1)), .d (i6 (0))]]], .sl 1 0 1 (.least 1), [some (.rows 8 [[.d (i6 (2)), .d (i6 (0)), .d (i6 (1)), .d (i6 (1)), .d (i6 (20)), .d (i6 (-1)), .d (i6 (1)), .d (i6 (0))]]), some (.rows 8 [[.d (i6 (2)), .d (i6 (0)), .d (i6 (1)), .d (i6 (1)), .d (i6 (20)), .d (i6 (-1)), .d (i6 (1)), .d (i6 (0))]])]⟩
theorem lf6_6_ok : RowB 131 lf6_6 := ⟨by kernel_rfl⟩
def lfT6 : List (Memo reg0.T) := [lf6_0, lf6_1, lf6_2, lf6_3, lf6_4, lf6_5, lf6_6]
theorem lfT6_ok : RowsB 131 lfT6 := ⟨lf6_0_ok, lf6_1_ok, lf6_2_ok, lf6_3_ok, lf6_4_ok, lf6_5_ok, lf6_6_ok, trivial⟩
def lf7_0 : Memo reg0.T := ⟨[.sl 0 0 1 (.exact 1)], [.rows 2 [[.d (i6 (10000)), .d (i6 (10000))]]], .sl 1 0 1 (.least 1), [some (.rows 2 [[.d (i6 (10000)), .d (i6 (10000))]]), some (.rows 2 [[.d (i6 (10000)), .d (i6 (10000))]])]⟩
theorem lf7_0_ok : RowB 77 lf7_0 := ⟨by kernel_rfl⟩
def lf7_1 : Memo reg0.T := ⟨[.sl 0 0 1 (.least 1)], [.rows 2 [[.d (i6 (10000)), .d (i6 (10000))]]], .sl 1 0 1 (.least 1), [some (.rows 2 [[.d (i6 (10000)), .d (i6 (10000))]]), some (.rows 2 [[.d (i6 (10000)), .d (i6 (10000))]])]⟩
theorem lf7_1_ok : RowB 77 lf7_1 := ⟨by kernel_rfl⟩
def lfT7 : List (Memo reg0.T) := [lf7_0, lf7_1]
theorem lfT7_ok : RowsB 77 lfT7 := ⟨lf7_0_ok, lf7_1_ok, trivial⟩
def lf8_0 : Memo reg0.T := ⟨[.d (.nils)], [], .d (.nils), []⟩
theorem lf8_0_ok : RowB 81 lf8_0 := ⟨by kernel_rfl⟩
def lfT8 : List (Memo reg0.T) := [lf8_0]
theorem lfT8_ok : RowsB 81 lfT8 := ⟨lf8_0_ok, trivial⟩
def lf9_0 : Memo reg0.T := ⟨[.sl 0 0 1 (.exact 1)], [.rows 3 [[.d (.str [114, 111, 111, 116]), .sl 1 0 1 (.exact 1), .d (i6 (10000))]], .rows 2 [[.d (i6 (10000)), .d (i6 (10000))]]], .sl 2 0 1 (.least 1), [some (.rows 3 [[.d (.str [114, 111, 111, 116]), .sl 1 0 1 (.exact 1), .d (i6 (10000))]]), some (.rows 2 [[.d (i6 (10000)), .d (i6 (10000))]]), some (.rows 3 [[.d (.str [114, 111, 111, 116]), .sl 1 0 1 (.exact 1), .d (i6 (10000))]])]⟩
theorem lf9_0_ok : RowB 76 lf9_0 := ⟨by kernel_rfl⟩
def lf9_1 : Memo reg0.T := ⟨[.sl 0 0 1 (.least 1)], [.rows 3 [[.d (.str [114, 111, 111, 116]), .sl 1 0 1 (.least 1), .d (i6 (10000))]], .rows 2 [[.d (i6 (10000)), .d (i6 (10000))]]], .sl 2 0 1 (.least 1), [some (.rows 3 [[.d (.str [114, 111, 111, 116]), .sl 1 0 1 (.least 1), .d (i6 (10000))]]), some (.rows 2 [[.d (i6 (10000)), .d (i6 (10000))]]), some (.rows 3 [[.d (.str [114, 111, 111, 116]), .sl 1 0 1 (.least 1), .d (i6 (10000))]])]⟩
theorem lf9_1_ok : RowB 76 lf9_1 := ⟨by kernel_rfl⟩
def lfT9 : List (Memo reg0.T) := [lf9_0, lf9_1]
theorem lfT9_ok : RowsB 76 lfT9 := ⟨lf9_0_ok, lf9_1_ok, trivial⟩
def lf10_0 : Memo reg0.T := ⟨[.d (.nils)], [], .d (.nils), []⟩
theorem lf10_0_ok : RowB 80 lf10_0 := ⟨by kernel_rfl⟩
def lfT10 : List (Memo reg0.T) := [lf10_0]
theorem lfT10_ok : RowsB 80 lfT10 := ⟨lf10_0_ok, trivial⟩
def lf11_0 : Memo reg0.T := ⟨[.sl 0 0 1 (.exact 1)], [.rows 1 [[.d (.str [])]]], .sl 1 0 1 (.least 1), [some (.rows 1 [[.d (.str [])]]), some (.rows 1 [[.d (.str [])]])]⟩
theorem lf11_0_ok : RowB 75 lf11_0 := ⟨by kernel_rfl⟩
def lf11_1 : Memo reg0.T := ⟨[.sl 0 0 1 (.least 1)], [.rows 1 [[.d (.str [])]]], .sl 1 0 1 (.least 1), [some (.rows 1 [[.d (.str [])]]), some (.rows 1 [[.d (.str [])]])]⟩
theorem lf11_1_ok : RowB 75 lf11_1 := ⟨by kernel_rfl⟩
def lfT11 : List (Memo reg0.T) := [lf11_0, lf11_1]
theorem lfT11_ok : RowsB 75 lfT11 := ⟨lf11_0_ok, lf11_1_ok, trivial⟩
def lf12_0 : Memo reg0.T := ⟨[.d (.str [114, 111, 111, 116]), .d (.str [46])], [], .d (i6 (-1)), []⟩
theorem lf12_0_ok : RowB 245 lf12_0 := ⟨by kernel_rfl⟩
def lfT12 : List (Memo reg0.T) := [lf12_0]
theorem lfT12_ok : RowsB 245 lfT12 := ⟨lf12_0_ok, trivial⟩
noncomputable def C0 : Con reg0.T := fun f => lookN [(327, uIx), (240, uCt), (311, uMemo 311 lfT0), (132, uMemo 132 lfT1), (165, uMemo 165 lfT2), (292, uMemo 292 lfT3), (385, uMemo 385 lfT4), (384, uMemo 384 lfT5), (131, uMemo 131 lfT6), (77, uMemo 77 lfT7), (81, uMemo 81 lfT8), (76, uMemo 76 lfT9), (80, uMemo 80 lfT10), (75, uMemo 75 lfT11), (245, uMemo 245 lfT12)] f
theorem C0_ok : ConOk Tryz.prog C0 := conOk_cons aIx (conOk_cons aCt (conOk_cons (aMemo (by kernel_rfl) lfT0_ok rfl) (conOk_cons (aMemo (by kernel_rfl) lfT1_ok rfl) (conOk_cons (aMemo (by kernel_rfl) lfT2_ok rfl) (conOk_cons (aMemo (by kernel_rfl) lfT3_ok rfl) (conOk_cons (aMemo (by kernel_rfl) lfT4_ok rfl) (conOk_cons (aMemo (by kernel_rfl) lfT5_ok rfl) (conOk_cons (aMemo (by kernel_rfl) lfT6_ok rfl) (conOk_cons (aMemo (by kernel_rfl) lfT7_ok rfl) (conOk_cons (aMemo (by kernel_rfl) lfT8_ok rfl) (conOk_cons (aMemo (by kernel_rfl) lfT9_ok rfl) (conOk_cons (aMemo (by kernel_rfl) lfT10_ok rfl) (conOk_cons (aMemo (by kernel_rfl) lfT11_ok rfl) (conOk_cons (aMemo (by kernel_rfl) lfT12_ok rfl) (conOk_nil)))))))))))))))
/-! ### A number brought into a class -/
def wi (a n : Int) : Int := bif decide (a.tmod n < 0) then IntKind.i64.wrap (a.tmod n + n) else a.tmod n
theorem wi_of (a : Int) {n : Int} (h : 0 < n) (hn : n < 100000) : 0 ≤ wi a n ∧ wi a n < n := by
  unfold wi
  have h1 : a.tmod n < n := Int.tmod_lt_of_pos a h
  have h2 : -n < a.tmod n := Int.lt_tmod_of_pos a h
  by_cases h0 : a.tmod n < 0
  · rw [decide_eq_true h0, cond_true]
    have : IntKind.i64.wrap (a.tmod n + n) = a.tmod n + n := IntWalk.i64_in _ (by omega)
    omega
  · rw [decide_eq_false h0, cond_false]
    omega
def SW : Go.W.Spec reg0.T := ⟨Int × Int, fun a => [vi a.1, vi a.2], fun _ => [], fun a => decide (0 < a.2), fun a => .ret (vi (wi a.1 a.2), [])⟩
noncomputable def hd0 : Hd reg0.T := hdN Tryz.prog C0 1000 5
theorem hd0_sound : HdSound Tryz.prog hd0 := hdN_sound mixed hno C0_ok _ _
def MeetsE (f : Nat) (S : Go.W.Spec reg0.T) (a : S.α) : Prop := (exFun Tryz.prog hd0 1000 f (S.args a) (canH (S.objs a))).K fun r => (S.out a).All fun q => CovR (S.objs a).length r q.1 q.2
theorem vW (a n : Int) : MeetsE 9 SW (a, n) = (
  branch (!decide (n = (0 : Int)))
  (branch (decide (a.tmod n < (0 : Int))) (wi a n = IntKind.i64.wrap (a.tmod n + n) ∧ True) (wi a n = a.tmod n ∧ True))
  False) := by kernel_rfl
theorem kW : SpecOk Tryz.prog 9 SW := specOk_of_ex mixed hd0_sound hno (there 9 (by kernel_rfl)) (by
  rintro ⟨a, n⟩ h
  have h : 0 < n := by simpa [SW] using h
  have h' : ¬ n = 0 := by omega
  show MeetsE 9 SW (a, n)
  rw [vW]
  simp only [branch_iff, wi]
  by_cases h2 : a.tmod n < 0 <;> simp [h2, h'])
theorem cov_i (ρ : List (Nat × Nat)) (n : Int) : covV ρ (vi n) (vi n) := (must_iff _ _).2 ⟨rfl, rfl⟩
def MW : Meet SW where
  find args _ := match args with | [.d (.int .i64 a), .d (.int .i64 b)] => some ((a, b), []) | _ => none
  ok args g a ρ h := by
    split at h
    · cases h
      exact ⟨⟨cov_i _ _, cov_i _ _, trivial⟩, rfl, fun j o' hj => by simp [SW] at hj⟩
    · cases h
/-- The numbers' classes, where they are known: by what they are brought into. -/
def tW (l : List (Int × Int)) : Int → Option Int := fun b => match l with
  | [] => none
  | p :: l => (match decide (p.1 = b) with | true => some p.2 | false => tW l b)
def uW (l : List (Int × Int)) : TB0 := fun args h => match args with
  | [.d (.int .i64 a), .d (.int .i64 b)] => (match tW l b with
    | some v => .need (decide (0 < b) && decide (wi a b = v)) (Out.ask (Tr.ok h.nx) (.ret (vi v, ⟨h.h, h.nx, h.wr⟩)))
    | none => .bad)
  | _ => .bad
theorem aW (l : List (Int × Int)) : RowOk 9 (uW l) := by
  intro args h Q hq
  unfold uW at hq
  split at hq
  · rename_i a b
    split at hq
    · rename_i v _
      obtain ⟨hb, hq⟩ := Out.K_need.1 hq
      obtain ⟨hk, hq⟩ := Out.K_ask.1 hq
      simp only [Bool.and_eq_true, decide_eq_true_eq] at hb
      obtain ⟨h1, rfl⟩ := hb
      refine Spec.con_ok kW MW (fun _ => Nat.le_of_ble_eq_true rfl) _ h Q ?_
      exact (must_iff _ _).2 ⟨decide_eq_true h1, Out.K_ask.2 ⟨by rw [Bool.and_eq_true]; exact ⟨rfl, hk⟩, hq⟩⟩
    · exact hq.elim
  · exact hq.elim
/-! ### Rows of tables -/
def sh (n i : Nat) : Nat := n + i
/-- A call that takes a state and something, and answers a state and something. -/
def mkS (sa : V0) (oa : List O0) (x : V0) (sb : V0) (ob : List O0) (o : V0) (oo : List O0) : Memo reg0.T :=
  ⟨[sa, x], oa, .tup [sb.ren (sh oa.length), o.ren (sh (oa.length + ob.length))], oa.map some ++ (ob.map (fun u => some (u.ren (sh oa.length))) ++ oo.map (fun u => some (u.ren (sh (oa.length + ob.length)))))⟩
/-- The same, with two answers more that are data. -/
def mkO (sa : V0) (oa : List O0) (x : V0) (sb : V0) (ob : List O0) (r1 r2 : V0) : Memo reg0.T :=
  ⟨[sa, x], oa, .tup [sb.ren (sh oa.length), r1, r2], oa.map some ++ ob.map (fun u => some (u.ren (sh oa.length)))⟩
abbrev RowC (C : Con reg0.T) (f : Nat) (m : Memo reg0.T) : Prop := RowG Tryz.prog C 1000 60 f m
def RowsC (C : Con reg0.T) (f : Nat) : List (Memo reg0.T) → Prop
  | [] => True
  | m :: l => RowC C f m ∧ RowsC C f l
theorem rowsC_all {C : Con reg0.T} {f : Nat} : ∀ {l : List (Memo reg0.T)}, RowsC C f l → ∀ m ∈ l, RowC C f m
  | [], _, m, h => by cases h
  | a :: l, h, m, hm => by
    rcases List.mem_cons.1 hm with rfl | hm
    · exact h.1
    · exact rowsC_all h.2 m hm
noncomputable def uMemoC (C : Con reg0.T) (f : Nat) (tab : List (Memo reg0.T)) : TB0 := fun args h => tabG tab args h (Out.ofO (exFunF Tryz.prog (hdF Tryz.prog C 1000 60) 1000 f args h))
theorem aMemoC {C : Con reg0.T} (hC : ConOk Tryz.prog C) {f : Nat} {tab : List (Memo reg0.T)} (ht : (match Tryz.prog.funcs[f]? with | some fn => !fn.body.isNone | none => false) = true) (hr : RowsC C f tab) (hs : smallB tab = true) : RowOk f (uMemoC C f tab) := by
  intro args h Q hq
  unfold uMemoC tabG at hq
  split at hq
  · exact Spec.con_ok (specG mixed hno hC (there f ht) (rowsC_all hr)) (memoMeet tab) (memo_size (smallB_all hs)) args h Q hq
  · obtain ⟨r, h1, h2⟩ := Out.K_ofO.1 hq
    exact exFun_sound mixed (hdN_sound mixed hno hC 1000 60) hno 1000 f args h Q (exFunF_K _ h1 h2)
/-- Calls, and one function more. -/
noncomputable def conAdd (C : Con reg0.T) (f : Nat) (S : TB0) : Con reg0.T := fun g => match Nat.beq f g with | true => some S | false => C g
theorem conAdd_ok {C : Con reg0.T} (hC : ConOk Tryz.prog C) {f : Nat} {S : TB0} (h : RowOk f S) : ConOk Tryz.prog (conAdd C f S) := by
  intro g S' hg
  unfold conAdd at hg
  split at hg
  · rename_i hb
    cases hg
    rw [← Nat.eq_of_beq_eq_true hb]
    exact h
  · exact hC g S' hg
/-- Tables of some functions. -/
def tabsOf (l : List (Nat × List (Memo reg0.T))) : Tabs reg0.T := fun f => lookN l f
theorem tabs_nil : TabsOk (reg := reg0) Tryz.prog (tabsOf []) := fun f tab h => by cases h
theorem tabs_cons {C : Con reg0.T} (hC : ConOk Tryz.prog C) {f : Nat} {tab : List (Memo reg0.T)} {l : List (Nat × List (Memo reg0.T))} (ht : (match Tryz.prog.funcs[f]? with | some fn => !fn.body.isNone | none => false) = true) (hr : RowsC C f tab) (hs : smallB tab = true) (hl : TabsOk Tryz.prog (tabsOf l)) : TabsOk Tryz.prog (tabsOf ((f, tab) :: l)) := by
  intro g tab' hg
  unfold tabsOf at hg
  simp only [lookN] at hg
  split at hg
  · rename_i hb
    cases hg
    rw [← Nat.eq_of_beq_eq_true hb]
    exact ⟨specG mixed hno hC (there f ht) (rowsC_all hr), smallB_all hs⟩
  · exact hl g tab' hg
end Go.Proofs.YtbcmfkognanjdaaGreatDoor
