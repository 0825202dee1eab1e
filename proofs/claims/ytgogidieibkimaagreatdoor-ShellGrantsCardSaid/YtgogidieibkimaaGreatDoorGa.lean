/- Closed runs of the shell's scenarios: the registry, what has no body, a number brought into a class, tables of calls. No conditions. -/
import Derived.Test.YtgogidieibkimaaGreatDoorCx
import Derived.Test.YtgogidieibkimaaGreatDoorVj
import Derived.Test.YtgogidieibkimaaGreatDoorVc
import Derived.Test.YtgogidieibkimaaGreatDoorVk
import Derived.Test.YtgogidieibkimaaGreatDoorGj
namespace Go.Proofs.YtgogidieibkimaaGreatDoor
open Go Go.W Go.Proofs
set_option maxRecDepth 100000
def reg0 : Reg where
  T := fun _ => Unit
  has := fun _ => false
  k := fun _ => 0
  dflt := fun _ => ()
  enc := fun _ _ => []
  dec := fun _ _ => none
  isB := fun _ => false
  toS := fun _ _ => []
  ofS := fun _ _ => []
  law := by intro e l x h; cases h
  len := by intro e x; rfl
  toS_len := by intro e xs h; cases h
  toS_get := by intro e xs r h; cases h
  ofS_len := by intro e s h; cases h
  ofS_get := by intro e s r h; cases h
  Tab := fun _ => True
abbrev V0 := V reg0.T
abbrev O0 := O reg0.T
abbrev D0 := D reg0.T
abbrev TB0 := List V0 → Hp reg0.T → Out (V0 × Hp reg0.T)
def vi (n : Int) : V0 := .d (.int .i64 n)
def i6 (n : Int) : D0 := .int .i64 n
theorem mixed : Tryz.prog.follows .mixedOrders = true := by kernel_rfl
theorem noNum : (Tryz.prog.funcs.toList.all fun fn => fn.body.isNone || !(fn.name == "runtime.NumGoroutine")) = true := by kernel_rfl
theorem hno : ∀ (f : FuncId) fn, Tryz.prog.funcs[f]? = some fn → fn.body.isNone = false → (fn.name == "runtime.NumGoroutine") = false := by
  intro f fn h hb
  have := List.all_eq_true.1 noNum fn (by rw [Array.mem_toList_iff]; exact Array.mem_of_getElem? h)
  rw [hb] at this
  simpa using this
theorem there (f : Nat) (h : (match Tryz.prog.funcs[f]? with | some fn => !fn.body.isNone | none => false) = true) : There Tryz.prog f := by
  split at h
  · rename_i fn hfn
    have hb : fn.body.isNone = false := by simpa using h
    exact ⟨fn, hfn, hno f fn hfn hb, hb⟩
  · cases h
/-- What a table's row owes. -/
def RowOk (f : FuncId) (S : TB0) : Prop := ∀ args h Q, (S args h).K Q → There Tryz.prog f ∧ ∀ N F φ w cargs, (∀ r, Q r → Fresh N h.nx r.2.nx) → HR N F φ h w → LRel F w φ args cargs → Calls Tryz.prog f cargs w (CallPost N F φ h w Q)
theorem conOk_cons {f : FuncId} {S} {l : List (Nat × TB0)} (h : RowOk f S) (hl : ConOk Tryz.prog (fun g => lookN l g)) : ConOk Tryz.prog (fun g => lookN ((f, S) :: l) g) := by
  intro g S' hg
  simp only [lookN] at hg
  split at hg
  · rename_i hb
    cases hg
    rw [← Nat.eq_of_beq_eq_true hb]
    exact h
  · exact hl g S' hg
theorem conOk_nil : ConOk (reg := reg0) Tryz.prog (fun g => lookN [] g) := fun f S h => by cases h
theorem two_args {F : Nat → Prop} {w : World} {φ : Phi} {v u : V0} {cs : Array Value} (hl : LRel F w φ [v, u] cs) : ∃ c d, cs = #[c, d] ∧ VRel reg0 F w φ v c ∧ VRel reg0 F w φ u d := by
  have h1 : cs.size = 2 := hl.1.symm
  refine ⟨cs.getD 0 undef, cs.getD 1 undef, ?_, hl.2 0 (by simp), hl.2 1 (by simp)⟩
  apply Array.ext
  · simpa using h1
  · intro i h2 h3
    have h4 : i < 2 := by simpa using h3
    match i, h4 with
    | 0, _ => simp [h1]
    | 1, _ => simp [h1]
def uIx : TB0 := fun args h => match args with | [.d (.str s), .d (.int .u8 c)] => (.ret (.d (.int .i64 (Lib.indexByte s c.toNat.toUInt8)), h)) | _ => .bad
def uCt : TB0 := fun args h => match args with | [.d (.str s), .d (.str [c])] => (.ret (.d (.int .i64 (Lib.countByte s c)), h)) | _ => .bad
theorem aIx : RowOk 74 uIx := by
  intro args h Q hq
  unfold uIx at hq
  split at hq
  · rename_i s c
    refine ⟨there 74 (by kernel_rfl), fun N F φ w cargs _ hH hl => ?_⟩
    obtain ⟨x, y, rfl, hx, hy⟩ := two_args hl
    rw [hx.str_inv, hy.int_inv]
    refine (cIx _ c w).mono fun e w' ⟨he, hw⟩ => ?_
    subst hw
    exact ⟨_, he, Res.pure hH hq (.d _ _ (.int _ _))⟩
  · exact hq.elim
theorem aCt : RowOk 24 uCt := by
  intro args h Q hq
  unfold uCt at hq
  split at hq
  · rename_i s c
    refine ⟨there 24 (by kernel_rfl), fun N F φ w cargs _ hH hl => ?_⟩
    obtain ⟨x, y, rfl, hx, hy⟩ := two_args hl
    rw [hx.str_inv, hy.str_inv]
    refine (cCt _ c w).mono fun e w' ⟨he, hw⟩ => ?_
    subst hw
    exact ⟨_, he, Res.pure hH hq (.d _ _ (.int _ _))⟩
  · exact hq.elim
def uJn : TB0 := fun args h => uJoin args h
theorem aJn : RowOk 60 uJn := fun args h Q hq => join_ok joinAt (there 60 (by kernel_rfl)) args h Q hq
def Cb : Con reg0.T := fun f => lookN [(74, uIx), (24, uCt), (60, uJn)] f
theorem Cb_ok : ConOk Tryz.prog Cb := conOk_cons aIx (conOk_cons aCt (conOk_cons aJn conOk_nil))
/-! ### Small functions by tables -/
abbrev RowB (f : Nat) (m : Memo reg0.T) : Prop := RowG Tryz.prog Cb 1000 60 f m
def RowsB (f : Nat) : List (Memo reg0.T) → Prop
  | [] => True
  | m :: l => RowB f m ∧ RowsB f l
theorem rowsB_all {f : Nat} : ∀ {l : List (Memo reg0.T)}, RowsB f l → ∀ m ∈ l, RowB f m
  | [], _, m, h => by cases h
  | a :: l, h, m, hm => by
    rcases List.mem_cons.1 hm with rfl | hm
    · exact h.1
    · exact rowsB_all h.2 m hm
def smallB (l : List (Memo reg0.T)) : Bool := l.all fun m => Nat.ble m.objs.length 1000
theorem smallB_all {l : List (Memo reg0.T)} (h : smallB l = true) : ∀ m ∈ l, m.objs.length ≤ 1000000 := fun m hm => by
  have := Nat.le_of_ble_eq_true (List.all_eq_true.1 h m hm)
  omega
noncomputable def uMemo (f : Nat) (tab : List (Memo reg0.T)) : TB0 := fun args h => tabG tab args h (Out.ofO (exFunF Tryz.prog (hdF Tryz.prog Cb 1000 60) 1000 f args h))
theorem aMemo {f : Nat} {tab : List (Memo reg0.T)} (ht : (match Tryz.prog.funcs[f]? with | some fn => !fn.body.isNone | none => false) = true) (hr : RowsB f tab) (hs : smallB tab = true) : RowOk f (uMemo f tab) := by
  intro args h Q hq
  unfold uMemo tabG at hq
  split at hq
  · exact Spec.con_ok (specG mixed hno Cb_ok (there f ht) (rowsB_all hr)) (memoMeet tab) (memo_size (smallB_all hs)) args h Q hq
  · obtain ⟨r, h1, h2⟩ := Out.K_ofO.1 hq
    exact exFun_sound mixed (hdN_sound mixed hno Cb_ok 1000 60) hno 1000 f args h Q (exFunF_K _ h1 h2)
def lf0_0 : Memo reg0.T := ⟨[.agg [.d (i6 (0)), .d (i6 (0))]], [], .d (.bool true), []⟩
theorem lf0_0_ok : RowB 186 lf0_0 := ⟨by kernel_rfl⟩
def lf0_1 : Memo reg0.T := ⟨[.agg [.d (i6 (1)), .d (i6 (1))]], [], .d (.bool true), []⟩
theorem lf0_1_ok : RowB 186 lf0_1 := ⟨by kernel_rfl⟩
def lf0_2 : Memo reg0.T := ⟨[.agg [.d (i6 (2)), .d (i6 (2))]], [], .d (.bool true), []⟩
theorem lf0_2_ok : RowB 186 lf0_2 := ⟨by kernel_rfl⟩
def lf0_3 : Memo reg0.T := ⟨[.agg [.d (i6 (3)), .d (i6 (3))]], [], .d (.bool true), []⟩
theorem lf0_3_ok : RowB 186 lf0_3 := ⟨by kernel_rfl⟩
def lf0_4 : Memo reg0.T := ⟨[.agg [.d (i6 (4)), .d (i6 (4))]], [], .d (.bool true), []⟩
theorem lf0_4_ok : RowB 186 lf0_4 := ⟨by kernel_rfl⟩
def lf0_5 : Memo reg0.T := ⟨[.agg [.d (i6 (5)), .d (i6 (5))]], [], .d (.bool true), []⟩
theorem lf0_5_ok : RowB 186 lf0_5 := ⟨by kernel_rfl⟩
def lf0_6 : Memo reg0.T := ⟨[.agg [.d (i6 (6)), .d (i6 (6))]], [], .d (.bool true), []⟩
theorem lf0_6_ok : RowB 186 lf0_6 := ⟨by kernel_rfl⟩
def lf0_7 : Memo reg0.T := ⟨[.agg [.d (i6 (7)), .d (i6 (7))]], [], .d (.bool true), []⟩
theorem lf0_7_ok : RowB 186 lf0_7 := ⟨by kernel_rfl⟩
def lfT0 : List (Memo reg0.T) := [lf0_0, lf0_1, lf0_2, lf0_3, lf0_4, lf0_5, lf0_6, lf0_7]
theorem lfT0_ok : RowsB 186 lfT0 := ⟨lf0_0_ok, lf0_1_ok, lf0_2_ok, lf0_3_ok, lf0_4_ok, lf0_5_ok, lf0_6_ok, lf0_7_ok, trivial⟩
def lf1_0 : Memo reg0.T := ⟨[.d (.nils)], [], .sl 0 0 0 (.exact 0), [some (.rows 1 [])]⟩
theorem lf1_0_ok : RowB 272 lf1_0 := ⟨by kernel_rfl⟩
def lf1_1 : Memo reg0.T := ⟨[.sl 0 0 0 (.exact 0)], [.rows 1 []], .sl 1 0 0 (.exact 0), [some (.rows 1 []), some (.rows 1 [])]⟩
theorem lf1_1_ok : RowB 272 lf1_1 := ⟨by kernel_rfl⟩
def lf1_2 : Memo reg0.T := ⟨[.sl 0 0 1 (.least 1)], [.rows 1 [[.d (i6 (2))]]], .sl 1 0 1 (.exact 1), [some (.rows 1 [[.d (i6 (2))]]), some (.rows 1 [[.d (i6 (2))]])]⟩
theorem lf1_2_ok : RowB 272 lf1_2 := ⟨by kernel_rfl⟩
def lf1_3 : Memo reg0.T := ⟨[.sl 0 0 1 (.exact 1)], [.rows 1 [[.d (i6 (2))]]], .sl 1 0 1 (.exact 1), [some (.rows 1 [[.d (i6 (2))]]), some (.rows 1 [[.d (i6 (2))]])]⟩
theorem lf1_3_ok : RowB 272 lf1_3 := ⟨by kernel_rfl⟩
def lf1_4 : Memo reg0.T := ⟨[.sl 0 0 2 (.least 2)], [.rows 1 [[.d (i6 (2))], [.d (i6 (3))]]], .sl 1 0 2 (.exact 2), [some (.rows 1 [[.d (i6 (2))], [.d (i6 (3))]]), some (.rows 1 [[.d (i6 (2))], [.d (i6 (3))]])]⟩
theorem lf1_4_ok : RowB 272 lf1_4 := ⟨by kernel_rfl⟩
def lf1_5 : Memo reg0.T := ⟨[.sl 0 0 2 (.exact 2)], [.rows 1 [[.d (i6 (2))], [.d (i6 (3))]]], .sl 1 0 2 (.exact 2), [some (.rows 1 [[.d (i6 (2))], [.d (i6 (3))]]), some (.rows 1 [[.d (i6 (2))], [.d (i6 (3))]])]⟩
theorem lf1_5_ok : RowB 272 lf1_5 := ⟨by kernel_rfl⟩
def lf1_6 : Memo reg0.T := ⟨[.sl 0 0 3 (.least 3)], [.rows 1 [[.d (i6 (2))], [.d (i6 (3))], [.d (i6 (4))]]], .sl 1 0 3 (.exact 3), [some (.rows 1 [[.d (i6 (2))], [.d (i6 (3))], [.d (i6 (4))]]), some (.rows 1 [[.d (i6 (2))], [.d (i6 (3))], [.d (i6 (4))]])]⟩
theorem lf1_6_ok : RowB 272 lf1_6 := ⟨by kernel_rfl⟩
def lf1_7 : Memo reg0.T := ⟨[.sl 0 0 3 (.exact 3)], [.rows 1 [[.d (i6 (2))], [.d (i6 (3))], [.d (i6 (4))]]], .sl 1 0 3 (.exact 3), [some (.rows 1 [[.d (i6 (2))], [.d (i6 (3))], [.d (i6 (4))]]), some (.rows 1 [[.d (i6 (2))], [.d (i6 (3))], [.d (i6 (4))]])]⟩
theorem lf1_7_ok : RowB 272 lf1_7 := ⟨by kernel_rfl⟩
def lfT1 : List (Memo reg0.T) := [lf1_0, lf1_1, lf1_2, lf1_3, lf1_4, lf1_5, lf1_6, lf1_7]
theorem lfT1_ok : RowsB 272 lfT1 := ⟨lf1_0_ok, lf1_1_ok, lf1_2_ok, lf1_3_ok, lf1_4_ok, lf1_5_ok, lf1_6_ok, lf1_7_ok, trivial⟩
def lf2_0 : Memo reg0.T := ⟨[.agg [.sl 0 0 1 (.exact 1), .sl 1 0 1 (.exact 1)], .d (.str [110, 111])], [.rows 1 [[.d (.str [])]], .rows 3 [[.d (.str [114, 111, 111, 116]), .sl 2 0 1 (.exact 1), .d (i6 (10000))]], .rows 2 [[.d (i6 (10000)), .d (i6 (10000))]]], .tup [.agg [.d (.str []), .d (.nils), .d (i6 (0))], .d (.bool false)], [some (.rows 1 [[.d (.str [])]]), some (.rows 3 [[.d (.str [114, 111, 111, 116]), .sl 2 0 1 (.exact 1), .d (i6 (10000))]]), some (.rows 2 [[.d (i6 (10000)), .d (i6 (10000))]])]⟩
theorem lf2_0_ok : RowB 81 lf2_0 := ⟨by kernel_rfl⟩
def lf2_1 : Memo reg0.T := ⟨[.agg [.sl 0 0 1 (.least 1), .sl 1 0 1 (.least 1)], .d (.str [114, 111, 111, 116])], [.rows 1 [[.d (.str [])]], .rows 3 [[.d (.str [114, 111, 111, 116]), .sl 2 0 1 (.least 1), .d (i6 (10000))]], .rows 2 [[.d (i6 (10000)), .d (i6 (10000))]]], .tup [.agg [.d (.str [114, 111, 111, 116]), .sl 3 0 1 (.least 1), .d (i6 (10000))], .d (.bool true)], [some (.rows 1 [[.d (.str [])]]), some (.rows 3 [[.d (.str [114, 111, 111, 116]), .sl 2 0 1 (.least 1), .d (i6 (10000))]]), some (.rows 2 [[.d (i6 (10000)), .d (i6 (10000))]]), some (.rows 2 [[.d (i6 (10000)), .d (i6 (10000))]])]⟩
theorem lf2_1_ok : RowB 81 lf2_1 := ⟨by kernel_rfl⟩
def lfT2 : List (Memo reg0.T) := [lf2_0, lf2_1]
theorem lfT2_ok : RowsB 81 lfT2 := ⟨lf2_0_ok, lf2_1_ok, trivial⟩
def lf3_0 : Memo reg0.T := ⟨[.d (.str [112, 97, 114, 116, 115, 32, 49, 48, 32, 49, 32, 49, 32, 49])], [], .tup [.sl 0 0 5 (.least 5), .d (i6 (0))], [some (.rows 1 [[.d (.str [112, 97, 114, 116, 115])], [.d (.str [49, 48])], [.d (.str [49])], [.d (.str [49])], [.d (.str [49])]])]⟩
theorem lf3_0_ok : RowB 13 lf3_0 := ⟨by kernel_rfl⟩
def lf3_1 : Memo reg0.T := ⟨[.d (.str [117, 115, 101, 100, 32, 110, 111, 32, 48])], [], .tup [.sl 0 0 3 (.least 3), .d (i6 (0))], [some (.rows 1 [[.d (.str [117, 115, 101, 100])], [.d (.str [110, 111])], [.d (.str [48])]])]⟩
theorem lf3_1_ok : RowB 13 lf3_1 := ⟨by kernel_rfl⟩
def lf3_2 : Memo reg0.T := ⟨[.d (.str [110, 111, 100, 101, 32, 49, 32, 48, 32, 48, 32, 48, 32, 48])], [], .tup [.sl 0 0 6 (.least 6), .d (i6 (0))], [some (.rows 1 [[.d (.str [110, 111, 100, 101])], [.d (.str [49])], [.d (.str [48])], [.d (.str [48])], [.d (.str [48])], [.d (.str [48])]])]⟩
theorem lf3_2_ok : RowB 13 lf3_2 := ⟨by kernel_rfl⟩
def lf3_3 : Memo reg0.T := ⟨[.d (.str [115, 117, 98, 109, 105, 116, 32, 53, 32, 114, 111, 111, 116, 32, 49, 32, 49, 32, 49, 32, 49])], [], .tup [.sl 0 0 7 (.least 7), .d (i6 (0))], [some (.rows 1 [[.d (.str [115, 117, 98, 109, 105, 116])], [.d (.str [53])], [.d (.str [114, 111, 111, 116])], [.d (.str [49])], [.d (.str [49])], [.d (.str [49])], [.d (.str [49])]])]⟩
theorem lf3_3_ok : RowB 13 lf3_3 := ⟨by kernel_rfl⟩
def lf3_4 : Memo reg0.T := ⟨[.d (.str [98, 101, 97, 116, 32, 49, 32, 49])], [], .tup [.sl 0 0 3 (.least 3), .d (i6 (0))], [some (.rows 1 [[.d (.str [98, 101, 97, 116])], [.d (.str [49])], [.d (.str [49])]])]⟩
theorem lf3_4_ok : RowB 13 lf3_4 := ⟨by kernel_rfl⟩
def lf3_5 : Memo reg0.T := ⟨[.d (.str [97, 115, 107, 32, 49, 32, 48, 32, 49, 32, 49, 32, 48, 32, 45, 49, 32, 45, 49])], [], .tup [.sl 0 0 8 (.least 8), .d (i6 (0))], [some (.rows 1 [[.d (.str [97, 115, 107])], [.d (.str [49])], [.d (.str [48])], [.d (.str [49])], [.d (.str [49])], [.d (.str [48])], [.d (.str [45, 49])], [.d (.str [45, 49])]])]⟩
theorem lf3_5_ok : RowB 13 lf3_5 := ⟨by kernel_rfl⟩
def lf3_6 : Memo reg0.T := ⟨[.d (.str [109, 97, 115, 116, 101, 114, 32, 53, 32, 49])], [], .tup [.sl 0 0 3 (.least 3), .d (i6 (0))], [some (.rows 1 [[.d (.str [109, 97, 115, 116, 101, 114])], [.d (.str [53])], [.d (.str [49])]])]⟩
theorem lf3_6_ok : RowB 13 lf3_6 := ⟨by kernel_rfl⟩
def lf3_7 : Memo reg0.T := ⟨[.d (.str [98, 101, 97, 116, 32, 49, 32, 50])], [], .tup [.sl 0 0 3 (.least 3), .d (i6 (0))], [some (.rows 1 [[.d (.str [98, 101, 97, 116])], [.d (.str [49])], [.d (.str [50])]])]⟩
theorem lf3_7_ok : RowB 13 lf3_7 := ⟨by kernel_rfl⟩
def lf3_8 : Memo reg0.T := ⟨[.d (.str [109, 97, 115, 116, 101, 114, 32, 53, 32, 50])], [], .tup [.sl 0 0 3 (.least 3), .d (i6 (0))], [some (.rows 1 [[.d (.str [109, 97, 115, 116, 101, 114])], [.d (.str [53])], [.d (.str [50])]])]⟩
theorem lf3_8_ok : RowB 13 lf3_8 := ⟨by kernel_rfl⟩
def lf3_9 : Memo reg0.T := ⟨[.d (.str [117, 115, 101, 100, 32, 114, 111, 111, 116, 32, 48])], [], .tup [.sl 0 0 3 (.least 3), .d (i6 (0))], [some (.rows 1 [[.d (.str [117, 115, 101, 100])], [.d (.str [114, 111, 111, 116])], [.d (.str [48])]])]⟩
theorem lf3_9_ok : RowB 13 lf3_9 := ⟨by kernel_rfl⟩
def lf3_10 : Memo reg0.T := ⟨[.d (.str [107, 105, 108, 108, 32, 53])], [], .tup [.sl 0 0 2 (.least 2), .d (i6 (0))], [some (.rows 1 [[.d (.str [107, 105, 108, 108])], [.d (.str [53])]])]⟩
theorem lf3_10_ok : RowB 13 lf3_10 := ⟨by kernel_rfl⟩
def lf3_11 : Memo reg0.T := ⟨[.d (.str [110, 111, 100, 101, 32, 49, 32, 48, 32, 48, 32, 49, 32, 49])], [], .tup [.sl 0 0 6 (.least 6), .d (i6 (0))], [some (.rows 1 [[.d (.str [110, 111, 100, 101])], [.d (.str [49])], [.d (.str [48])], [.d (.str [48])], [.d (.str [49])], [.d (.str [49])]])]⟩
theorem lf3_11_ok : RowB 13 lf3_11 := ⟨by kernel_rfl⟩
def lf3_12 : Memo reg0.T := ⟨[.d (.str [110, 111, 100, 101, 32, 49, 32, 48, 32, 48, 32, 50, 32, 50])], [], .tup [.sl 0 0 6 (.least 6), .d (i6 (0))], [some (.rows 1 [[.d (.str [110, 111, 100, 101])], [.d (.str [49])], [.d (.str [48])], [.d (.str [48])], [.d (.str [50])], [.d (.str [50])]])]⟩
theorem lf3_12_ok : RowB 13 lf3_12 := ⟨by kernel_rfl⟩
def lf3_13 : Memo reg0.T := ⟨[.d (.str [110, 111, 100, 101, 32, 49, 32, 48, 32, 48, 32, 51, 32, 51])], [], .tup [.sl 0 0 6 (.least 6), .d (i6 (0))], [some (.rows 1 [[.d (.str [110, 111, 100, 101])], [.d (.str [49])], [.d (.str [48])], [.d (.str [48])], [.d (.str [51])], [.d (.str [51])]])]⟩
theorem lf3_13_ok : RowB 13 lf3_13 := ⟨by kernel_rfl⟩
def lf3_14 : Memo reg0.T := ⟨[.d (.str [110, 111, 100, 101, 32, 49, 32, 48, 32, 48, 32, 52, 32, 52])], [], .tup [.sl 0 0 6 (.least 6), .d (i6 (0))], [some (.rows 1 [[.d (.str [110, 111, 100, 101])], [.d (.str [49])], [.d (.str [48])], [.d (.str [48])], [.d (.str [52])], [.d (.str [52])]])]⟩
theorem lf3_14_ok : RowB 13 lf3_14 := ⟨by kernel_rfl⟩
def lf3_15 : Memo reg0.T := ⟨[.d (.str [110, 111, 100, 101, 32, 49, 32, 48, 32, 48, 32, 53, 32, 53])], [], .tup [.sl 0 0 6 (.least 6), .d (i6 (0))], [some (.rows 1 [[.d (.str [110, 111, 100, 101])], [.d (.str [49])], [.d (.str [48])], [.d (.str [48])], [.d (.str [53])], [.d (.str [53])]])]⟩
theorem lf3_15_ok : RowB 13 lf3_15 := ⟨by kernel_rfl⟩
def lf3_16 : Memo reg0.T := ⟨[.d (.str [110, 111, 100, 101, 32, 49, 32, 48, 32, 48, 32, 54, 32, 54])], [], .tup [.sl 0 0 6 (.least 6), .d (i6 (0))], [some (.rows 1 [[.d (.str [110, 111, 100, 101])], [.d (.str [49])], [.d (.str [48])], [.d (.str [48])], [.d (.str [54])], [.d (.str [54])]])]⟩
theorem lf3_16_ok : RowB 13 lf3_16 := ⟨by kernel_rfl⟩
def lf3_17 : Memo reg0.T := ⟨[.d (.str [110, 111, 100, 101, 32, 49, 32, 48, 32, 48, 32, 55, 32, 55])], [], .tup [.sl 0 0 6 (.least 6), .d (i6 (0))], [some (.rows 1 [[.d (.str [110, 111, 100, 101])], [.d (.str [49])], [.d (.str [48])], [.d (.str [48])], [.d (.str [55])], [.d (.str [55])]])]⟩
theorem lf3_17_ok : RowB 13 lf3_17 := ⟨by kernel_rfl⟩
def lf3_18 : Memo reg0.T := ⟨[.d (.str [97, 115, 107, 32, 49, 32, 48, 32, 49, 32, 49, 32, 49, 32, 45, 49, 32, 45, 49])], [], .tup [.sl 0 0 8 (.least 8), .d (i6 (0))], [some (.rows 1 [[.d (.str [97, 115, 107])], [.d (.str [49])], [.d (.str [48])], [.d (.str [49])], [.d (.str [49])], [.d (.str [49])], [.d (.str [45, 49])], [.d (.str [45, 49])]])]⟩
theorem lf3_18_ok : RowB 13 lf3_18 := ⟨by kernel_rfl⟩
def lf3_19 : Memo reg0.T := ⟨[.d (.str [97, 115, 107, 32, 49, 32, 48, 32, 49, 32, 49, 32, 50, 32, 45, 49, 32, 45, 49])], [], .tup [.sl 0 0 8 (.least 8), .d (i6 (0))], [some (.rows 1 [[.d (.str [97, 115, 107])], [.d (.str [49])], [.d (.str [48])], [.d (.str [49])], [.d (.str [49])], [.d (.str [50])], [.d (.str [45, 49])], [.d (.str [45, 49])]])]⟩
theorem lf3_19_ok : RowB 13 lf3_19 := ⟨by kernel_rfl⟩
def lf3_20 : Memo reg0.T := ⟨[.d (.str [97, 115, 107, 32, 49, 32, 48, 32, 49, 32, 49, 32, 51, 32, 45, 49, 32, 45, 49])], [], .tup [.sl 0 0 8 (.least 8), .d (i6 (0))], [some (.rows 1 [[.d (.str [97, 115, 107])], [.d (.str [49])], [.d (.str [48])], [.d (.str [49])], [.d (.str [49])], [.d (.str [51])], [.d (.str [45, 49])], [.d (.str [45, 49])]])]⟩
theorem lf3_20_ok : RowB 13 lf3_20 := ⟨by kernel_rfl⟩
def lfT3 : List (Memo reg0.T) := [lf3_0, lf3_1, lf3_2, lf3_3, lf3_4, lf3_5, lf3_6, lf3_7, lf3_8, lf3_9, lf3_10, lf3_11, lf3_12, lf3_13, lf3_14, lf3_15, lf3_16, lf3_17, lf3_18, lf3_19, lf3_20]
theorem lfT3_ok : RowsB 13 lfT3 := ⟨lf3_0_ok, lf3_1_ok, lf3_2_ok, lf3_3_ok, lf3_4_ok, lf3_5_ok, lf3_6_ok, lf3_7_ok, lf3_8_ok, lf3_9_ok, lf3_10_ok, lf3_11_ok, lf3_12_ok, lf3_13_ok, lf3_14_ok, lf3_15_ok, lf3_16_ok, lf3_17_ok, lf3_18_ok, lf3_19_ok, lf3_20_ok, trivial⟩
def lf4_0 : Memo reg0.T := ⟨[.d (.str [49, 48])], [], .tup [.d (i6 (10)), .d (.bool true)], []⟩
theorem lf4_0_ok : RowB 45 lf4_0 := ⟨by kernel_rfl⟩
def lf4_1 : Memo reg0.T := ⟨[.d (.str [49])], [], .tup [.d (i6 (1)), .d (.bool true)], []⟩
theorem lf4_1_ok : RowB 45 lf4_1 := ⟨by kernel_rfl⟩
def lf4_2 : Memo reg0.T := ⟨[.d (.str [48])], [], .tup [.d (i6 (0)), .d (.bool true)], []⟩
theorem lf4_2_ok : RowB 45 lf4_2 := ⟨by kernel_rfl⟩
def lf4_3 : Memo reg0.T := ⟨[.d (.str [53])], [], .tup [.d (i6 (5)), .d (.bool true)], []⟩
theorem lf4_3_ok : RowB 45 lf4_3 := ⟨by kernel_rfl⟩
def lf4_4 : Memo reg0.T := ⟨[.d (.str [45, 49])], [], .tup [.d (i6 (-1)), .d (.bool true)], []⟩
theorem lf4_4_ok : RowB 45 lf4_4 := ⟨by kernel_rfl⟩
def lf4_5 : Memo reg0.T := ⟨[.d (.str [50])], [], .tup [.d (i6 (2)), .d (.bool true)], []⟩
theorem lf4_5_ok : RowB 45 lf4_5 := ⟨by kernel_rfl⟩
def lf4_6 : Memo reg0.T := ⟨[.d (.str [51])], [], .tup [.d (i6 (3)), .d (.bool true)], []⟩
theorem lf4_6_ok : RowB 45 lf4_6 := ⟨by kernel_rfl⟩
def lf4_7 : Memo reg0.T := ⟨[.d (.str [52])], [], .tup [.d (i6 (4)), .d (.bool true)], []⟩
theorem lf4_7_ok : RowB 45 lf4_7 := ⟨by kernel_rfl⟩
def lf4_8 : Memo reg0.T := ⟨[.d (.str [54])], [], .tup [.d (i6 (6)), .d (.bool true)], []⟩
theorem lf4_8_ok : RowB 45 lf4_8 := ⟨by kernel_rfl⟩
def lf4_9 : Memo reg0.T := ⟨[.d (.str [55])], [], .tup [.d (i6 (7)), .d (.bool true)], []⟩
theorem lf4_9_ok : RowB 45 lf4_9 := ⟨by kernel_rfl⟩
def lfT4 : List (Memo reg0.T) := [lf4_0, lf4_1, lf4_2, lf4_3, lf4_4, lf4_5, lf4_6, lf4_7, lf4_8, lf4_9]
theorem lfT4_ok : RowsB 45 lfT4 := ⟨lf4_0_ok, lf4_1_ok, lf4_2_ok, lf4_3_ok, lf4_4_ok, lf4_5_ok, lf4_6_ok, lf4_7_ok, lf4_8_ok, lf4_9_ok, trivial⟩
def lf5_0 : Memo reg0.T := ⟨[.d (.str [114, 111, 111, 116]), .d (.int .u8 (46))], [], .d (i6 (-1)), []⟩
theorem lf5_0_ok : RowB 316 lf5_0 := ⟨by kernel_rfl⟩
def lfT5 : List (Memo reg0.T) := [lf5_0]
theorem lfT5_ok : RowsB 316 lfT5 := ⟨lf5_0_ok, trivial⟩
def lf6_0 : Memo reg0.T := ⟨[.d (.int .u64 (0)), .d (.int .u64 (0)), .d (.int .u64 (10000))], [], .tup [.d (.int .u64 (0)), .d (.int .u64 (0))], []⟩
theorem lf6_0_ok : RowB 266 lf6_0 := ⟨by kernel_rfl⟩
def lf6_1 : Memo reg0.T := ⟨[.d (.int .u64 (0)), .d (.int .u64 (10000)), .d (.int .u64 (10000))], [], .tup [.d (.int .u64 (1)), .d (.int .u64 (0))], []⟩
theorem lf6_1_ok : RowB 266 lf6_1 := ⟨by kernel_rfl⟩
def lf6_2 : Memo reg0.T := ⟨[.d (.int .u64 (0)), .d (.int .u64 (20000)), .d (.int .u64 (10000))], [], .tup [.d (.int .u64 (2)), .d (.int .u64 (0))], []⟩
theorem lf6_2_ok : RowB 266 lf6_2 := ⟨by kernel_rfl⟩
def lf6_3 : Memo reg0.T := ⟨[.d (.int .u64 (0)), .d (.int .u64 (30000)), .d (.int .u64 (10000))], [], .tup [.d (.int .u64 (3)), .d (.int .u64 (0))], []⟩
theorem lf6_3_ok : RowB 266 lf6_3 := ⟨by kernel_rfl⟩
def lf6_4 : Memo reg0.T := ⟨[.d (.int .u64 (0)), .d (.int .u64 (40000)), .d (.int .u64 (10000))], [], .tup [.d (.int .u64 (4)), .d (.int .u64 (0))], []⟩
theorem lf6_4_ok : RowB 266 lf6_4 := ⟨by kernel_rfl⟩
def lf6_5 : Memo reg0.T := ⟨[.d (.int .u64 (0)), .d (.int .u64 (50000)), .d (.int .u64 (10000))], [], .tup [.d (.int .u64 (5)), .d (.int .u64 (0))], []⟩
theorem lf6_5_ok : RowB 266 lf6_5 := ⟨by kernel_rfl⟩
def lf6_6 : Memo reg0.T := ⟨[.d (.int .u64 (0)), .d (.int .u64 (60000)), .d (.int .u64 (10000))], [], .tup [.d (.int .u64 (6)), .d (.int .u64 (0))], []⟩
theorem lf6_6_ok : RowB 266 lf6_6 := ⟨by kernel_rfl⟩
def lf6_7 : Memo reg0.T := ⟨[.d (.int .u64 (0)), .d (.int .u64 (70000)), .d (.int .u64 (10000))], [], .tup [.d (.int .u64 (7)), .d (.int .u64 (0))], []⟩
theorem lf6_7_ok : RowB 266 lf6_7 := ⟨by kernel_rfl⟩
def lfT6 : List (Memo reg0.T) := [lf6_0, lf6_1, lf6_2, lf6_3, lf6_4, lf6_5, lf6_6, lf6_7]
theorem lfT6_ok : RowsB 266 lfT6 := ⟨lf6_0_ok, lf6_1_ok, lf6_2_ok, lf6_3_ok, lf6_4_ok, lf6_5_ok, lf6_6_ok, lf6_7_ok, trivial⟩
noncomputable def C0 : Con reg0.T := fun f => lookN [(74, uIx), (24, uCt), (60, uJn), (186, uMemo 186 lfT0), (272, uMemo 272 lfT1), (81, uMemo 81 lfT2), (13, uMemo 13 lfT3), (45, uMemo 45 lfT4), (316, uMemo 316 lfT5), (266, uMemo 266 lfT6)] f
theorem C0_ok : ConOk Tryz.prog C0 := conOk_cons aIx (conOk_cons aCt (conOk_cons aJn (conOk_cons (aMemo (by kernel_rfl) lfT0_ok rfl) (conOk_cons (aMemo (by kernel_rfl) lfT1_ok rfl) (conOk_cons (aMemo (by kernel_rfl) lfT2_ok rfl) (conOk_cons (aMemo (by kernel_rfl) lfT3_ok rfl) (conOk_cons (aMemo (by kernel_rfl) lfT4_ok rfl) (conOk_cons (aMemo (by kernel_rfl) lfT5_ok rfl) (conOk_cons (aMemo (by kernel_rfl) lfT6_ok rfl) (conOk_nil))))))))))
/-! ### A number brought into a class -/
def wi (a n : Int) : Int := bif decide (a.tmod n < 0) then IntKind.i64.wrap (a.tmod n + n) else a.tmod n
theorem wi_of (a : Int) {n : Int} (h : 0 < n) (hn : n < 100000) : 0 ≤ wi a n ∧ wi a n < n := by
  unfold wi
  have h1 : a.tmod n < n := Int.tmod_lt_of_pos a h
  have h2 : -n < a.tmod n := Int.lt_tmod_of_pos a h
  by_cases h0 : a.tmod n < 0
  · rw [decide_eq_true h0, cond_true]
    have : IntKind.i64.wrap (a.tmod n + n) = a.tmod n + n := IntWalk.i64_in _ (by omega)
    omega
  · rw [decide_eq_false h0, cond_false]
    omega
def SW : Go.W.Spec reg0.T := ⟨Int × Int, fun a => [vi a.1, vi a.2], fun _ => [], fun a => decide (0 < a.2), fun a => .ret (vi (wi a.1 a.2), [])⟩
noncomputable def hd0 : Hd reg0.T := hdN Tryz.prog C0 1000 5
theorem hd0_sound : HdSound Tryz.prog hd0 := hdN_sound mixed hno C0_ok _ _
def MeetsE (f : Nat) (S : Go.W.Spec reg0.T) (a : S.α) : Prop := (exFun Tryz.prog hd0 1000 f (S.args a) (canH (S.objs a))).K fun r => (S.out a).All fun q => CovR (S.objs a).length r q.1 q.2
theorem vW (a n : Int) : MeetsE 5 SW (a, n) = (
  branch (!decide (n = (0 : Int)))
  (branch (decide (a.tmod n < (0 : Int))) (wi a n = IntKind.i64.wrap (a.tmod n + n) ∧ True) (wi a n = a.tmod n ∧ True))
  False) := by kernel_rfl
theorem kW : SpecOk Tryz.prog 5 SW := specOk_of_ex mixed hd0_sound hno (there 5 (by kernel_rfl)) (by
  rintro ⟨a, n⟩ h
  have h : 0 < n := by simpa [SW] using h
  have h' : ¬ n = 0 := by omega
  show MeetsE 5 SW (a, n)
  rw [vW]
  simp only [branch_iff, wi]
  by_cases h2 : a.tmod n < 0 <;> simp [h2, h'])
theorem cov_i (ρ : List (Nat × Nat)) (n : Int) : covV ρ (vi n) (vi n) := (must_iff _ _).2 ⟨rfl, rfl⟩
def MW : Meet SW where
  find args _ := match args with | [.d (.int .i64 a), .d (.int .i64 b)] => some ((a, b), []) | _ => none
  ok args g a ρ h := by
    split at h
    · cases h
      exact ⟨⟨cov_i _ _, cov_i _ _, trivial⟩, rfl, fun j o' hj => by simp [SW] at hj⟩
    · cases h
/-- The numbers' classes, where they are known: by what they are brought into. -/
def tW (l : List (Int × Int)) : Int → Option Int := fun b => match l with
  | [] => none
  | p :: l => (match decide (p.1 = b) with | true => some p.2 | false => tW l b)
def uW (l : List (Int × Int)) : TB0 := fun args h => match args with
  | [.d (.int .i64 a), .d (.int .i64 b)] => (match tW l b with
    | some v => .need (decide (0 < b) && decide (wi a b = v)) (Out.ask (Tr.ok h.nx) (.ret (vi v, ⟨h.h, h.nx, h.wr⟩)))
    | none => .bad)
  | _ => .bad
theorem aW (l : List (Int × Int)) : RowOk 5 (uW l) := by
  intro args h Q hq
  unfold uW at hq
  split at hq
  · rename_i a b
    split at hq
    · rename_i v _
      obtain ⟨hb, hq⟩ := Out.K_need.1 hq
      obtain ⟨hk, hq⟩ := Out.K_ask.1 hq
      simp only [Bool.and_eq_true, decide_eq_true_eq] at hb
      obtain ⟨h1, rfl⟩ := hb
      refine Spec.con_ok kW MW (fun _ => Nat.le_of_ble_eq_true rfl) _ h Q ?_
      exact (must_iff _ _).2 ⟨decide_eq_true h1, Out.K_ask.2 ⟨by rw [Bool.and_eq_true]; exact ⟨rfl, hk⟩, hq⟩⟩
    · exact hq.elim
  · exact hq.elim
/-! ### Rows of tables -/
def sh (n i : Nat) : Nat := n + i
/-- A call that takes a state and something, and answers a state and something. -/
def mkS (sa : V0) (oa : List O0) (x : V0) (sb : V0) (ob : List O0) (o : V0) (oo : List O0) : Memo reg0.T :=
  ⟨[sa, x], oa, .tup [sb.ren (sh oa.length), o.ren (sh (oa.length + ob.length))], oa.map some ++ (ob.map (fun u => some (u.ren (sh oa.length))) ++ oo.map (fun u => some (u.ren (sh (oa.length + ob.length)))))⟩
/-- The same, with two answers more that are data. -/
def mkO (sa : V0) (oa : List O0) (x : V0) (sb : V0) (ob : List O0) (r1 r2 : V0) : Memo reg0.T :=
  ⟨[sa, x], oa, .tup [sb.ren (sh oa.length), r1, r2], oa.map some ++ ob.map (fun u => some (u.ren (sh oa.length)))⟩
abbrev RowC (C : Con reg0.T) (f : Nat) (m : Memo reg0.T) : Prop := RowG Tryz.prog C 1000 60 f m
def RowsC (C : Con reg0.T) (f : Nat) : List (Memo reg0.T) → Prop
  | [] => True
  | m :: l => RowC C f m ∧ RowsC C f l
theorem rowsC_all {C : Con reg0.T} {f : Nat} : ∀ {l : List (Memo reg0.T)}, RowsC C f l → ∀ m ∈ l, RowC C f m
  | [], _, m, h => by cases h
  | a :: l, h, m, hm => by
    rcases List.mem_cons.1 hm with rfl | hm
    · exact h.1
    · exact rowsC_all h.2 m hm
noncomputable def uMemoC (C : Con reg0.T) (f : Nat) (tab : List (Memo reg0.T)) : TB0 := fun args h => tabG tab args h (Out.ofO (exFunF Tryz.prog (hdF Tryz.prog C 1000 60) 1000 f args h))
theorem aMemoC {C : Con reg0.T} (hC : ConOk Tryz.prog C) {f : Nat} {tab : List (Memo reg0.T)} (ht : (match Tryz.prog.funcs[f]? with | some fn => !fn.body.isNone | none => false) = true) (hr : RowsC C f tab) (hs : smallB tab = true) : RowOk f (uMemoC C f tab) := by
  intro args h Q hq
  unfold uMemoC tabG at hq
  split at hq
  · exact Spec.con_ok (specG mixed hno hC (there f ht) (rowsC_all hr)) (memoMeet tab) (memo_size (smallB_all hs)) args h Q hq
  · obtain ⟨r, h1, h2⟩ := Out.K_ofO.1 hq
    exact exFun_sound mixed (hdN_sound mixed hno hC 1000 60) hno 1000 f args h Q (exFunF_K _ h1 h2)
/-- Calls, and one function more. -/
noncomputable def conAdd (C : Con reg0.T) (f : Nat) (S : TB0) : Con reg0.T := fun g => match Nat.beq f g with | true => some S | false => C g
theorem conAdd_ok {C : Con reg0.T} (hC : ConOk Tryz.prog C) {f : Nat} {S : TB0} (h : RowOk f S) : ConOk Tryz.prog (conAdd C f S) := by
  intro g S' hg
  unfold conAdd at hg
  split at hg
  · rename_i hb
    cases hg
    rw [← Nat.eq_of_beq_eq_true hb]
    exact h
  · exact hC g S' hg
/-- Tables of some functions. -/
def tabsOf (l : List (Nat × List (Memo reg0.T))) : Tabs reg0.T := fun f => lookN l f
theorem tabs_nil : TabsOk (reg := reg0) Tryz.prog (tabsOf []) := fun f tab h => by cases h
theorem tabs_cons {C : Con reg0.T} (hC : ConOk Tryz.prog C) {f : Nat} {tab : List (Memo reg0.T)} {l : List (Nat × List (Memo reg0.T))} (ht : (match Tryz.prog.funcs[f]? with | some fn => !fn.body.isNone | none => false) = true) (hr : RowsC C f tab) (hs : smallB tab = true) (hl : TabsOk Tryz.prog (tabsOf l)) : TabsOk Tryz.prog (tabsOf ((f, tab) :: l)) := by
  intro g tab' hg
  unfold tabsOf at hg
  simp only [lookN] at hg
  split at hg
  · rename_i hb
    cases hg
    rw [← Nat.eq_of_beq_eq_true hb]
    exact ⟨specG mixed hno hC (there f ht) (rowsC_all hr), smallB_all hs⟩
  · exact hl g tab' hg
end Go.Proofs.YtgogidieibkimaaGreatDoor
