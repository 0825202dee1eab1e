/- FedSubmits: what is submitted as a table; how calls are carried out. No conditions. -/
import Derived.Test.YtbcmfkognanjdaaGreatDoorSs1
import Derived.Test.YtbcmfkognanjdaaGreatDoorSs2
import Derived.Test.YtbcmfkognanjdaaGreatDoorSs3
import Derived.Test.YtbcmfkognanjdaaGreatDoorSs4
import Derived.Test.YtbcmfkognanjdaaGreatDoorSs5
import Derived.Test.YtbcmfkognanjdaaGreatDoorSs6
import Derived.Test.YtbcmfkognanjdaaGreatDoorUj
import Derived.Test.YtbcmfkognanjdaaGreatDoorVn
import Derived.Test.YtbcmfkognanjdaaGreatDoorSu1
import Derived.Test.YtbcmfkognanjdaaGreatDoorSu2
import Derived.Test.YtbcmfkognanjdaaGreatDoorSu3
import Derived.Test.YtbcmfkognanjdaaGreatDoorSu4
namespace Go.Proofs.YtbcmfkognanjdaaGreatDoor
open Go Go.W Go.Proofs
set_option maxRecDepth 100000
set_option maxHeartbeats 4000000
def fsSb : List (Memo reg0.T) := [fsS0, fsS1, fsS2, fsS3, fsS4, fsS5, fsS6, fsS7, fsS8, fsS9, fsS10, fsS11, fsS12, fsS13, fsS14, fsS15, fsS16, fsS17, fsS18, fsS19, fsS20, fsS21, fsS22, fsS23, fsS24, fsS25, fsS26, fsS27, fsS28, fsS29, fsS30, fsS31, fsS32, fsS33, fsS34, fsS35, fsS36, fsS37]
theorem fsSb_ok : ∀ m ∈ fsSb, RowS m := by
  intro m hm
  simp only [fsSb, List.mem_cons, List.not_mem_nil, or_false] at hm
  rcases hm with rfl | rfl | rfl | rfl | rfl | rfl | rfl | rfl | rfl | rfl | rfl | rfl | rfl | rfl | rfl | rfl | rfl | rfl | rfl | rfl | rfl | rfl | rfl | rfl | rfl | rfl | rfl | rfl | rfl | rfl | rfl | rfl | rfl | rfl | rfl | rfl | rfl | rfl
  · exact fsS0_ok
  · exact fsS1_ok
  · exact fsS2_ok
  · exact fsS3_ok
  · exact fsS4_ok
  · exact fsS5_ok
  · exact fsS6_ok
  · exact fsS7_ok
  · exact fsS8_ok
  · exact fsS9_ok
  · exact fsS10_ok
  · exact fsS11_ok
  · exact fsS12_ok
  · exact fsS13_ok
  · exact fsS14_ok
  · exact fsS15_ok
  · exact fsS16_ok
  · exact fsS17_ok
  · exact fsS18_ok
  · exact fsS19_ok
  · exact fsS20_ok
  · exact fsS21_ok
  · exact fsS22_ok
  · exact fsS23_ok
  · exact fsS24_ok
  · exact fsS25_ok
  · exact fsS26_ok
  · exact fsS27_ok
  · exact fsS28_ok
  · exact fsS29_ok
  · exact fsS30_ok
  · exact fsS31_ok
  · exact fsS32_ok
  · exact fsS33_ok
  · exact fsS34_ok
  · exact fsS35_ok
  · exact fsS36_ok
  · exact fsS37_ok
noncomputable def fsuSub : TB0 := uMemoT Tryz.prog fsD 1000 60 10 fsSb
theorem fsaSub : RowOk 10 fsuSub := fun args h Q hq => memoT_ok mixed hno fsD_ok (there 10 (by kernel_rfl)) fsSb_ok (smallB_all (by kernel_rfl)) args h Q hq
noncomputable def fsuAps : TB0 := exFunQ Tryz.prog (hdF Tryz.prog fsD 1000 60) 1000 89
theorem fsaAps : RowOk 89 fsuAps := fun args h Q hq => exFunQ_sound mixed hno fsD_ok 1000 60 89 args h Q hq
noncomputable def uMemoU (C : Con reg0.T) (f : Nat) (tab : List (Memo reg0.T)) : TB0 := fun args h => tabT tab args h (Out.ofO (exFunF Tryz.prog (hdF Tryz.prog C 1000 60) 1000 f args h))
theorem aMemoU {C : Con reg0.T} (hC : ConOk Tryz.prog C) {f : Nat} {tab : List (Memo reg0.T)} (ht : (match Tryz.prog.funcs[f]? with | some fn => !fn.body.isNone | none => false) = true) (hr : RowsC C f tab) (hs : smallB tab = true) : RowOk f (uMemoU C f tab) := by
  intro args h Q hq
  rcases tabT_ok hq with hq | hq
  · exact Spec.con_ok (specG mixed hno hC (there f ht) (rowsC_all hr)) (meetT tab) (memo_size (smallB_all hs)) args h Q hq
  · obtain ⟨r, h1, h2⟩ := Out.K_ofO.1 hq
    exact exFun_sound mixed (hdN_sound mixed hno hC 1000 60) hno 1000 f args h Q (exFunF_K _ h1 h2)
def fsLt : List (Memo reg0.T) := [fsLo fsM1, fsLo fsM2, fsLo fsM3, fsLo fsM4, fsLo fsM5, fsLo fsM6, fsLo fsM7, fsLo fsM8, fsLo fsM9, fsLo fsM10, fsLo fsM11, fsLo fsM12, fsLo fsM13, fsLo fsM14, fsLo fsM15, fsLo fsM16]
theorem fsLt_ok : RowsC C0 29 fsLt := ⟨fsLo1_ok, fsLo2_ok, fsLo3_ok, fsLo4_ok, fsLo5_ok, fsLo6_ok, fsLo7_ok, fsLo8_ok, fsLo9_ok, fsLo10_ok, fsLo11_ok, fsLo12_ok, fsLo13_ok, fsLo14_ok, fsLo15_ok, fsLo16_ok, trivial⟩
noncomputable def fsD2 : Con reg0.T := conAdd fsD 29 (uMemoU C0 29 fsLt)
theorem fsD2_ok : ConOk Tryz.prog fsD2 := conAdd_ok fsD_ok (aMemoU C0_ok (by kernel_rfl) fsLt_ok rfl)
noncomputable def fsE : Con reg0.T := conAdd (conAdd fsD2 10 fsuSub) 89 fsuAps
theorem fsE_ok : ConOk Tryz.prog fsE := conAdd_ok (conAdd_ok fsD2_ok fsaSub) fsaAps
noncomputable def fsC1 (l : List (Int × Int)) : Con reg0.T := conAdd fsE 9 (uW l)
theorem fsC1_ok (l : List (Int × Int)) : ConOk Tryz.prog (fsC1 l) := conAdd_ok fsE_ok (aW l)
def fsKn : Memo reg0.T := ⟨[], [], .d (.bool true), []⟩
theorem fsKn_ok : RowC fsE 7 fsKn := ⟨by kernel_rfl⟩
def fsT : Tabs reg0.T := tabsOf [(7, [fsKn])]
theorem fssKN : (match Tryz.prog.funcs[7]? with | some fn => !fn.body.isNone | none => false) = true := by kernel_rfl
theorem fsT_ok : TabsOk Tryz.prog fsT := tabs_cons fsE_ok fssKN ⟨fsKn_ok, trivial⟩ rfl tabs_nil
noncomputable def fsH (l : List (Int × Int)) : Hd reg0.T := hdJ Tryz.prog (fsC1 l) fsT (fun _ => false) 1000 60 12
theorem fsH_sound (l : List (Int × Int)) : HdSound Tryz.prog (fsH l) := hdJ_sound mixed hno (fsC1_ok _) fsT_ok _ _ _ _
noncomputable def fsYes (l : List (Int × Int)) (a b : V0) : Prop := runK Tryz.prog (fsH l) 1000 3 [a, b]
structure fsYesF (l : List (Int × Int)) (a b : V0) : Prop where
  go : fsYes l a b
theorem fsYesF.of {l : List (Int × Int)} {a b : V0} {p : Prop} (h : fsYes l a b = p) (hp : p) : fsYesF l a b := by
  refine ⟨?_⟩
  rw [h]
  exact hp
def fsVc (m v a : Int) (p : Prop) : Prop := must (decide ((0 : Int) < m) && decide (wi a m = v)) p
theorem fsVc_ok {m v a : Int} {p : Prop} (hm : 0 < m) (h : wi a m = v) (hp : p) : fsVc m v a p := (must_iff _ _).2 ⟨by rw [h]; simp [hm], hp⟩
end Go.Proofs.YtbcmfkognanjdaaGreatDoor
