/- FedRacks: steps as a table; how calls are carried out. No conditions. -/
import Derived.Test.YtbcmfkognanjdaaGreatDoorRb1
import Derived.Test.YtbcmfkognanjdaaGreatDoorRb2
import Derived.Test.YtbcmfkognanjdaaGreatDoorRb3
import Derived.Test.YtbcmfkognanjdaaGreatDoorRb4
import Derived.Test.YtbcmfkognanjdaaGreatDoorRb5
import Derived.Test.YtbcmfkognanjdaaGreatDoorRb6
namespace Go.Proofs.YtbcmfkognanjdaaGreatDoor
open Go Go.W Go.Proofs
set_option maxRecDepth 100000
def frSt : List (Memo reg0.T) := [frM0, frM1, frM2, frM3, frM4, frM5, frM6, frM7, frM8, frM9, frM10, frM11, frM12, frM13, frM14, frM15, frM16, frM17, frM18, frM19, frM20, frM21, frM22, frM23, frM24, frM25, frM26, frM27, frM28, frM29, frM30, frM31, frM32, frM33, frM34, frM35, frM36, frM37, frM38, frM39, frM40, frM41, frM42, frM43, frM44, frM45, frM46, frM47, frM48, frM49, frM50, frM51, frM52, frM53, frM54, frM55, frM56, frM57, frM58, frM59, frM60, frM61, frM62, frM63, frM64, frM65, frM66, frM67]
theorem frSt_ok : RowsC frC 27 frSt := ⟨frM0_ok, frM1_ok, frM2_ok, frM3_ok, frM4_ok, frM5_ok, frM6_ok, frM7_ok, frM8_ok, frM9_ok, frM10_ok, frM11_ok, frM12_ok, frM13_ok, frM14_ok, frM15_ok, frM16_ok, frM17_ok, frM18_ok, frM19_ok, frM20_ok, frM21_ok, frM22_ok, frM23_ok, frM24_ok, frM25_ok, frM26_ok, frM27_ok, frM28_ok, frM29_ok, frM30_ok, frM31_ok, frM32_ok, frM33_ok, frM34_ok, frM35_ok, frM36_ok, frM37_ok, frM38_ok, frM39_ok, frM40_ok, frM41_ok, frM42_ok, frM43_ok, frM44_ok, frM45_ok, frM46_ok, frM47_ok, frM48_ok, frM49_ok, frM50_ok, frM51_ok, frM52_ok, frM53_ok, frM54_ok, frM55_ok, frM56_ok, frM57_ok, frM58_ok, frM59_ok, frM60_ok, frM61_ok, frM62_ok, frM63_ok, frM64_ok, frM65_ok, frM66_ok, frM67_ok, trivial⟩
noncomputable def frD : Con reg0.T := conAdd frC 27 (uMemoC frC 27 frSt)
theorem frD_ok : ConOk Tryz.prog frD := conAdd_ok frC_ok (aMemoC frC_ok (by kernel_rfl) frSt_ok rfl)
/-- Calls from functions that range over maps, and functions. -/
noncomputable def frhd : Hd reg0.T := hdS Tryz.prog frD (fun _ => false) 1000 60 1
theorem frhd_sound : HdSound Tryz.prog frhd := hdS_sound mixed hno frD_ok _ _ _ 1
noncomputable def fruSub : TB0 := exFunI Tryz.prog frhd 1000 10
theorem fraSub : RowOk 10 fruSub := fun args h Q hq => exFunI_sound mixed frhd_sound hno 1000 10 args h Q hq
noncomputable def fruAps : TB0 := exFunI Tryz.prog frhd 1000 89
theorem fraAps : RowOk 89 fruAps := fun args h Q hq => exFunI_sound mixed frhd_sound hno 1000 89 args h Q hq
noncomputable def frE : Con reg0.T := conAdd (conAdd frD 10 fruSub) 89 fruAps
theorem frE_ok : ConOk Tryz.prog frE := conAdd_ok (conAdd_ok frD_ok fraSub) fraAps
noncomputable def frC1 (l : List (Int × Int)) : Con reg0.T := conAdd frE 9 (uW l)
theorem frC1_ok (l : List (Int × Int)) : ConOk Tryz.prog (frC1 l) := conAdd_ok frE_ok (aW l)
def frKn : Memo reg0.T := ⟨[], [], .d (.bool true), []⟩
theorem frKn_ok : RowC frE 7 frKn := ⟨by kernel_rfl⟩
def frT : Tabs reg0.T := tabsOf [(7, [frKn])]
theorem frsKN : (match Tryz.prog.funcs[7]? with | some fn => !fn.body.isNone | none => false) = true := by kernel_rfl
theorem frT_ok : TabsOk Tryz.prog frT := tabs_cons frE_ok frsKN ⟨frKn_ok, trivial⟩ rfl tabs_nil
noncomputable def frH (l : List (Int × Int)) : Hd reg0.T := hdJ Tryz.prog (frC1 l) frT (fun _ => false) 1000 60 12
theorem frH_sound (l : List (Int × Int)) : HdSound Tryz.prog (frH l) := hdJ_sound mixed hno (frC1_ok _) frT_ok _ _ _ _
def frYes (l : List (Int × Int)) (a b : V0) : Prop := (exFunS Tryz.prog (frH l) 1000 4 [a, b] ⟨.e, 0, []⟩).K (fun r => yes r.1)
structure frYesF (l : List (Int × Int)) (a b : V0) : Prop where
  go : frYes l a b
theorem frYesF.of {l : List (Int × Int)} {a b : V0} {p : Prop} (h : frYes l a b = p) (hp : p) : frYesF l a b := ⟨Eq.mpr h hp⟩
def frVc (m v a : Int) (p : Prop) : Prop := must (decide ((0 : Int) < m) && decide (wi a m = v)) p
theorem frVc_ok {m v a : Int} {p : Prop} (hm : 0 < m) (h : wi a m = v) (hp : p) : frVc m v a p := (must_iff _ _).2 ⟨by rw [h]; simp [hm], hp⟩
end Go.Proofs.YtbcmfkognanjdaaGreatDoor
