/- FedWaits: steps as a table; how calls are carried out. No conditions. -/
import Derived.Test.YtbcmfkognanjdaaGreatDoorQb1
import Derived.Test.YtbcmfkognanjdaaGreatDoorQb2
import Derived.Test.YtbcmfkognanjdaaGreatDoorQb3
namespace Go.Proofs.YtbcmfkognanjdaaGreatDoor
open Go Go.W Go.Proofs
set_option maxRecDepth 100000
def fqSt : List (Memo reg0.T) := [fqM0, fqM1, fqM2, fqM3, fqM4, fqM5, fqM6, fqM7, fqM8, fqM9, fqM10, fqM11, fqM12, fqM13, fqM14, fqM15, fqM16, fqM17, fqM18, fqM19, fqM20, fqM21, fqM22]
theorem fqSt_ok : RowsC fqC 27 fqSt := ⟨fqM0_ok, fqM1_ok, fqM2_ok, fqM3_ok, fqM4_ok, fqM5_ok, fqM6_ok, fqM7_ok, fqM8_ok, fqM9_ok, fqM10_ok, fqM11_ok, fqM12_ok, fqM13_ok, fqM14_ok, fqM15_ok, fqM16_ok, fqM17_ok, fqM18_ok, fqM19_ok, fqM20_ok, fqM21_ok, fqM22_ok, trivial⟩
noncomputable def fqD : Con reg0.T := conAdd fqC 27 (uMemoC fqC 27 fqSt)
theorem fqD_ok : ConOk Tryz.prog fqD := conAdd_ok fqC_ok (aMemoC fqC_ok (by kernel_rfl) fqSt_ok rfl)
/-- Calls from functions that range over maps, and functions. -/
noncomputable def fqhd : Hd reg0.T := hdS Tryz.prog fqD (fun _ => false) 1000 60 1
theorem fqhd_sound : HdSound Tryz.prog fqhd := hdS_sound mixed hno fqD_ok _ _ _ 1
noncomputable def fquSub : TB0 := exFunI Tryz.prog fqhd 1000 10
theorem fqaSub : RowOk 10 fquSub := fun args h Q hq => exFunI_sound mixed fqhd_sound hno 1000 10 args h Q hq
noncomputable def fquAps : TB0 := exFunI Tryz.prog fqhd 1000 89
theorem fqaAps : RowOk 89 fquAps := fun args h Q hq => exFunI_sound mixed fqhd_sound hno 1000 89 args h Q hq
noncomputable def fqE : Con reg0.T := conAdd (conAdd fqD 10 fquSub) 89 fquAps
theorem fqE_ok : ConOk Tryz.prog fqE := conAdd_ok (conAdd_ok fqD_ok fqaSub) fqaAps
noncomputable def fqC1 (l : List (Int × Int)) : Con reg0.T := conAdd fqE 9 (uW l)
theorem fqC1_ok (l : List (Int × Int)) : ConOk Tryz.prog (fqC1 l) := conAdd_ok fqE_ok (aW l)
def fqKn : Memo reg0.T := ⟨[], [], .d (.bool true), []⟩
theorem fqKn_ok : RowC fqE 7 fqKn := ⟨by kernel_rfl⟩
def fqT : Tabs reg0.T := tabsOf [(7, [fqKn])]
theorem fqsKN : (match Tryz.prog.funcs[7]? with | some fn => !fn.body.isNone | none => false) = true := by kernel_rfl
theorem fqT_ok : TabsOk Tryz.prog fqT := tabs_cons fqE_ok fqsKN ⟨fqKn_ok, trivial⟩ rfl tabs_nil
noncomputable def fqH (l : List (Int × Int)) : Hd reg0.T := hdJ Tryz.prog (fqC1 l) fqT (fun _ => false) 1000 60 12
theorem fqH_sound (l : List (Int × Int)) : HdSound Tryz.prog (fqH l) := hdJ_sound mixed hno (fqC1_ok _) fqT_ok _ _ _ _
def fqYes (l : List (Int × Int)) (a b : V0) : Prop := (exFunS Tryz.prog (fqH l) 1000 5 [a, b] ⟨.e, 0, []⟩).K (fun r => yes r.1)
structure fqYesF (l : List (Int × Int)) (a b : V0) : Prop where
  go : fqYes l a b
def fqVc (m v a : Int) (p : Prop) : Prop := must (decide ((0 : Int) < m) && decide (wi a m = v)) p
theorem fqVc_ok {m v a : Int} {p : Prop} (hm : 0 < m) (h : wi a m = v) (hp : p) : fqVc m v a p := (must_iff _ _).2 ⟨by rw [h]; simp [hm], hp⟩
end Go.Proofs.YtbcmfkognanjdaaGreatDoor
