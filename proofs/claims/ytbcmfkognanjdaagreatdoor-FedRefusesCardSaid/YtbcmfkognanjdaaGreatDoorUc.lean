/- FedRefuses: steps as a table; how calls are carried out. No conditions. -/
import Derived.Test.YtbcmfkognanjdaaGreatDoorUb1
import Derived.Test.YtbcmfkognanjdaaGreatDoorUb2
import Derived.Test.YtbcmfkognanjdaaGreatDoorUj
namespace Go.Proofs.YtbcmfkognanjdaaGreatDoor
open Go Go.W Go.Proofs
set_option maxRecDepth 100000
set_option maxHeartbeats 4000000
def fuSt : List (Memo reg0.T) := [fuM0, fuM1, fuM2, fuM3, fuM4, fuM5, fuM6, fuM7, fuM8]
theorem fuSt_ok : RowsC fuC 27 fuSt := ⟨fuM0_ok, fuM1_ok, fuM2_ok, fuM3_ok, fuM4_ok, fuM5_ok, fuM6_ok, fuM7_ok, fuM8_ok, trivial⟩
noncomputable def fuD : Con reg0.T := conAdd fuC 27 (uMemoC fuC 27 fuSt)
theorem fuD_ok : ConOk Tryz.prog fuD := conAdd_ok fuC_ok (aMemoC fuC_ok (by kernel_rfl) fuSt_ok rfl)
/-- Calls from functions that range over maps, and functions. -/
noncomputable def fuhd : Hd reg0.T := hdS Tryz.prog fuD (fun _ => false) 1000 60 1
theorem fuhd_sound : HdSound Tryz.prog fuhd := hdS_sound mixed hno fuD_ok _ _ _ 1
noncomputable def fuuSub : TB0 := exFunI Tryz.prog fuhd 1000 10
theorem fuaSub : RowOk 10 fuuSub := fun args h Q hq => exFunI_sound mixed fuhd_sound hno 1000 10 args h Q hq
noncomputable def fuuAps : TB0 := exFunI Tryz.prog fuhd 1000 89
theorem fuaAps : RowOk 89 fuuAps := fun args h Q hq => exFunI_sound mixed fuhd_sound hno 1000 89 args h Q hq
noncomputable def fuE : Con reg0.T := conAdd (conAdd fuD 10 fuuSub) 89 fuuAps
theorem fuE_ok : ConOk Tryz.prog fuE := conAdd_ok (conAdd_ok fuD_ok fuaSub) fuaAps
noncomputable def fuC1 (l : List (Int × Int)) : Con reg0.T := conAdd fuE 9 (uW l)
theorem fuC1_ok (l : List (Int × Int)) : ConOk Tryz.prog (fuC1 l) := conAdd_ok fuE_ok (aW l)
def fuKn : Memo reg0.T := ⟨[], [], .d (.bool true), []⟩
theorem fuKn_ok : RowC fuE 7 fuKn := ⟨by kernel_rfl⟩
def fuT : Tabs reg0.T := tabsOf [(7, [fuKn])]
theorem fusKN : (match Tryz.prog.funcs[7]? with | some fn => !fn.body.isNone | none => false) = true := by kernel_rfl
theorem fuT_ok : TabsOk Tryz.prog fuT := tabs_cons fuE_ok fusKN ⟨fuKn_ok, trivial⟩ rfl tabs_nil
noncomputable def fuH (l : List (Int × Int)) : Hd reg0.T := hdJ Tryz.prog (fuC1 l) fuT (fun _ => false) 1000 60 12
theorem fuH_sound (l : List (Int × Int)) : HdSound Tryz.prog (fuH l) := hdJ_sound mixed hno (fuC1_ok _) fuT_ok _ _ _ _
noncomputable def fuYes (l : List (Int × Int)) (a b : V0) : Prop := runK Tryz.prog (fuH l) 1000 6 [a, b]
structure fuYesF (l : List (Int × Int)) (a b : V0) : Prop where
  go : fuYes l a b
theorem fuYesF.of {l : List (Int × Int)} {a b : V0} {p : Prop} (h : fuYes l a b = p) (hp : p) : fuYesF l a b := by
  refine ⟨?_⟩
  rw [h]
  exact hp
def fuVc (m v a : Int) (p : Prop) : Prop := must (decide ((0 : Int) < m) && decide (wi a m = v)) p
theorem fuVc_ok {m v a : Int} {p : Prop} (hm : 0 < m) (h : wi a m = v) (hp : p) : fuVc m v a p := (must_iff _ _).2 ⟨by rw [h]; simp [hm], hp⟩
end Go.Proofs.YtbcmfkognanjdaaGreatDoor
