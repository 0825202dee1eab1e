/- ManagerNode: tables of calls, class by class; how calls are carried out. No conditions. -/
import Derived.Test.YtmnkbfflpgmkmaaGreatDoorNb1
import Derived.Test.YtmnkbfflpgmkmaaGreatDoorNb2
import Derived.Test.YtmnkbfflpgmkmaaGreatDoorNb3
import Derived.Test.YtmnkbfflpgmkmaaGreatDoorNb4
import Derived.Test.YtmnkbfflpgmkmaaGreatDoorNb5
import Derived.Test.YtmnkbfflpgmkmaaGreatDoorNb6
namespace Go.Proofs.YtmnkbfflpgmkmaaGreatDoor
open Go Go.W Go.Proofs
set_option maxRecDepth 100000
def nnKn : Memo reg0.T := ⟨[], [], .d (.bool true), []⟩
theorem nnKn_ok : RowC nnC 6 nnKn := ⟨by kernel_rfl⟩
noncomputable def nnH (T : Tabs reg0.T) (v u : Int) : Hd reg0.T := hdJ Tryz.prog (C1 [(3, v), (14, u)]) T (fun _ => false) 1000 60 12
def nnYes (T : Tabs reg0.T) (v u a b : Int) : Prop := (exFunS Tryz.prog (nnH T v u) 1000 3 [vi a, vi b] ⟨.e, 0, []⟩).K (fun r => yes r.1)
structure nnYesF (T : Tabs reg0.T) (v u a b : Int) : Prop where
  go : nnYes T v u a b
theorem nnH_sound {T : Tabs reg0.T} (hT : TabsOk Tryz.prog T) (v u : Int) : HdSound Tryz.prog (nnH T v u) := hdJ_sound mixed hno (C1_ok _) hT _ _ _ _
theorem nnsSt : (match Tryz.prog.funcs[8]? with | some fn => !fn.body.isNone | none => false) = true := by kernel_rfl
theorem nnsSP : (match Tryz.prog.funcs[10]? with | some fn => !fn.body.isNone | none => false) = true := by kernel_rfl
theorem nnsKN : (match Tryz.prog.funcs[6]? with | some fn => !fn.body.isNone | none => false) = true := by kernel_rfl
/-- What is left to be shown of a class. -/
def nnVc (v u a b : Int) : Prop := must (decide ((0 : Int) < 3) && decide (wi a 3 = v)) (must (decide ((0 : Int) < 14) && decide (wi b 14 = u)) (true = true))
theorem nnVc_ok {v u a b : Int} (h1 : wi a 3 = v) (h2 : wi b 14 = u) : nnVc v u a b := (must_iff _ _).2 ⟨by rw [h1]; simp, (must_iff _ _).2 ⟨by rw [h2]; simp, rfl⟩⟩
def nnT0_0 : Tabs reg0.T := tabsOf [(8, [nnM0, nnM1, nnM2]), (10, [nnM3]), (6, [nnKn])]
theorem nnT0_0_ok : TabsOk Tryz.prog nnT0_0 := tabs_cons nnC_ok nnsSt ⟨nnM0_ok, nnM1_ok, nnM2_ok, trivial⟩ rfl (tabs_cons nnC_ok nnsSP ⟨nnM3_ok, trivial⟩ rfl (tabs_cons nnC_ok nnsKN ⟨nnKn_ok, trivial⟩ rfl tabs_nil))
def nnT0_1 : Tabs reg0.T := tabsOf [(8, [nnM0, nnM1, nnM2]), (10, [nnM4]), (6, [nnKn])]
theorem nnT0_1_ok : TabsOk Tryz.prog nnT0_1 := tabs_cons nnC_ok nnsSt ⟨nnM0_ok, nnM1_ok, nnM2_ok, trivial⟩ rfl (tabs_cons nnC_ok nnsSP ⟨nnM4_ok, trivial⟩ rfl (tabs_cons nnC_ok nnsKN ⟨nnKn_ok, trivial⟩ rfl tabs_nil))
def nnT0_2 : Tabs reg0.T := tabsOf [(8, [nnM0, nnM1, nnM2]), (10, [nnM5]), (6, [nnKn])]
theorem nnT0_2_ok : TabsOk Tryz.prog nnT0_2 := tabs_cons nnC_ok nnsSt ⟨nnM0_ok, nnM1_ok, nnM2_ok, trivial⟩ rfl (tabs_cons nnC_ok nnsSP ⟨nnM5_ok, trivial⟩ rfl (tabs_cons nnC_ok nnsKN ⟨nnKn_ok, trivial⟩ rfl tabs_nil))
def nnT0_3 : Tabs reg0.T := tabsOf [(8, [nnM0, nnM1, nnM2]), (10, [nnM6]), (6, [nnKn])]
theorem nnT0_3_ok : TabsOk Tryz.prog nnT0_3 := tabs_cons nnC_ok nnsSt ⟨nnM0_ok, nnM1_ok, nnM2_ok, trivial⟩ rfl (tabs_cons nnC_ok nnsSP ⟨nnM6_ok, trivial⟩ rfl (tabs_cons nnC_ok nnsKN ⟨nnKn_ok, trivial⟩ rfl tabs_nil))
def nnT0_4 : Tabs reg0.T := tabsOf [(8, [nnM0, nnM1, nnM2]), (10, [nnM7]), (6, [nnKn])]
theorem nnT0_4_ok : TabsOk Tryz.prog nnT0_4 := tabs_cons nnC_ok nnsSt ⟨nnM0_ok, nnM1_ok, nnM2_ok, trivial⟩ rfl (tabs_cons nnC_ok nnsSP ⟨nnM7_ok, trivial⟩ rfl (tabs_cons nnC_ok nnsKN ⟨nnKn_ok, trivial⟩ rfl tabs_nil))
def nnT0_5 : Tabs reg0.T := tabsOf [(8, [nnM0, nnM1, nnM2]), (10, [nnM8]), (6, [nnKn])]
theorem nnT0_5_ok : TabsOk Tryz.prog nnT0_5 := tabs_cons nnC_ok nnsSt ⟨nnM0_ok, nnM1_ok, nnM2_ok, trivial⟩ rfl (tabs_cons nnC_ok nnsSP ⟨nnM8_ok, trivial⟩ rfl (tabs_cons nnC_ok nnsKN ⟨nnKn_ok, trivial⟩ rfl tabs_nil))
def nnT0_6 : Tabs reg0.T := tabsOf [(8, [nnM0, nnM1, nnM2]), (10, [nnM9]), (6, [nnKn])]
theorem nnT0_6_ok : TabsOk Tryz.prog nnT0_6 := tabs_cons nnC_ok nnsSt ⟨nnM0_ok, nnM1_ok, nnM2_ok, trivial⟩ rfl (tabs_cons nnC_ok nnsSP ⟨nnM9_ok, trivial⟩ rfl (tabs_cons nnC_ok nnsKN ⟨nnKn_ok, trivial⟩ rfl tabs_nil))
def nnT0_7 : Tabs reg0.T := tabsOf [(8, [nnM0, nnM1, nnM2]), (10, [nnM10]), (6, [nnKn])]
theorem nnT0_7_ok : TabsOk Tryz.prog nnT0_7 := tabs_cons nnC_ok nnsSt ⟨nnM0_ok, nnM1_ok, nnM2_ok, trivial⟩ rfl (tabs_cons nnC_ok nnsSP ⟨nnM10_ok, trivial⟩ rfl (tabs_cons nnC_ok nnsKN ⟨nnKn_ok, trivial⟩ rfl tabs_nil))
def nnT0_8 : Tabs reg0.T := tabsOf [(8, [nnM0, nnM1, nnM2]), (10, [nnM11]), (6, [nnKn])]
theorem nnT0_8_ok : TabsOk Tryz.prog nnT0_8 := tabs_cons nnC_ok nnsSt ⟨nnM0_ok, nnM1_ok, nnM2_ok, trivial⟩ rfl (tabs_cons nnC_ok nnsSP ⟨nnM11_ok, trivial⟩ rfl (tabs_cons nnC_ok nnsKN ⟨nnKn_ok, trivial⟩ rfl tabs_nil))
def nnT0_9 : Tabs reg0.T := tabsOf [(8, [nnM0, nnM1, nnM2, nnM12]), (10, [nnM13, nnM14]), (6, [nnKn])]
theorem nnT0_9_ok : TabsOk Tryz.prog nnT0_9 := tabs_cons nnC_ok nnsSt ⟨nnM0_ok, nnM1_ok, nnM2_ok, nnM12_ok, trivial⟩ rfl (tabs_cons nnC_ok nnsSP ⟨nnM13_ok, nnM14_ok, trivial⟩ rfl (tabs_cons nnC_ok nnsKN ⟨nnKn_ok, trivial⟩ rfl tabs_nil))
def nnT0_10 : Tabs reg0.T := tabsOf [(8, [nnM0, nnM1, nnM2, nnM15]), (10, [nnM16, nnM17]), (6, [nnKn])]
theorem nnT0_10_ok : TabsOk Tryz.prog nnT0_10 := tabs_cons nnC_ok nnsSt ⟨nnM0_ok, nnM1_ok, nnM2_ok, nnM15_ok, trivial⟩ rfl (tabs_cons nnC_ok nnsSP ⟨nnM16_ok, nnM17_ok, trivial⟩ rfl (tabs_cons nnC_ok nnsKN ⟨nnKn_ok, trivial⟩ rfl tabs_nil))
def nnT0_11 : Tabs reg0.T := tabsOf [(8, [nnM0, nnM1, nnM2, nnM18]), (10, [nnM19, nnM20]), (6, [nnKn])]
theorem nnT0_11_ok : TabsOk Tryz.prog nnT0_11 := tabs_cons nnC_ok nnsSt ⟨nnM0_ok, nnM1_ok, nnM2_ok, nnM18_ok, trivial⟩ rfl (tabs_cons nnC_ok nnsSP ⟨nnM19_ok, nnM20_ok, trivial⟩ rfl (tabs_cons nnC_ok nnsKN ⟨nnKn_ok, trivial⟩ rfl tabs_nil))
def nnT0_12 : Tabs reg0.T := tabsOf [(8, [nnM0, nnM1, nnM2, nnM21]), (10, [nnM22, nnM23]), (6, [nnKn])]
theorem nnT0_12_ok : TabsOk Tryz.prog nnT0_12 := tabs_cons nnC_ok nnsSt ⟨nnM0_ok, nnM1_ok, nnM2_ok, nnM21_ok, trivial⟩ rfl (tabs_cons nnC_ok nnsSP ⟨nnM22_ok, nnM23_ok, trivial⟩ rfl (tabs_cons nnC_ok nnsKN ⟨nnKn_ok, trivial⟩ rfl tabs_nil))
def nnT0_13 : Tabs reg0.T := tabsOf [(8, [nnM0, nnM1, nnM2, nnM24]), (10, [nnM25, nnM26]), (6, [nnKn])]
theorem nnT0_13_ok : TabsOk Tryz.prog nnT0_13 := tabs_cons nnC_ok nnsSt ⟨nnM0_ok, nnM1_ok, nnM2_ok, nnM24_ok, trivial⟩ rfl (tabs_cons nnC_ok nnsSP ⟨nnM25_ok, nnM26_ok, trivial⟩ rfl (tabs_cons nnC_ok nnsKN ⟨nnKn_ok, trivial⟩ rfl tabs_nil))
def nnT1_0 : Tabs reg0.T := tabsOf [(8, [nnM0, nnM1, nnM27, nnM28]), (10, [nnM29]), (6, [nnKn])]
theorem nnT1_0_ok : TabsOk Tryz.prog nnT1_0 := tabs_cons nnC_ok nnsSt ⟨nnM0_ok, nnM1_ok, nnM27_ok, nnM28_ok, trivial⟩ rfl (tabs_cons nnC_ok nnsSP ⟨nnM29_ok, trivial⟩ rfl (tabs_cons nnC_ok nnsKN ⟨nnKn_ok, trivial⟩ rfl tabs_nil))
def nnT1_1 : Tabs reg0.T := tabsOf [(8, [nnM0, nnM1, nnM27, nnM28]), (10, [nnM30]), (6, [nnKn])]
theorem nnT1_1_ok : TabsOk Tryz.prog nnT1_1 := tabs_cons nnC_ok nnsSt ⟨nnM0_ok, nnM1_ok, nnM27_ok, nnM28_ok, trivial⟩ rfl (tabs_cons nnC_ok nnsSP ⟨nnM30_ok, trivial⟩ rfl (tabs_cons nnC_ok nnsKN ⟨nnKn_ok, trivial⟩ rfl tabs_nil))
def nnT1_2 : Tabs reg0.T := tabsOf [(8, [nnM0, nnM1, nnM27, nnM28]), (10, [nnM31]), (6, [nnKn])]
theorem nnT1_2_ok : TabsOk Tryz.prog nnT1_2 := tabs_cons nnC_ok nnsSt ⟨nnM0_ok, nnM1_ok, nnM27_ok, nnM28_ok, trivial⟩ rfl (tabs_cons nnC_ok nnsSP ⟨nnM31_ok, trivial⟩ rfl (tabs_cons nnC_ok nnsKN ⟨nnKn_ok, trivial⟩ rfl tabs_nil))
def nnT1_3 : Tabs reg0.T := tabsOf [(8, [nnM0, nnM1, nnM27, nnM28]), (10, [nnM32]), (6, [nnKn])]
theorem nnT1_3_ok : TabsOk Tryz.prog nnT1_3 := tabs_cons nnC_ok nnsSt ⟨nnM0_ok, nnM1_ok, nnM27_ok, nnM28_ok, trivial⟩ rfl (tabs_cons nnC_ok nnsSP ⟨nnM32_ok, trivial⟩ rfl (tabs_cons nnC_ok nnsKN ⟨nnKn_ok, trivial⟩ rfl tabs_nil))
def nnT1_4 : Tabs reg0.T := tabsOf [(8, [nnM0, nnM1, nnM27, nnM28]), (10, [nnM33]), (6, [nnKn])]
theorem nnT1_4_ok : TabsOk Tryz.prog nnT1_4 := tabs_cons nnC_ok nnsSt ⟨nnM0_ok, nnM1_ok, nnM27_ok, nnM28_ok, trivial⟩ rfl (tabs_cons nnC_ok nnsSP ⟨nnM33_ok, trivial⟩ rfl (tabs_cons nnC_ok nnsKN ⟨nnKn_ok, trivial⟩ rfl tabs_nil))
def nnT1_5 : Tabs reg0.T := tabsOf [(8, [nnM0, nnM1, nnM27, nnM28]), (10, [nnM34]), (6, [nnKn])]
theorem nnT1_5_ok : TabsOk Tryz.prog nnT1_5 := tabs_cons nnC_ok nnsSt ⟨nnM0_ok, nnM1_ok, nnM27_ok, nnM28_ok, trivial⟩ rfl (tabs_cons nnC_ok nnsSP ⟨nnM34_ok, trivial⟩ rfl (tabs_cons nnC_ok nnsKN ⟨nnKn_ok, trivial⟩ rfl tabs_nil))
def nnT1_6 : Tabs reg0.T := tabsOf [(8, [nnM0, nnM1, nnM27, nnM28]), (10, [nnM35]), (6, [nnKn])]
theorem nnT1_6_ok : TabsOk Tryz.prog nnT1_6 := tabs_cons nnC_ok nnsSt ⟨nnM0_ok, nnM1_ok, nnM27_ok, nnM28_ok, trivial⟩ rfl (tabs_cons nnC_ok nnsSP ⟨nnM35_ok, trivial⟩ rfl (tabs_cons nnC_ok nnsKN ⟨nnKn_ok, trivial⟩ rfl tabs_nil))
def nnT1_7 : Tabs reg0.T := tabsOf [(8, [nnM0, nnM1, nnM27, nnM28]), (10, [nnM36]), (6, [nnKn])]
theorem nnT1_7_ok : TabsOk Tryz.prog nnT1_7 := tabs_cons nnC_ok nnsSt ⟨nnM0_ok, nnM1_ok, nnM27_ok, nnM28_ok, trivial⟩ rfl (tabs_cons nnC_ok nnsSP ⟨nnM36_ok, trivial⟩ rfl (tabs_cons nnC_ok nnsKN ⟨nnKn_ok, trivial⟩ rfl tabs_nil))
def nnT1_8 : Tabs reg0.T := tabsOf [(8, [nnM0, nnM1, nnM27, nnM28]), (10, [nnM37]), (6, [nnKn])]
theorem nnT1_8_ok : TabsOk Tryz.prog nnT1_8 := tabs_cons nnC_ok nnsSt ⟨nnM0_ok, nnM1_ok, nnM27_ok, nnM28_ok, trivial⟩ rfl (tabs_cons nnC_ok nnsSP ⟨nnM37_ok, trivial⟩ rfl (tabs_cons nnC_ok nnsKN ⟨nnKn_ok, trivial⟩ rfl tabs_nil))
def nnT1_9 : Tabs reg0.T := tabsOf [(8, [nnM0, nnM1, nnM27, nnM28, nnM38]), (10, [nnM39, nnM40]), (6, [nnKn])]
theorem nnT1_9_ok : TabsOk Tryz.prog nnT1_9 := tabs_cons nnC_ok nnsSt ⟨nnM0_ok, nnM1_ok, nnM27_ok, nnM28_ok, nnM38_ok, trivial⟩ rfl (tabs_cons nnC_ok nnsSP ⟨nnM39_ok, nnM40_ok, trivial⟩ rfl (tabs_cons nnC_ok nnsKN ⟨nnKn_ok, trivial⟩ rfl tabs_nil))
def nnT1_10 : Tabs reg0.T := tabsOf [(8, [nnM0, nnM1, nnM27, nnM28, nnM41]), (10, [nnM42, nnM43]), (6, [nnKn])]
theorem nnT1_10_ok : TabsOk Tryz.prog nnT1_10 := tabs_cons nnC_ok nnsSt ⟨nnM0_ok, nnM1_ok, nnM27_ok, nnM28_ok, nnM41_ok, trivial⟩ rfl (tabs_cons nnC_ok nnsSP ⟨nnM42_ok, nnM43_ok, trivial⟩ rfl (tabs_cons nnC_ok nnsKN ⟨nnKn_ok, trivial⟩ rfl tabs_nil))
def nnT1_11 : Tabs reg0.T := tabsOf [(8, [nnM0, nnM1, nnM27, nnM28, nnM44]), (10, [nnM45, nnM46]), (6, [nnKn])]
theorem nnT1_11_ok : TabsOk Tryz.prog nnT1_11 := tabs_cons nnC_ok nnsSt ⟨nnM0_ok, nnM1_ok, nnM27_ok, nnM28_ok, nnM44_ok, trivial⟩ rfl (tabs_cons nnC_ok nnsSP ⟨nnM45_ok, nnM46_ok, trivial⟩ rfl (tabs_cons nnC_ok nnsKN ⟨nnKn_ok, trivial⟩ rfl tabs_nil))
def nnT1_12 : Tabs reg0.T := tabsOf [(8, [nnM0, nnM1, nnM27, nnM28, nnM47]), (10, [nnM48, nnM49]), (6, [nnKn])]
theorem nnT1_12_ok : TabsOk Tryz.prog nnT1_12 := tabs_cons nnC_ok nnsSt ⟨nnM0_ok, nnM1_ok, nnM27_ok, nnM28_ok, nnM47_ok, trivial⟩ rfl (tabs_cons nnC_ok nnsSP ⟨nnM48_ok, nnM49_ok, trivial⟩ rfl (tabs_cons nnC_ok nnsKN ⟨nnKn_ok, trivial⟩ rfl tabs_nil))
def nnT1_13 : Tabs reg0.T := tabsOf [(8, [nnM0, nnM1, nnM27, nnM28, nnM50]), (10, [nnM51, nnM52]), (6, [nnKn])]
theorem nnT1_13_ok : TabsOk Tryz.prog nnT1_13 := tabs_cons nnC_ok nnsSt ⟨nnM0_ok, nnM1_ok, nnM27_ok, nnM28_ok, nnM50_ok, trivial⟩ rfl (tabs_cons nnC_ok nnsSP ⟨nnM51_ok, nnM52_ok, trivial⟩ rfl (tabs_cons nnC_ok nnsKN ⟨nnKn_ok, trivial⟩ rfl tabs_nil))
def nnT2_0 : Tabs reg0.T := tabsOf [(8, [nnM0, nnM1, nnM27, nnM53, nnM54]), (10, [nnM55]), (6, [nnKn])]
theorem nnT2_0_ok : TabsOk Tryz.prog nnT2_0 := tabs_cons nnC_ok nnsSt ⟨nnM0_ok, nnM1_ok, nnM27_ok, nnM53_ok, nnM54_ok, trivial⟩ rfl (tabs_cons nnC_ok nnsSP ⟨nnM55_ok, trivial⟩ rfl (tabs_cons nnC_ok nnsKN ⟨nnKn_ok, trivial⟩ rfl tabs_nil))
def nnT2_1 : Tabs reg0.T := tabsOf [(8, [nnM0, nnM1, nnM27, nnM53, nnM54]), (10, [nnM56]), (6, [nnKn])]
theorem nnT2_1_ok : TabsOk Tryz.prog nnT2_1 := tabs_cons nnC_ok nnsSt ⟨nnM0_ok, nnM1_ok, nnM27_ok, nnM53_ok, nnM54_ok, trivial⟩ rfl (tabs_cons nnC_ok nnsSP ⟨nnM56_ok, trivial⟩ rfl (tabs_cons nnC_ok nnsKN ⟨nnKn_ok, trivial⟩ rfl tabs_nil))
def nnT2_2 : Tabs reg0.T := tabsOf [(8, [nnM0, nnM1, nnM27, nnM53, nnM54]), (10, [nnM57]), (6, [nnKn])]
theorem nnT2_2_ok : TabsOk Tryz.prog nnT2_2 := tabs_cons nnC_ok nnsSt ⟨nnM0_ok, nnM1_ok, nnM27_ok, nnM53_ok, nnM54_ok, trivial⟩ rfl (tabs_cons nnC_ok nnsSP ⟨nnM57_ok, trivial⟩ rfl (tabs_cons nnC_ok nnsKN ⟨nnKn_ok, trivial⟩ rfl tabs_nil))
def nnT2_3 : Tabs reg0.T := tabsOf [(8, [nnM0, nnM1, nnM27, nnM53, nnM54]), (10, [nnM58]), (6, [nnKn])]
theorem nnT2_3_ok : TabsOk Tryz.prog nnT2_3 := tabs_cons nnC_ok nnsSt ⟨nnM0_ok, nnM1_ok, nnM27_ok, nnM53_ok, nnM54_ok, trivial⟩ rfl (tabs_cons nnC_ok nnsSP ⟨nnM58_ok, trivial⟩ rfl (tabs_cons nnC_ok nnsKN ⟨nnKn_ok, trivial⟩ rfl tabs_nil))
def nnT2_4 : Tabs reg0.T := tabsOf [(8, [nnM0, nnM1, nnM27, nnM53, nnM54]), (10, [nnM59]), (6, [nnKn])]
theorem nnT2_4_ok : TabsOk Tryz.prog nnT2_4 := tabs_cons nnC_ok nnsSt ⟨nnM0_ok, nnM1_ok, nnM27_ok, nnM53_ok, nnM54_ok, trivial⟩ rfl (tabs_cons nnC_ok nnsSP ⟨nnM59_ok, trivial⟩ rfl (tabs_cons nnC_ok nnsKN ⟨nnKn_ok, trivial⟩ rfl tabs_nil))
def nnT2_5 : Tabs reg0.T := tabsOf [(8, [nnM0, nnM1, nnM27, nnM53, nnM54]), (10, [nnM60]), (6, [nnKn])]
theorem nnT2_5_ok : TabsOk Tryz.prog nnT2_5 := tabs_cons nnC_ok nnsSt ⟨nnM0_ok, nnM1_ok, nnM27_ok, nnM53_ok, nnM54_ok, trivial⟩ rfl (tabs_cons nnC_ok nnsSP ⟨nnM60_ok, trivial⟩ rfl (tabs_cons nnC_ok nnsKN ⟨nnKn_ok, trivial⟩ rfl tabs_nil))
def nnT2_6 : Tabs reg0.T := tabsOf [(8, [nnM0, nnM1, nnM27, nnM53, nnM54]), (10, [nnM61]), (6, [nnKn])]
theorem nnT2_6_ok : TabsOk Tryz.prog nnT2_6 := tabs_cons nnC_ok nnsSt ⟨nnM0_ok, nnM1_ok, nnM27_ok, nnM53_ok, nnM54_ok, trivial⟩ rfl (tabs_cons nnC_ok nnsSP ⟨nnM61_ok, trivial⟩ rfl (tabs_cons nnC_ok nnsKN ⟨nnKn_ok, trivial⟩ rfl tabs_nil))
def nnT2_7 : Tabs reg0.T := tabsOf [(8, [nnM0, nnM1, nnM27, nnM53, nnM54]), (10, [nnM62]), (6, [nnKn])]
theorem nnT2_7_ok : TabsOk Tryz.prog nnT2_7 := tabs_cons nnC_ok nnsSt ⟨nnM0_ok, nnM1_ok, nnM27_ok, nnM53_ok, nnM54_ok, trivial⟩ rfl (tabs_cons nnC_ok nnsSP ⟨nnM62_ok, trivial⟩ rfl (tabs_cons nnC_ok nnsKN ⟨nnKn_ok, trivial⟩ rfl tabs_nil))
def nnT2_8 : Tabs reg0.T := tabsOf [(8, [nnM0, nnM1, nnM27, nnM53, nnM54]), (10, [nnM63]), (6, [nnKn])]
theorem nnT2_8_ok : TabsOk Tryz.prog nnT2_8 := tabs_cons nnC_ok nnsSt ⟨nnM0_ok, nnM1_ok, nnM27_ok, nnM53_ok, nnM54_ok, trivial⟩ rfl (tabs_cons nnC_ok nnsSP ⟨nnM63_ok, trivial⟩ rfl (tabs_cons nnC_ok nnsKN ⟨nnKn_ok, trivial⟩ rfl tabs_nil))
def nnT2_9 : Tabs reg0.T := tabsOf [(8, [nnM0, nnM1, nnM27, nnM53, nnM54, nnM64]), (10, [nnM65, nnM66]), (6, [nnKn])]
theorem nnT2_9_ok : TabsOk Tryz.prog nnT2_9 := tabs_cons nnC_ok nnsSt ⟨nnM0_ok, nnM1_ok, nnM27_ok, nnM53_ok, nnM54_ok, nnM64_ok, trivial⟩ rfl (tabs_cons nnC_ok nnsSP ⟨nnM65_ok, nnM66_ok, trivial⟩ rfl (tabs_cons nnC_ok nnsKN ⟨nnKn_ok, trivial⟩ rfl tabs_nil))
def nnT2_10 : Tabs reg0.T := tabsOf [(8, [nnM0, nnM1, nnM27, nnM53, nnM54, nnM67]), (10, [nnM68, nnM69]), (6, [nnKn])]
theorem nnT2_10_ok : TabsOk Tryz.prog nnT2_10 := tabs_cons nnC_ok nnsSt ⟨nnM0_ok, nnM1_ok, nnM27_ok, nnM53_ok, nnM54_ok, nnM67_ok, trivial⟩ rfl (tabs_cons nnC_ok nnsSP ⟨nnM68_ok, nnM69_ok, trivial⟩ rfl (tabs_cons nnC_ok nnsKN ⟨nnKn_ok, trivial⟩ rfl tabs_nil))
def nnT2_11 : Tabs reg0.T := tabsOf [(8, [nnM0, nnM1, nnM27, nnM53, nnM54, nnM70]), (10, [nnM71, nnM72]), (6, [nnKn])]
theorem nnT2_11_ok : TabsOk Tryz.prog nnT2_11 := tabs_cons nnC_ok nnsSt ⟨nnM0_ok, nnM1_ok, nnM27_ok, nnM53_ok, nnM54_ok, nnM70_ok, trivial⟩ rfl (tabs_cons nnC_ok nnsSP ⟨nnM71_ok, nnM72_ok, trivial⟩ rfl (tabs_cons nnC_ok nnsKN ⟨nnKn_ok, trivial⟩ rfl tabs_nil))
def nnT2_12 : Tabs reg0.T := tabsOf [(8, [nnM0, nnM1, nnM27, nnM53, nnM54, nnM73]), (10, [nnM74, nnM75]), (6, [nnKn])]
theorem nnT2_12_ok : TabsOk Tryz.prog nnT2_12 := tabs_cons nnC_ok nnsSt ⟨nnM0_ok, nnM1_ok, nnM27_ok, nnM53_ok, nnM54_ok, nnM73_ok, trivial⟩ rfl (tabs_cons nnC_ok nnsSP ⟨nnM74_ok, nnM75_ok, trivial⟩ rfl (tabs_cons nnC_ok nnsKN ⟨nnKn_ok, trivial⟩ rfl tabs_nil))
def nnT2_13 : Tabs reg0.T := tabsOf [(8, [nnM0, nnM1, nnM27, nnM53, nnM54, nnM76]), (10, [nnM77, nnM78]), (6, [nnKn])]
theorem nnT2_13_ok : TabsOk Tryz.prog nnT2_13 := tabs_cons nnC_ok nnsSt ⟨nnM0_ok, nnM1_ok, nnM27_ok, nnM53_ok, nnM54_ok, nnM76_ok, trivial⟩ rfl (tabs_cons nnC_ok nnsSP ⟨nnM77_ok, nnM78_ok, trivial⟩ rfl (tabs_cons nnC_ok nnsKN ⟨nnKn_ok, trivial⟩ rfl tabs_nil))
end Go.Proofs.YtmnkbfflpgmkmaaGreatDoor
