/- ManagerBeats: tables of calls, class by class; how calls are carried out. No conditions. -/
import Derived.Test.YtmnkbfflpgmkmaaGreatDoorMb1
import Derived.Test.YtmnkbfflpgmkmaaGreatDoorMb2
import Derived.Test.YtmnkbfflpgmkmaaGreatDoorMb3
import Derived.Test.YtmnkbfflpgmkmaaGreatDoorMb4
namespace Go.Proofs.YtmnkbfflpgmkmaaGreatDoor
open Go Go.W Go.Proofs
set_option maxRecDepth 100000
def mKn : Memo reg0.T := ⟨[], [], .d (.bool true), []⟩
theorem mKn_ok : Row0 6 mKn := ⟨by kernel_rfl⟩
def symB (f : FuncId) : Bool := memN [8, 10, 16, 48] f
noncomputable def hB (T : Tabs reg0.T) (v u : Int) : Hd reg0.T := hdJ Tryz.prog (C1 [(10, v), (2, u)]) T symB 1000 60 12
def YesB (T : Tabs reg0.T) (v u n beat which : Int) : Prop := (exFunS Tryz.prog (hB T v u) 1000 5 [vi n, vi beat, vi which] ⟨.e, 0, []⟩).K (fun r => yes r.1)
structure YesBF (T : Tabs reg0.T) (v u n beat which : Int) : Prop where
  go : YesB T v u n beat which
theorem hB_sound {T : Tabs reg0.T} (hT : TabsOk Tryz.prog T) (v u : Int) : HdSound Tryz.prog (hB T v u) := hdJ_sound mixed hno (C1_ok _) hT _ _ _ _
theorem sStep : (match Tryz.prog.funcs[8]? with | some fn => !fn.body.isNone | none => false) = true := by kernel_rfl
theorem sSP : (match Tryz.prog.funcs[10]? with | some fn => !fn.body.isNone | none => false) = true := by kernel_rfl
theorem sKN : (match Tryz.prog.funcs[6]? with | some fn => !fn.body.isNone | none => false) = true := by kernel_rfl
def leafB (u which : Int) (b : Bool) : Prop := must (decide ((0 : Int) < 2) && decide (wi which 2 = u)) (b = true)
def swB (v beat : Int) (A B C D : Prop) : Prop := branch (decide (beat < v)) A (branch (decide (beat > v)) (branch (decide (IntKind.i64.wrap (beat - v) > 1)) B C) D)
/-- What is left to be shown of a class. -/
def vcB (v u n beat which : Int) : Prop := must (decide ((0 : Int) < 10) && decide (wi n 10 = v)) (branch (decide (beat < v)) (swB v beat (leafB u which true) (leafB u which false) (leafB u which false) (leafB u which false)) (branch (decide (IntKind.i64.wrap (beat - v) > 1)) (swB v beat (leafB u which false) (leafB u which true) (leafB u which false) (leafB u which false)) (branch (beat == v) (swB v beat (leafB u which false) (leafB u which false) (leafB u which true) (leafB u which true)) (swB v beat (leafB u which false) (leafB u which false) (leafB u which true) (leafB u which true)))))
theorem vcB_ok {v u n beat which : Int} (h1 : wi n 10 = v) (h2 : wi which 2 = u) : vcB v u n beat which := by
  have L : leafB u which true := (must_iff _ _).2 ⟨by rw [h2]; simp, rfl⟩
  refine (must_iff _ _).2 ⟨by rw [h1]; simp, (branch_iff _ _ _).2 ⟨fun a1 => ?_, fun a1 => (branch_iff _ _ _).2 ⟨fun a2 => ?_, fun a2 => (branch_iff _ _ _).2 ⟨fun a3 => ?_, fun a3 => ?_⟩⟩⟩⟩
  · exact (branch_iff _ _ _).2 ⟨fun _ => L, fun b1 => (by rw [a1] at b1; cases b1)⟩
  · refine (branch_iff _ _ _).2 ⟨fun b1 => (by rw [a1] at b1; cases b1), fun _ => (branch_iff _ _ _).2 ⟨fun _ => (branch_iff _ _ _).2 ⟨fun _ => L, fun b3 => (by rw [a2] at b3; cases b3)⟩, fun b2 => ?_⟩⟩
    have c1 := of_decide_eq_false a1
    have c2 := of_decide_eq_false b2
    have e : beat = v := by omega
    subst e
    rw [Int.sub_self] at a2
    exact absurd (of_decide_eq_true a2) (by decide)
  · have e : beat = v := eq_of_beq a3
    refine (branch_iff _ _ _).2 ⟨fun b1 => (by rw [a1] at b1; cases b1), fun _ => (branch_iff _ _ _).2 ⟨fun b2 => ?_, fun _ => L⟩⟩
    have := of_decide_eq_true b2
    omega
  · refine (branch_iff _ _ _).2 ⟨fun b1 => (by rw [a1] at b1; cases b1), fun _ => (branch_iff _ _ _).2 ⟨fun _ => (branch_iff _ _ _).2 ⟨fun b3 => (by rw [a2] at b3; cases b3), fun _ => L⟩, fun b2 => ?_⟩⟩
    have c1 := of_decide_eq_false a1
    have c2 := of_decide_eq_false b2
    have e : beat = v := by omega
    rw [e] at a3
    simp at a3
def tB0_0 : Tabs reg0.T := tabsOf [(8, [mbM0, mbM1, mbM2, mbM3, mbM4]), (10, [mbM5, mbM6, mbM7, mbM8]), (6, [mKn])]
theorem tB0_0_ok : TabsOk Tryz.prog tB0_0 := tabs_cons sStep ⟨mbM0_ok, mbM1_ok, mbM2_ok, mbM3_ok, mbM4_ok, trivial⟩ rfl (tabs_cons sSP ⟨mbM5_ok, mbM6_ok, mbM7_ok, mbM8_ok, trivial⟩ rfl (tabs_cons sKN ⟨mKn_ok, trivial⟩ rfl tabs_nil))
def tB0_1 : Tabs reg0.T := tabsOf [(8, [mbM0, mbM1, mbM2, mbM3, mbM9]), (10, [mbM5, mbM6, mbM10, mbM11]), (6, [mKn])]
theorem tB0_1_ok : TabsOk Tryz.prog tB0_1 := tabs_cons sStep ⟨mbM0_ok, mbM1_ok, mbM2_ok, mbM3_ok, mbM9_ok, trivial⟩ rfl (tabs_cons sSP ⟨mbM5_ok, mbM6_ok, mbM10_ok, mbM11_ok, trivial⟩ rfl (tabs_cons sKN ⟨mKn_ok, trivial⟩ rfl tabs_nil))
def tB1_0 : Tabs reg0.T := tabsOf [(8, [mbM0, mbM1, mbM2, mbM3, mbM12, mbM13]), (10, [mbM14, mbM15, mbM16, mbM17]), (6, [mKn])]
theorem tB1_0_ok : TabsOk Tryz.prog tB1_0 := tabs_cons sStep ⟨mbM0_ok, mbM1_ok, mbM2_ok, mbM3_ok, mbM12_ok, mbM13_ok, trivial⟩ rfl (tabs_cons sSP ⟨mbM14_ok, mbM15_ok, mbM16_ok, mbM17_ok, trivial⟩ rfl (tabs_cons sKN ⟨mKn_ok, trivial⟩ rfl tabs_nil))
def tB1_1 : Tabs reg0.T := tabsOf [(8, [mbM0, mbM1, mbM2, mbM3, mbM12, mbM18]), (10, [mbM14, mbM15, mbM19, mbM20]), (6, [mKn])]
theorem tB1_1_ok : TabsOk Tryz.prog tB1_1 := tabs_cons sStep ⟨mbM0_ok, mbM1_ok, mbM2_ok, mbM3_ok, mbM12_ok, mbM18_ok, trivial⟩ rfl (tabs_cons sSP ⟨mbM14_ok, mbM15_ok, mbM19_ok, mbM20_ok, trivial⟩ rfl (tabs_cons sKN ⟨mKn_ok, trivial⟩ rfl tabs_nil))
def tB2_0 : Tabs reg0.T := tabsOf [(8, [mbM0, mbM1, mbM2, mbM3, mbM12, mbM21, mbM22]), (10, [mbM23, mbM24, mbM25, mbM26]), (6, [mKn])]
theorem tB2_0_ok : TabsOk Tryz.prog tB2_0 := tabs_cons sStep ⟨mbM0_ok, mbM1_ok, mbM2_ok, mbM3_ok, mbM12_ok, mbM21_ok, mbM22_ok, trivial⟩ rfl (tabs_cons sSP ⟨mbM23_ok, mbM24_ok, mbM25_ok, mbM26_ok, trivial⟩ rfl (tabs_cons sKN ⟨mKn_ok, trivial⟩ rfl tabs_nil))
def tB2_1 : Tabs reg0.T := tabsOf [(8, [mbM0, mbM1, mbM2, mbM3, mbM12, mbM21, mbM27]), (10, [mbM23, mbM24, mbM28, mbM29]), (6, [mKn])]
theorem tB2_1_ok : TabsOk Tryz.prog tB2_1 := tabs_cons sStep ⟨mbM0_ok, mbM1_ok, mbM2_ok, mbM3_ok, mbM12_ok, mbM21_ok, mbM27_ok, trivial⟩ rfl (tabs_cons sSP ⟨mbM23_ok, mbM24_ok, mbM28_ok, mbM29_ok, trivial⟩ rfl (tabs_cons sKN ⟨mKn_ok, trivial⟩ rfl tabs_nil))
def tB3_0 : Tabs reg0.T := tabsOf [(8, [mbM0, mbM1, mbM2, mbM3, mbM12, mbM21, mbM30, mbM31]), (10, [mbM32, mbM33, mbM34, mbM35]), (6, [mKn])]
theorem tB3_0_ok : TabsOk Tryz.prog tB3_0 := tabs_cons sStep ⟨mbM0_ok, mbM1_ok, mbM2_ok, mbM3_ok, mbM12_ok, mbM21_ok, mbM30_ok, mbM31_ok, trivial⟩ rfl (tabs_cons sSP ⟨mbM32_ok, mbM33_ok, mbM34_ok, mbM35_ok, trivial⟩ rfl (tabs_cons sKN ⟨mKn_ok, trivial⟩ rfl tabs_nil))
def tB3_1 : Tabs reg0.T := tabsOf [(8, [mbM0, mbM1, mbM2, mbM3, mbM12, mbM21, mbM30, mbM36]), (10, [mbM32, mbM33, mbM37, mbM38]), (6, [mKn])]
theorem tB3_1_ok : TabsOk Tryz.prog tB3_1 := tabs_cons sStep ⟨mbM0_ok, mbM1_ok, mbM2_ok, mbM3_ok, mbM12_ok, mbM21_ok, mbM30_ok, mbM36_ok, trivial⟩ rfl (tabs_cons sSP ⟨mbM32_ok, mbM33_ok, mbM37_ok, mbM38_ok, trivial⟩ rfl (tabs_cons sKN ⟨mKn_ok, trivial⟩ rfl tabs_nil))
def tB4_0 : Tabs reg0.T := tabsOf [(8, [mbM0, mbM1, mbM2, mbM3, mbM12, mbM21, mbM30, mbM39, mbM40]), (10, [mbM41, mbM42, mbM43, mbM44]), (6, [mKn])]
theorem tB4_0_ok : TabsOk Tryz.prog tB4_0 := tabs_cons sStep ⟨mbM0_ok, mbM1_ok, mbM2_ok, mbM3_ok, mbM12_ok, mbM21_ok, mbM30_ok, mbM39_ok, mbM40_ok, trivial⟩ rfl (tabs_cons sSP ⟨mbM41_ok, mbM42_ok, mbM43_ok, mbM44_ok, trivial⟩ rfl (tabs_cons sKN ⟨mKn_ok, trivial⟩ rfl tabs_nil))
def tB4_1 : Tabs reg0.T := tabsOf [(8, [mbM0, mbM1, mbM2, mbM3, mbM12, mbM21, mbM30, mbM39, mbM45]), (10, [mbM41, mbM42, mbM46, mbM47]), (6, [mKn])]
theorem tB4_1_ok : TabsOk Tryz.prog tB4_1 := tabs_cons sStep ⟨mbM0_ok, mbM1_ok, mbM2_ok, mbM3_ok, mbM12_ok, mbM21_ok, mbM30_ok, mbM39_ok, mbM45_ok, trivial⟩ rfl (tabs_cons sSP ⟨mbM41_ok, mbM42_ok, mbM46_ok, mbM47_ok, trivial⟩ rfl (tabs_cons sKN ⟨mKn_ok, trivial⟩ rfl tabs_nil))
def tB5_0 : Tabs reg0.T := tabsOf [(8, [mbM0, mbM1, mbM2, mbM3, mbM12, mbM21, mbM30, mbM39, mbM48, mbM49]), (10, [mbM50, mbM51, mbM52, mbM53]), (6, [mKn])]
theorem tB5_0_ok : TabsOk Tryz.prog tB5_0 := tabs_cons sStep ⟨mbM0_ok, mbM1_ok, mbM2_ok, mbM3_ok, mbM12_ok, mbM21_ok, mbM30_ok, mbM39_ok, mbM48_ok, mbM49_ok, trivial⟩ rfl (tabs_cons sSP ⟨mbM50_ok, mbM51_ok, mbM52_ok, mbM53_ok, trivial⟩ rfl (tabs_cons sKN ⟨mKn_ok, trivial⟩ rfl tabs_nil))
def tB5_1 : Tabs reg0.T := tabsOf [(8, [mbM0, mbM1, mbM2, mbM3, mbM12, mbM21, mbM30, mbM39, mbM48, mbM54]), (10, [mbM50, mbM51, mbM55, mbM56]), (6, [mKn])]
theorem tB5_1_ok : TabsOk Tryz.prog tB5_1 := tabs_cons sStep ⟨mbM0_ok, mbM1_ok, mbM2_ok, mbM3_ok, mbM12_ok, mbM21_ok, mbM30_ok, mbM39_ok, mbM48_ok, mbM54_ok, trivial⟩ rfl (tabs_cons sSP ⟨mbM50_ok, mbM51_ok, mbM55_ok, mbM56_ok, trivial⟩ rfl (tabs_cons sKN ⟨mKn_ok, trivial⟩ rfl tabs_nil))
def tB6_0 : Tabs reg0.T := tabsOf [(8, [mbM0, mbM1, mbM2, mbM3, mbM12, mbM21, mbM30, mbM39, mbM48, mbM57, mbM58]), (10, [mbM59, mbM60, mbM61, mbM62]), (6, [mKn])]
theorem tB6_0_ok : TabsOk Tryz.prog tB6_0 := tabs_cons sStep ⟨mbM0_ok, mbM1_ok, mbM2_ok, mbM3_ok, mbM12_ok, mbM21_ok, mbM30_ok, mbM39_ok, mbM48_ok, mbM57_ok, mbM58_ok, trivial⟩ rfl (tabs_cons sSP ⟨mbM59_ok, mbM60_ok, mbM61_ok, mbM62_ok, trivial⟩ rfl (tabs_cons sKN ⟨mKn_ok, trivial⟩ rfl tabs_nil))
def tB6_1 : Tabs reg0.T := tabsOf [(8, [mbM0, mbM1, mbM2, mbM3, mbM12, mbM21, mbM30, mbM39, mbM48, mbM57, mbM63]), (10, [mbM59, mbM60, mbM64, mbM65]), (6, [mKn])]
theorem tB6_1_ok : TabsOk Tryz.prog tB6_1 := tabs_cons sStep ⟨mbM0_ok, mbM1_ok, mbM2_ok, mbM3_ok, mbM12_ok, mbM21_ok, mbM30_ok, mbM39_ok, mbM48_ok, mbM57_ok, mbM63_ok, trivial⟩ rfl (tabs_cons sSP ⟨mbM59_ok, mbM60_ok, mbM64_ok, mbM65_ok, trivial⟩ rfl (tabs_cons sKN ⟨mKn_ok, trivial⟩ rfl tabs_nil))
def tB7_0 : Tabs reg0.T := tabsOf [(8, [mbM0, mbM1, mbM2, mbM3, mbM12, mbM21, mbM30, mbM39, mbM48, mbM57, mbM66, mbM67]), (10, [mbM68, mbM69, mbM70, mbM71]), (6, [mKn])]
theorem tB7_0_ok : TabsOk Tryz.prog tB7_0 := tabs_cons sStep ⟨mbM0_ok, mbM1_ok, mbM2_ok, mbM3_ok, mbM12_ok, mbM21_ok, mbM30_ok, mbM39_ok, mbM48_ok, mbM57_ok, mbM66_ok, mbM67_ok, trivial⟩ rfl (tabs_cons sSP ⟨mbM68_ok, mbM69_ok, mbM70_ok, mbM71_ok, trivial⟩ rfl (tabs_cons sKN ⟨mKn_ok, trivial⟩ rfl tabs_nil))
def tB7_1 : Tabs reg0.T := tabsOf [(8, [mbM0, mbM1, mbM2, mbM3, mbM12, mbM21, mbM30, mbM39, mbM48, mbM57, mbM66, mbM72]), (10, [mbM68, mbM69, mbM73, mbM74]), (6, [mKn])]
theorem tB7_1_ok : TabsOk Tryz.prog tB7_1 := tabs_cons sStep ⟨mbM0_ok, mbM1_ok, mbM2_ok, mbM3_ok, mbM12_ok, mbM21_ok, mbM30_ok, mbM39_ok, mbM48_ok, mbM57_ok, mbM66_ok, mbM72_ok, trivial⟩ rfl (tabs_cons sSP ⟨mbM68_ok, mbM69_ok, mbM73_ok, mbM74_ok, trivial⟩ rfl (tabs_cons sKN ⟨mKn_ok, trivial⟩ rfl tabs_nil))
def tB8_0 : Tabs reg0.T := tabsOf [(8, [mbM0, mbM1, mbM2, mbM3, mbM12, mbM21, mbM30, mbM39, mbM48, mbM57, mbM66, mbM75, mbM76]), (10, [mbM77, mbM78, mbM79, mbM80]), (6, [mKn])]
theorem tB8_0_ok : TabsOk Tryz.prog tB8_0 := tabs_cons sStep ⟨mbM0_ok, mbM1_ok, mbM2_ok, mbM3_ok, mbM12_ok, mbM21_ok, mbM30_ok, mbM39_ok, mbM48_ok, mbM57_ok, mbM66_ok, mbM75_ok, mbM76_ok, trivial⟩ rfl (tabs_cons sSP ⟨mbM77_ok, mbM78_ok, mbM79_ok, mbM80_ok, trivial⟩ rfl (tabs_cons sKN ⟨mKn_ok, trivial⟩ rfl tabs_nil))
def tB8_1 : Tabs reg0.T := tabsOf [(8, [mbM0, mbM1, mbM2, mbM3, mbM12, mbM21, mbM30, mbM39, mbM48, mbM57, mbM66, mbM75, mbM81]), (10, [mbM77, mbM78, mbM82, mbM83]), (6, [mKn])]
theorem tB8_1_ok : TabsOk Tryz.prog tB8_1 := tabs_cons sStep ⟨mbM0_ok, mbM1_ok, mbM2_ok, mbM3_ok, mbM12_ok, mbM21_ok, mbM30_ok, mbM39_ok, mbM48_ok, mbM57_ok, mbM66_ok, mbM75_ok, mbM81_ok, trivial⟩ rfl (tabs_cons sSP ⟨mbM77_ok, mbM78_ok, mbM82_ok, mbM83_ok, trivial⟩ rfl (tabs_cons sKN ⟨mKn_ok, trivial⟩ rfl tabs_nil))
def tB9_0 : Tabs reg0.T := tabsOf [(8, [mbM0, mbM1, mbM2, mbM3, mbM12, mbM21, mbM30, mbM39, mbM48, mbM57, mbM66, mbM75, mbM84, mbM85]), (10, [mbM86, mbM87, mbM88, mbM89]), (6, [mKn])]
theorem tB9_0_ok : TabsOk Tryz.prog tB9_0 := tabs_cons sStep ⟨mbM0_ok, mbM1_ok, mbM2_ok, mbM3_ok, mbM12_ok, mbM21_ok, mbM30_ok, mbM39_ok, mbM48_ok, mbM57_ok, mbM66_ok, mbM75_ok, mbM84_ok, mbM85_ok, trivial⟩ rfl (tabs_cons sSP ⟨mbM86_ok, mbM87_ok, mbM88_ok, mbM89_ok, trivial⟩ rfl (tabs_cons sKN ⟨mKn_ok, trivial⟩ rfl tabs_nil))
def tB9_1 : Tabs reg0.T := tabsOf [(8, [mbM0, mbM1, mbM2, mbM3, mbM12, mbM21, mbM30, mbM39, mbM48, mbM57, mbM66, mbM75, mbM84, mbM90]), (10, [mbM86, mbM87, mbM91, mbM92]), (6, [mKn])]
theorem tB9_1_ok : TabsOk Tryz.prog tB9_1 := tabs_cons sStep ⟨mbM0_ok, mbM1_ok, mbM2_ok, mbM3_ok, mbM12_ok, mbM21_ok, mbM30_ok, mbM39_ok, mbM48_ok, mbM57_ok, mbM66_ok, mbM75_ok, mbM84_ok, mbM90_ok, trivial⟩ rfl (tabs_cons sSP ⟨mbM86_ok, mbM87_ok, mbM91_ok, mbM92_ok, trivial⟩ rfl (tabs_cons sKN ⟨mKn_ok, trivial⟩ rfl tabs_nil))
end Go.Proofs.YtmnkbfflpgmkmaaGreatDoor
