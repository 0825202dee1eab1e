/- ShellGrants: steps as a table; how calls are carried out. No conditions. -/
import Derived.Test.YtgogidieibkimaaGreatDoorHb1
import Derived.Test.YtgogidieibkimaaGreatDoorHb2
import Derived.Test.YtgogidieibkimaaGreatDoorHb3
import Derived.Test.YtgogidieibkimaaGreatDoorHb4
import Derived.Test.YtgogidieibkimaaGreatDoorHb5
import Derived.Test.YtgogidieibkimaaGreatDoorHb6
import Derived.Test.YtgogidieibkimaaGreatDoorHb7
import Derived.Test.YtgogidieibkimaaGreatDoorHb8
import Derived.Test.YtgogidieibkimaaGreatDoorHb9
import Derived.Test.YtgogidieibkimaaGreatDoorHb10
import Derived.Test.YtgogidieibkimaaGreatDoorHb11
import Derived.Test.YtgogidieibkimaaGreatDoorHb12
import Derived.Test.YtgogidieibkimaaGreatDoorHb13
import Derived.Test.YtgogidieibkimaaGreatDoorHb14
import Derived.Test.YtgogidieibkimaaGreatDoorHb15
import Derived.Test.YtgogidieibkimaaGreatDoorHb16
import Derived.Test.YtgogidieibkimaaGreatDoorHb17
import Derived.Test.YtgogidieibkimaaGreatDoorHb18
import Derived.Test.YtgogidieibkimaaGreatDoorHb19
import Derived.Test.YtgogidieibkimaaGreatDoorHb20
import Derived.Test.YtgogidieibkimaaGreatDoorUj
namespace Go.Proofs.YtgogidieibkimaaGreatDoor
open Go Go.W Go.Proofs
set_option maxRecDepth 100000
def grSt : List (Memo reg0.T) := [grM0, grM1, grM2, grM3, grM4, grM5, grM6, grM7, grM8, grM9, grM10, grM11, grM12, grM13, grM14, grM15, grM16, grM17, grM18, grM19, grM20, grM21, grM22, grM23, grM24, grM25, grM26, grM27, grM28, grM29, grM30, grM31, grM32, grM33, grM34, grM35, grM36, grM37, grM38, grM39, grM40, grM41, grM42, grM43, grM44, grM45, grM46, grM47, grM48, grM49, grM50, grM51, grM52, grM53, grM54, grM55, grM56, grM57, grM58, grM59, grM60, grM61, grM62, grM63, grM64, grM65, grM66, grM67, grM68, grM69, grM70, grM71, grM72, grM73, grM74, grM75, grM76, grM77, grM78, grM79, grM80, grM81, grM82, grM83, grM84, grM85, grM86, grM87, grM88, grM89, grM90, grM91, grM92, grM93, grM94, grM95, grM96, grM97, grM98, grM99, grM100, grM101, grM102, grM103, grM104, grM105, grM106, grM107, grM108, grM109, grM110, grM111, grM112, grM113, grM114, grM115, grM116, grM117, grM118, grM119, grM120, grM121, grM122, grM123, grM124, grM125, grM126, grM127, grM128, grM129, grM130, grM131, grM132, grM133, grM134, grM135, grM136, grM137, grM138, grM139, grM140, grM141, grM142, grM143, grM144, grM145, grM146, grM147, grM148, grM149, grM150, grM151, grM152, grM153, grM154, grM155, grM156, grM157, grM158, grM159, grM160, grM161, grM162, grM163, grM164, grM165, grM166, grM167, grM168, grM169, grM170]
theorem grSt_ok : RowsC grC 79 grSt := ⟨grM0_ok, grM1_ok, grM2_ok, grM3_ok, grM4_ok, grM5_ok, grM6_ok, grM7_ok, grM8_ok, grM9_ok, grM10_ok, grM11_ok, grM12_ok, grM13_ok, grM14_ok, grM15_ok, grM16_ok, grM17_ok, grM18_ok, grM19_ok, grM20_ok, grM21_ok, grM22_ok, grM23_ok, grM24_ok, grM25_ok, grM26_ok, grM27_ok, grM28_ok, grM29_ok, grM30_ok, grM31_ok, grM32_ok, grM33_ok, grM34_ok, grM35_ok, grM36_ok, grM37_ok, grM38_ok, grM39_ok, grM40_ok, grM41_ok, grM42_ok, grM43_ok, grM44_ok, grM45_ok, grM46_ok, grM47_ok, grM48_ok, grM49_ok, grM50_ok, grM51_ok, grM52_ok, grM53_ok, grM54_ok, grM55_ok, grM56_ok, grM57_ok, grM58_ok, grM59_ok, grM60_ok, grM61_ok, grM62_ok, grM63_ok, grM64_ok, grM65_ok, grM66_ok, grM67_ok, grM68_ok, grM69_ok, grM70_ok, grM71_ok, grM72_ok, grM73_ok, grM74_ok, grM75_ok, grM76_ok, grM77_ok, grM78_ok, grM79_ok, grM80_ok, grM81_ok, grM82_ok, grM83_ok, grM84_ok, grM85_ok, grM86_ok, grM87_ok, grM88_ok, grM89_ok, grM90_ok, grM91_ok, grM92_ok, grM93_ok, grM94_ok, grM95_ok, grM96_ok, grM97_ok, grM98_ok, grM99_ok, grM100_ok, grM101_ok, grM102_ok, grM103_ok, grM104_ok, grM105_ok, grM106_ok, grM107_ok, grM108_ok, grM109_ok, grM110_ok, grM111_ok, grM112_ok, grM113_ok, grM114_ok, grM115_ok, grM116_ok, grM117_ok, grM118_ok, grM119_ok, grM120_ok, grM121_ok, grM122_ok, grM123_ok, grM124_ok, grM125_ok, grM126_ok, grM127_ok, grM128_ok, grM129_ok, grM130_ok, grM131_ok, grM132_ok, grM133_ok, grM134_ok, grM135_ok, grM136_ok, grM137_ok, grM138_ok, grM139_ok, grM140_ok, grM141_ok, grM142_ok, grM143_ok, grM144_ok, grM145_ok, grM146_ok, grM147_ok, grM148_ok, grM149_ok, grM150_ok, grM151_ok, grM152_ok, grM153_ok, grM154_ok, grM155_ok, grM156_ok, grM157_ok, grM158_ok, grM159_ok, grM160_ok, grM161_ok, grM162_ok, grM163_ok, grM164_ok, grM165_ok, grM166_ok, grM167_ok, grM168_ok, grM169_ok, grM170_ok, trivial⟩
noncomputable def grD : Con reg0.T := conAdd grC 79 (uMemoC grC 79 grSt)
theorem grD_ok : ConOk Tryz.prog grD := conAdd_ok grC_ok (aMemoC grC_ok (by kernel_rfl) grSt_ok rfl)
noncomputable def grC1 (l : List (Int × Int)) : Con reg0.T := conAdd grD 5 (uW l)
theorem grC1_ok (l : List (Int × Int)) : ConOk Tryz.prog (grC1 l) := conAdd_ok grD_ok (aW l)
def grKn : Memo reg0.T := ⟨[], [], .d (.bool true), []⟩
theorem grKn_ok : RowC grD 4 grKn := ⟨by kernel_rfl⟩
def grT : Tabs reg0.T := tabsOf [(4, [grKn])]
theorem grsKN : (match Tryz.prog.funcs[4]? with | some fn => !fn.body.isNone | none => false) = true := by kernel_rfl
theorem grT_ok : TabsOk Tryz.prog grT := tabs_cons grD_ok grsKN ⟨grKn_ok, trivial⟩ rfl tabs_nil
noncomputable def grH (l : List (Int × Int)) : Hd reg0.T := hdJ Tryz.prog (grC1 l) grT (fun _ => false) 1000 60 12
theorem grH_sound (l : List (Int × Int)) : HdSound Tryz.prog (grH l) := hdJ_sound mixed hno (grC1_ok _) grT_ok _ _ _ _
noncomputable def grYes (l : List (Int × Int)) (a b : V0) : Prop := runK Tryz.prog (grH l) 1000 3 [a, b]
structure grYesF (l : List (Int × Int)) (a b : V0) : Prop where
  go : grYes l a b
theorem grYesF.of {l : List (Int × Int)} {a b : V0} {p : Prop} (h : grYes l a b = p) (hp : p) : grYesF l a b := by
  refine ⟨?_⟩
  rw [h]
  exact hp
def grVc (m v a : Int) (p : Prop) : Prop := must (decide ((0 : Int) < m) && decide (wi a m = v)) p
theorem grVc_ok {m v a : Int} {p : Prop} (hm : 0 < m) (h : wi a m = v) (hp : p) : grVc m v a p := (must_iff _ _).2 ⟨by rw [h]; simp [hm], hp⟩
end Go.Proofs.YtgogidieibkimaaGreatDoor
