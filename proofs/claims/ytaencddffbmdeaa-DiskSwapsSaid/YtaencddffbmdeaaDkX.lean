/- All of disk's contracts. No conditions. -/
import Derived.Test.YtaencddffbmdeaaDkW
namespace Go.Proofs.Ytaencddffbmdeaa
open Go Go.W Go.Proofs

theorem ok20 (a : Unit) : Meets hd2 20 SK a := by
  refine Meets.mk ?_
  rw [v20]; simp
theorem ok21 (a n : Int) (h : decide (0 < n) = true) : Meets hd2 21 SW (a, n) := by
  refine Meets.mk ?_
  rw [v21]
  have h : 0 < n := by simpa using h
  have h' : ¬ n = 0 := by omega
  simp only [branch_iff, wi]
  by_cases h2 : a.tmod n < 0 <;> simp [h2, h']
theorem ok22 (n : Int) : Meets hd2 22 (SN s22) n := by
  refine Meets.mk ?_
  rw [v22]
  simp only [branch_iff, inR]
  by_cases h2 : n < 1 <;> by_cases h3 : n > 16777216 <;> simp [h2, h3, nilB, nilpD] <;> omega
theorem ok32 (n : Int) : Meets hd2 32 (SN s32) n := by
  refine Meets.mk ?_
  rw [v32]
  simp only [branch_iff, inR]
  by_cases h2 : n < 1 <;> by_cases h3 : n > 16777216 <;> simp [h2, h3, nilB, nilpD] <;> omega

def C3 : Con regK.T := fun f => lookN [(20, SK.con MK), (21, SW.con MW), (22, (SN s22).con (MN s22)), (32, (SN s32).con (MN s32)),
   (23, Con.or isLive ((S3 pD s23l).con (M3 pD s23l)) ((S2 pD s23).con (M2 pD s23))),
   (24, Con.or isLive ((S3 pD s24l).con (M3 pD s24l)) ((S2 pD s24).con (M2 pD s24))),
   (25, (S0 DSt.fine s25).con (M0 DSt.fine s25)),
   (26, (S0 DSt.fine s26).con (M0 DSt.fine s26)),
   (27, (S1 tt s27).con (M1 tt s27)),
   (28, (S1 DSt.fine s28).con (M1 DSt.fine s28)),
   (29, (S0 DSt.fine s29).con (M0 DSt.fine s29)),
   (33, (R2 pR s33).con (N2 pR s33)),
   (34, (R0 RSt.fine s34).con (N0 RSt.fine s34)),
   (35, (R1 tt s35).con (N1 tt s35)),
   (36, (R1 RSt.fine s36).con (N1 RSt.fine s36)),
   (37, (R2 pR s37).con (N2 pR s37))] f
theorem k20 : SpecOk Try.prog 20 SK := spec_of (n := 5) C2_ok (by kernel_rfl) (by rintro a h; exact ok20 a)
theorem k21 : SpecOk Try.prog 21 SW := spec_of (n := 5) C2_ok (by kernel_rfl) (by rintro ⟨a, n⟩ h; exact ok21 a n h)
theorem k22 : SpecOk Try.prog 22 (SN s22) := spec_of (n := 5) C2_ok (by kernel_rfl) (by rintro a h; exact ok22 a)
theorem k32 : SpecOk Try.prog 32 (SN s32) := spec_of (n := 5) C2_ok (by kernel_rfl) (by rintro a h; exact ok32 a)
theorem C3_ok : ConOk Try.prog C3 :=
  conOk_cons (Spec.con_ok k20 _ (fun _ => Nat.le_of_ble_eq_true rfl)) <|
  conOk_cons (Spec.con_ok k21 _ (fun _ => Nat.le_of_ble_eq_true rfl)) <|
  conOk_cons (Spec.con_ok k22 _ (fun _ => Nat.le_of_ble_eq_true rfl)) <|
  conOk_cons (Spec.con_ok k32 _ (fun _ => Nat.le_of_ble_eq_true rfl)) C2_ok
noncomputable def hd3 : Hd regK.T := hdT regK Try.prog C3 (fun _ => false) 1000 5
theorem hd3_sound : HdSound Try.prog hd3 := hdT_sound mixed hno C3_ok _ _ _

theorem wi_bd (a n : Int) (h : 0 < n) (h' : n ≤ 9223372036854775807) : 0 ≤ wi a n ∧ wi a n < n := by
  unfold wi
  have a1 : a.tmod n < n := Int.tmod_lt_of_pos a h
  have a2 : -n < a.tmod n := Int.lt_tmod_of_pos a h
  by_cases h2 : a.tmod n < 0
  · simp only [h2, decide_true, cond_true, w64]
    rw [wrap_id (by omega) (by omega)]; omega
  · simp only [h2, decide_false, cond_false]; omega
end Go.Proofs.Ytaencddffbmdeaa
