/- The table of disk's contracts, and that it holds. No conditions. -/
import Derived.Test.YtaencddffbmdeaaDkP
import Derived.Test.YtaencddffbmdeaaWB
namespace Go.Proofs.Ytaencddffbmdeaa
open Go Go.W Go.Proofs

def C2 : Con regK.T := fun f => lookN
  [(23, Con.or isLive ((S3 pD s23l).con (M3 pD s23l)) ((S2 pD s23).con (M2 pD s23))),
   (24, Con.or isLive ((S3 pD s24l).con (M3 pD s24l)) ((S2 pD s24).con (M2 pD s24))),
   (25, (S0 DSt.fine s25).con (M0 DSt.fine s25)),
   (26, (S0 DSt.fine s26).con (M0 DSt.fine s26)),
   (27, (S1 tt s27).con (M1 tt s27)),
   (28, (S1 DSt.fine s28).con (M1 DSt.fine s28)),
   (29, (S0 DSt.fine s29).con (M0 DSt.fine s29)),
   (33, (R2 pR s33).con (N2 pR s33)),
   (34, (R0 RSt.fine s34).con (N0 RSt.fine s34)),
   (35, (R1 tt s35).con (N1 tt s35)),
   (36, (R1 RSt.fine s36).con (N1 RSt.fine s36)),
   (37, (R2 pR s37).con (N2 pR s37))] f

theorem C1r_ok : ConOk Try.prog C1r := conOk_cons (Spec.con_ok k40 _ (fun _ => Nat.le_of_ble_eq_true rfl)) conOk_nil

theorem k23 : SpecOk Try.prog 23 (S2 pD s23) := spec_of (n := 1) C1_ok (by kernel_rfl) (by rintro ⟨d, n⟩ h; exact ok23 d n h)
theorem k23l : SpecOk Try.prog 23 (S3 pD s23l) := spec_of (n := 1) C1_ok (by kernel_rfl) (fun a h => ok23l a h)
theorem k24 : SpecOk Try.prog 24 (S2 pD s24) := spec_of (n := 1) C1_ok (by kernel_rfl) (by rintro ⟨d, n⟩ h; exact ok24 d n h)
theorem k24l : SpecOk Try.prog 24 (S3 pD s24l) := spec_of (n := 1) C1_ok (by kernel_rfl) (fun a h => ok24l a h)
theorem k25 : SpecOk Try.prog 25 (S0 DSt.fine s25) := spec_of (n := 1) C1_ok (by kernel_rfl) (fun a h => ok25 a h)
theorem k26 : SpecOk Try.prog 26 (S0 DSt.fine s26) := spec_of (n := 1) C1_ok (by kernel_rfl) (fun a h => ok26 a h)
theorem k27 : SpecOk Try.prog 27 (S1 tt s27) := spec_of (n := 1) C1_ok (by kernel_rfl) (by rintro ⟨d, n⟩ h; exact ok27 d n)
theorem k28 : SpecOk Try.prog 28 (S1 DSt.fine s28) := spec_of (n := 1) C1_ok (by kernel_rfl) (by rintro ⟨d, n⟩ h; exact ok28 d n h)
theorem k29 : SpecOk Try.prog 29 (S0 DSt.fine s29) := spec_of (n := 1) C1_ok (by kernel_rfl) (fun a h => ok29 a h)
theorem k33 : SpecOk Try.prog 33 (R2 pR s33) := spec_of (n := 1) C1r_ok (by kernel_rfl) (by rintro ⟨d, n⟩ h; exact ok33 d n h)
theorem k34 : SpecOk Try.prog 34 (R0 RSt.fine s34) := spec_of (n := 1) C1_ok (by kernel_rfl) (fun a h => ok34 a h)
theorem k35 : SpecOk Try.prog 35 (R1 tt s35) := spec_of (n := 1) C1_ok (by kernel_rfl) (by rintro ⟨d, n⟩ h; exact ok35 d n)
theorem k36 : SpecOk Try.prog 36 (R1 RSt.fine s36) := spec_of (n := 1) C1_ok (by kernel_rfl) (by rintro ⟨d, n⟩ h; exact ok36 d n h)
theorem k37 : SpecOk Try.prog 37 (R2 pR s37) := spec_of (n := 1) C1r_ok (by kernel_rfl) (by rintro ⟨d, n⟩ h; exact ok37 d n h)

theorem C2_ok : ConOk Try.prog C2 :=
  conOk_cons (RowOk.or (Spec.con_ok k23l _ (fun _ => Nat.le_of_ble_eq_true rfl)) (Spec.con_ok k23 _ (fun _ => Nat.le_of_ble_eq_true rfl))) <|
  conOk_cons (RowOk.or (Spec.con_ok k24l _ (fun _ => Nat.le_of_ble_eq_true rfl)) (Spec.con_ok k24 _ (fun _ => Nat.le_of_ble_eq_true rfl))) <|
  conOk_cons (Spec.con_ok k25 _ (fun _ => Nat.le_of_ble_eq_true rfl)) <|
  conOk_cons (Spec.con_ok k26 _ (fun _ => Nat.le_of_ble_eq_true rfl)) <|
  conOk_cons (Spec.con_ok k27 _ (fun _ => Nat.le_of_ble_eq_true rfl)) <|
  conOk_cons (Spec.con_ok k28 _ (fun _ => Nat.le_of_ble_eq_true rfl)) <|
  conOk_cons (Spec.con_ok k29 _ (fun _ => Nat.le_of_ble_eq_true rfl)) <|
  conOk_cons (Spec.con_ok k33 _ (fun _ => Nat.le_of_ble_eq_true rfl)) <|
  conOk_cons (Spec.con_ok k34 _ (fun _ => Nat.le_of_ble_eq_true rfl)) <|
  conOk_cons (Spec.con_ok k35 _ (fun _ => Nat.le_of_ble_eq_true rfl)) <|
  conOk_cons (Spec.con_ok k36 _ (fun _ => Nat.le_of_ble_eq_true rfl)) <|
  conOk_cons (Spec.con_ok k37 _ (fun _ => Nat.le_of_ble_eq_true rfl)) conOk_nil

noncomputable def hd2 : Hd regK.T := hdT regK Try.prog C2 (fun _ => false) 1000 5
theorem hd2_sound : HdSound Try.prog hd2 := hdT_sound mixed hno C2_ok _ _ _

/-! ### Numbers that the laws reckon -/
def wi (a n : Int) : Int := bif decide (a.tmod n < 0) then w64 (a.tmod n + n) else a.tmod n

/-- No arguments. -/
def SK : Go.W.Spec regK.T := ⟨Unit, fun _ => [], fun _ => [], tt, fun _ => .ret (vb true, [])⟩
def MK : Meet SK where
  find args _ := match args with | [] => some ((), []) | _ => none
  ok args g a ρ h := by
    split at h
    · cases h; exact ⟨trivial, rfl, fun j o' hj => by simp [SK] at hj⟩
    · cases h
def SW : Go.W.Spec regK.T := ⟨Int × Int, fun a => [vi a.1, vi a.2], fun _ => [], fun a => decide (0 < a.2), fun a => .ret (vi (wi a.1 a.2), [])⟩
def MW : Meet SW where
  find args _ := match args with | [x, y] => (iV x).bind fun a => (iV y).bind fun b => some ((a, b), []) | _ => none
  ok args g a ρ h := by
    split at h
    · simp only [Option.bind_eq_some_iff] at h
      obtain ⟨_, h1, _, h2, h⟩ := h
      cases h
      rw [iV_eq h1, iV_eq h2]
      exact ⟨⟨cov_i _ _, cov_i _ _, trivial⟩, rfl, fun j o' hj => by simp [SW] at hj⟩
    · cases h
/-- A number. -/
def SN (out : Int → QO) : Go.W.Spec regK.T := ⟨Int, fun a => [vi a], fun _ => [], tt, out⟩
def MN (out : Int → QO) : Meet (SN out) where
  find args _ := match args with | [x] => (iV x).bind fun a => some (a, []) | _ => none
  ok args g a ρ h := by
    split at h
    · simp only [Option.bind_eq_some_iff] at h
      obtain ⟨_, h1, h⟩ := h
      cases h
      rw [iV_eq h1]
      exact ⟨⟨cov_i _ _, trivial⟩, rfl, fun j o' hj => by simp [SN] at hj⟩
    · cases h
def newD (n : Int) : DSt := ⟨0, 0, 0, false, [], 0, [], n⟩
def newR (n : Int) : RSt := ⟨n, [], 0, [], 0, false, false, 0⟩
def inR (n : Int) : Bool := decide (1 ≤ n) && decide (n ≤ 16777216)
def s22 : Int → QO := fun n => .br (inR n) (.ret (.tup [.ptr 0 0 0, vi 0], [some (newD n).o])) (.ret (.tup [.d .nilp, vi 1], []))
def s32 : Int → QO := fun n => .br (inR n) (.ret (.tup [.ptr 0 0 0, vi 0], [some (newR n).o])) (.ret (.tup [.d .nilp, vi 1], []))
end Go.Proofs.Ytaencddffbmdeaa
