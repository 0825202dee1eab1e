/- Contracts of the Conf seat: the known rows are parsed; a number brought into a class. No conditions. -/
import Derived.Test.YtaonjbojhikndaaDoorCf
namespace Go.Proofs.YtaonjbojhikndaaDoor
open Go Go.W Go.Proofs
set_option maxRecDepth 100000

theorem v15 (a n : Int) : MeetsE 15 SW (a, n) = (
  branch (!decide (n = (0 : Int)))
  (branch (decide (a.tmod n < (0 : Int))) (wi a n = IntKind.i64.wrap (a.tmod n + n) ∧ True) (wi a n = a.tmod n ∧ True))
  False) := by kernel_rfl
theorem v11 (a : Unit) : MeetsE 11 SKn a = (true = true ∧ True) := by kernel_rfl

structure MeetsF (f : Nat) (S : Go.W.Spec reg0.T) (a : S.α) : Prop where
  go : MeetsE f S a
theorem m11 (a : Unit) : MeetsF 11 SKn a := by
  refine MeetsF.mk ?_
  rw [v11]
  exact ⟨rfl, trivial⟩

theorem k15 : SpecOk Tryd.prog 15 SW := specOk_of_ex mixed hd1_sound hno (there 15 (by kernel_rfl)) (by
  rintro ⟨a, n⟩ h
  have h : 0 < n := by simpa [SW] using h
  have h' : ¬ n = 0 := by omega
  show MeetsE 15 SW (a, n)
  rw [v15]
  simp only [branch_iff, wi]
  by_cases h2 : a.tmod n < 0 <;> simp [h2, h'])
theorem spec_ex {f : Nat} {S : Go.W.Spec reg0.T} (ht : (match Tryd.prog.funcs[f]? with | some fn => !fn.body.isNone | none => false) = true) (h : ∀ a, S.pre a = true → MeetsF f S a) : SpecOk Tryd.prog f S := specOk_of_ex mixed hd1_sound hno (there f ht) (fun a ha => (h a ha).go)
theorem k11 : SpecOk Tryd.prog 11 SKn := spec_ex (by kernel_rfl) (fun a _ => m11 a)

theorem cov_i (ρ : List (Nat × Nat)) (n : Int) : covV ρ (vi n) (vi n) := (must_iff _ _).2 ⟨rfl, rfl⟩
def MW : Meet SW where
  find args _ := match args with | [.d (.int .i64 a), .d (.int .i64 b)] => some ((a, b), []) | _ => none
  ok args g a ρ h := by
    split at h
    · cases h
      exact ⟨⟨cov_i _ _, cov_i _ _, trivial⟩, rfl, fun j o' hj => by simp [SW] at hj⟩
    · cases h
def MK : Meet SKn where
  find args _ := match args with | [] => some ((), []) | _ => none
  ok args g a ρ h := by
    split at h
    · cases h; exact ⟨trivial, rfl, fun j o' hj => by simp [SKn] at hj⟩
    · cases h
/-- The number's class, where it is known. -/
def t15 (v : Int) : T0 := fun args h => match args with | [.d (.int .i64 a), .d (.int .i64 b)] => .need (decide (0 < b) && decide (wi a b = v)) (Out.ask (Tr.ok h.nx) (.ret (vi v, ⟨h.h, h.nx, h.wr⟩))) | _ => .bad
theorem t15_ok (v : Int) : RowOk 15 (t15 v) := by
  intro args h Q hq
  unfold t15 at hq
  split at hq
  · rename_i a b
    obtain ⟨hb, hq⟩ := Out.K_need.1 hq
    obtain ⟨hk, hq⟩ := Out.K_ask.1 hq
    simp only [Bool.and_eq_true, decide_eq_true_eq] at hb
    obtain ⟨h1, rfl⟩ := hb
    refine Spec.con_ok k15 MW (fun _ => Nat.le_of_ble_eq_true rfl) _ h Q ?_
    exact (must_iff _ _).2 ⟨decide_eq_true h1, Out.K_ask.2 ⟨by rw [Bool.and_eq_true]; exact ⟨rfl, hk⟩, hq⟩⟩
  · exact hq.elim

def C2 (v : Int) : Con reg0.T := fun f => lookN [(79, t79), (50, t50), (15, t15 v), (11, SKn.con MK)] f
theorem C2_ok (v : Int) : ConOk Tryd.prog (C2 v) := conOk_cons k79 (conOk_cons k50 (conOk_cons (t15_ok v) (conOk_cons (Spec.con_ok k11 MK (fun _ => Nat.le_of_ble_eq_true rfl)) conOk_nil)))
noncomputable def hd2 (v : Int) : Hd reg0.T := hdT reg0 Tryd.prog (C2 v) (fun _ => false) 1000 12
theorem hd2_sound (v : Int) : HdSound Tryd.prog (hd2 v) := hdT_sound mixed hno (C2_ok v) _ _ _
/-- A function's answer is yes. -/
def Yes (v : Int) (fn : Func) (args : List V0) : Prop := awpFun reg0 Tryd.prog (hd2 v) 1000 (fun _ => []) (fun (_ : Unit) _ _ => none) (fun _ _ => none) () fn args (fun r => yes r.1)
end Go.Proofs.YtaonjbojhikndaaDoor
