/- DiskStays: for every input its function answers true, and all reads as it did. No conditions. -/
import Derived.Test.YtaencddffbmdeaaDkR
import Derived.Test.YtaencddffbmdeaaDkN10
namespace Go.Proofs.Ytaencddffbmdeaa
open Go Go.W Go.Proofs

theorem diskStays_lifted (os : Os) (started : os.Started) (H : Type) (enc : TypeId × Value → H) :
    ReturnsInHanded {} Try.checked os 10 .any (Rows.diskStaysSpec.pre6 enc Try.prog Try.f10 [] false) (Rows.diskStaysSpec.post enc Try.prog Try.f10 false true false false) := by
  have hp : Try.f10.params.toList = [43, 46, 37, 43, 3] := by kernel_rfl
  refine law_row (C := Try.checked) (bt := 4) (reg := regK) ownD started laidOutD (by kernel_rfl) Try.func10 ?_ (by kernel_rfl) (by kernel_rfl) rfl ?_
    (ChangeSpec.witness6 (enc := enc) (C := Try.checked) false ⟨#[], #[.slice none 0 0, .slice none 0 0, .slice none 0 0, .slice none 0 0, .int .i64 0], []⟩ 8 (by kernel_rfl) (by kernel_rfl) (by kernel_rfl) (by kernel_rfl))
    5 ?_ totD mixed hd3_sound (fuel := 1000) ?_
  · rw [hp]
    exact of_decide_eq_true (by kernel_rfl)
  · intro ds hd
    have hd : ds.length = 5 := hd
    match ds, hd with
    | [d0, d1, d2, d3, d4], _ => rfl
  · rw [hp]
    exact of_decide_eq_true (by kernel_rfl)
  · intro vs h
    rw [hp] at h
    obtain ⟨x0, r0, rfl, h0, x1, r1, rfl, h1, x2, r2, rfl, h2, x3, r3, rfl, h3, x4, r4, rfl, h4, rfl⟩ := h
    obtain ⟨a0, e0⟩ := arg43 h0
    obtain ⟨a1, e1⟩ := arg46 h1
    obtain ⟨a2, e2⟩ := arg37 h2
    obtain ⟨a3, e3⟩ := arg43 h3
    obtain ⟨a4, e4⟩ := arg3 h4
    rw [show Try.checked.prog = Try.prog from rfl, e0, e1, e2, e3, e4]
    exact stays_ok a0 a1 a2 a3 a4

theorem diskStays : Rows.DiskStaysSaid :=
  OpenClaim.holds_of_wide 10 Try.f10 rfl rfl rfl rfl rfl rfl rfl ⟨rfl, rfl, rfl, rfl, rfl⟩ rfl rfl rfl rfl rfl (by kernel_rfl) Try.func10 (by kernel_rfl) (of_decide_eq_true (by kernel_rfl))
    (by unfold Func.isWrapper; rw [if_neg (of_decide_eq_false (by kernel_rfl))]; exact ⟨rfl, rfl⟩) (fun os started H enc _ => diskStays_lifted os started H enc)
end Go.Proofs.Ytaencddffbmdeaa

