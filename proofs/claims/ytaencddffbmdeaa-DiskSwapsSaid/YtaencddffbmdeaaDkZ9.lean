/- DiskSwaps: for every input its function answers true, and all reads as it did. No conditions. -/
import Derived.Test.YtaencddffbmdeaaDkR
import Derived.Test.YtaencddffbmdeaaDkN9
namespace Go.Proofs.Ytaencddffbmdeaa
open Go Go.W Go.Proofs

theorem diskSwaps_lifted (os : Os) (started : os.Started) (H : Type) (enc : TypeId × Value → H) :
    ReturnsInHanded {} Try.checked os 9 .any (Rows.diskSwapsSpec.pre6 enc Try.prog Try.f9 [] false) (Rows.diskSwapsSpec.post enc Try.prog Try.f9 false true false false) := by
  have hp : Try.f9.params.toList = [46, 37] := by kernel_rfl
  refine law_row (C := Try.checked) (bt := 4) (reg := regK) ownD started laidOutD (by kernel_rfl) Try.func9 ?_ (by kernel_rfl) (by kernel_rfl) rfl ?_
    (ChangeSpec.witness6 (enc := enc) (C := Try.checked) false ⟨#[], #[.slice none 0 0, .slice none 0 0], []⟩ 8 (by kernel_rfl) (by kernel_rfl) (by kernel_rfl) (by kernel_rfl))
    5 ?_ totD mixed hd3_sound (fuel := 1000) ?_
  · rw [hp]
    exact of_decide_eq_true (by kernel_rfl)
  · intro ds hd
    have hd : ds.length = 2 := hd
    match ds, hd with
    | [d0, d1], _ => rfl
  · rw [hp]
    exact of_decide_eq_true (by kernel_rfl)
  · intro vs h
    rw [hp] at h
    obtain ⟨x0, r0, rfl, h0, x1, r1, rfl, h1, rfl⟩ := h
    obtain ⟨a0, e0⟩ := arg46 h0
    obtain ⟨a1, e1⟩ := arg37 h1
    rw [show Try.checked.prog = Try.prog from rfl, e0, e1]
    exact swaps_ok a0 a1

theorem diskSwaps : Rows.DiskSwapsSaid :=
  OpenClaim.holds_of_wide 9 Try.f9 rfl rfl rfl rfl rfl rfl rfl ⟨rfl, rfl, rfl, rfl, rfl⟩ rfl rfl rfl rfl rfl (by kernel_rfl) Try.func9 (by kernel_rfl) (of_decide_eq_true (by kernel_rfl))
    (by unfold Func.isWrapper; rw [if_neg (of_decide_eq_false (by kernel_rfl))]; exact ⟨rfl, rfl⟩) (fun os started H enc _ => diskSwaps_lifted os started H enc)
end Go.Proofs.Ytaencddffbmdeaa

