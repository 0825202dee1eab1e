/- ConfParses: forms. No conditions. -/
import Derived.Test.YtaonjbojhikndaaDoorHh
namespace Go.Proofs.YtaonjbojhikndaaDoor
open Go Go.W
set_option maxRecDepth 100000
def K30 : Con regK.T := fun f => lookN [(11, S11.con M11), (12, S12.con M12), (13, S13.con M13), (14, S14.con M14), (15, S15.con M15), (16, S16.con M16), (17, S17.con (MB sm _)), (18, (SB sm s17).con (MB sm s17)), (19, S19.con M19)] f
noncomputable def e30 : Hd regK.T := hdT regK Tryd.prog K30 (fun _ => false) 1000 5
structure A3 where
  s : B
  r : AR
  cut : Int
  ns : List Int
structure R7 where
  w : B
  k : Nat
structure R9 where
  i : Nat
  xs : List B
structure P9 (x : R9) : Prop where
  i : x.i ≤ 7
  n : x.xs.length = 7
  sm : ∀ t ∈ x.xs, sm t = true
def L3 (_ : Nat) (k : Nat) (_ : St regK.T) : Option (LoopI regK.T Nat) := match Nat.beq k 9 with
  | true => some ⟨{ x : R9 // P9 x }, fun x => ⟨[(11, .sl 0 0 7 (.least 0)), (12, ki (x.1.i : Nat))], [(0, .trows 9 x.1.xs)], 1⟩, fun x => 7 - x.1.i, fun _ => 0⟩
  | false => none
def J3 (a : A3) (_ : Nat) (k : Nat) : Option (LoopI regK.T Nat) := match Nat.beq k 7 with
  | true => some ⟨{ x : R7 // x.k ≤ x.w.length ∧ x.w.length ≤ 100000 ∧ a.s.length ≤ 2500 }, fun x => ⟨[(0, ks a.s), (3, .d (.sl 3 a.ns)), (9, ks x.1.w), (10, ki (x.1.k : Nat))], [], 0⟩, fun _ => 0, fun _ => 0⟩
  | false => none
def YesP (a : A3) : Prop := awpFun regK Tryd.prog e30 1000 (fun _ => []) L3 (J3 a) (0 : Nat) Tryd.f3 [ks a.s, .agg [ki a.r.l, .d (.sl 58 a.r.qs)], ki a.cut, .d (.sl 3 a.ns)] (fun r => yes r.1)
end Go.Proofs.YtaonjbojhikndaaDoor
