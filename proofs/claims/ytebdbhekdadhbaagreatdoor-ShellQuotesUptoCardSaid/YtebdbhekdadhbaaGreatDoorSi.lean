/- Words and quotes: the statements' own loops. No conditions. -/
import Derived.Test.YtebdbhekdadhbaaGreatDoorSh
import Derived.Test.YtebdbhekdadhbaaGreatDoorSk
namespace Go.Proofs.YtebdbhekdadhbaaGreatDoor
open Go Go.W
set_option maxRecDepth 100000
def KL : Con regK.T := fun f => lookN [(5, SN.con MN), (6, (SB sm sW).con (MB sm sW)), (7, (SB sm sW).con (MB sm sW)), (8, (SD smq sU).con (MD smq sU)), (9, (SD smq sU).con (MD smq sU))] f
theorem KL_ok : ConOk Tryz.prog KL := con_cons aN (con_cons aW (con_cons aV (con_cons aU (con_cons aX con_nil))))
noncomputable def eL : Hd regK.T := hdT regK Tryz.prog KL (fun _ => false) 1000 5
theorem eL_sound : HdSound Tryz.prog eL := hdT_sound mixed hno KL_ok _ _ _
def YesD (A : Nat → List Tgt) (L : Nat → Nat → St regK.T → Option (LoopI regK.T Nat)) (fn : Func) (vs : List VK) : Prop := awpFun regK Tryz.prog eL 1000 A L noJ 0 fn vs fun r => yes r.1
structure YesS (A : Nat → List Tgt) (L : Nat → Nat → St regK.T → Option (LoopI regK.T Nat)) (fn : Func) (vs : List VK) : Prop where
  go : YesD A L fn vs
/-! ### Words -/
def wordsL (s : B) : List B := (lineM s).getD []
def LL3 (s : B) (b : List Int) (_ : Nat) (k : Nat) (st : St regK.T) : Option (LoopI regK.T Nat) := match Nat.beq k 8 with
  | true => (match st.env.get 5 with
    | some (.d .nils) => none
    | _ => some ⟨{ i : Nat // i ≤ (wordsL s).length }, fun i => ⟨[(1, .d (.sl 5 b)), (5, .d (.sl 9 (wordsL s))), (7, .d (.sl 9 (wordsL s))), (9, ki (i.1 : Nat))], [], 0⟩, fun i => (wordsL s).length - i.1, fun _ => 0⟩)
  | false => none
def AA3 (k : Nat) : List Tgt := (lookN [(12, [.fslot 10])] k).getD []
/-! ### Quotes -/
def txt (l : List (List Int)) (i : Nat) : B := wordsT ((l.take i).map dn)
def firstW (l : List (List Int)) (n : Nat) : List B := (l.take n).map dn
def LL4 (l : List (List Int)) (t : B) (_ : Nat) (k : Nat) (_ : St regK.T) : Option (LoopI regK.T Nat) := match Nat.beq k 6 with
  | true => some ⟨{ i : Nat // i ≤ l.length ∧ (txt l i).length ≤ 6000000 }, fun i => ⟨[(0, .d (.sl 22 l)), (1, ks t), (5, ks (txt l i.1)), (6, ki (i.1 : Nat)), (7, ki (i.1 : Nat))], [], 0⟩, fun i => l.length - i.1, fun _ => 0⟩
  | false => match Nat.beq k 14 with
    | true => some ⟨{ x : Nat × Nat // x.1 ≤ l.length ∧ x.2 ≤ x.1 }, fun x => ⟨[(0, .d (.sl 22 l)), (6, ki (x.1.1 : Nat)), (8, .d (.sl 9 (firstW l x.1.1))), (10, ki (x.1.2 : Nat))], [], 0⟩, fun x => x.1.1 - x.1.2, fun _ => 0⟩
    | false => none
end Go.Proofs.YtebdbhekdadhbaaGreatDoor
