/- Conf's library: numbers. No conditions. -/
import Derived.Test.YtaonjbojhikndaaDoorFb
namespace Go.Proofs.YtaonjbojhikndaaDoor
open Go Go.W
set_option maxRecDepth 100000

def isD (b : UInt8) : Bool := digI (b.toNat : Int)
def dropL : B → B
  | [] => []
  | b :: l => bif isD b then dropL l else b :: l
def dropR (s : B) : B := (dropL s.reverse).reverse
def digRow : List VK := (List.range 256).map fun (i : Nat) => kb (digI (i : Int))
def digO : OK := .rows 256 [digRow]
theorem digRow_ok : isDigRow digRow 0 = true := by kernel_rfl
theorem digRow_same {l : List VK} (h : isDigRow l 0 = true) : l = digRow := by
  obtain ⟨h1, h2⟩ := isDigRow_get h
  obtain ⟨h3, h4⟩ := isDigRow_get digRow_ok
  apply List.ext_getElem (by omega)
  intro i hi hj
  have e1 := h2 i hi
  have e2 := h4 i hj
  rw [← e2] at e1
  simpa [List.getD, hi, hj] using e1
/-- A text, and the set. -/
def readT (args : List VK) (g : Nat → Option OK) : Option (B × Nat) := match args with
  | [.d (.str s), .ptr i r o] => (match Nat.beq r 0 && Nat.beq o 0, g i with
    | true, some (.rows k [row]) => (match Nat.beq k 256 && isDigRow row 0 with | true => some (s, i) | false => none)
    | _, _ => none)
  | _ => none
theorem readT_ok {args : List VK} {g : Nat → Option OK} {s : B} {i : Nat} (h : readT args g = some (s, i)) : args = [ks s, .ptr i 0 0] ∧ g i = some digO := by
  unfold readT at h
  split at h
  · rename_i s' i' r o
    split at h
    · rename_i k row hro hg
      split at h
      · rename_i hk
        simp only [Bool.and_eq_true] at hro hk
        have h1 := Nat.eq_of_beq_eq_true hro.1
        have h2 := Nat.eq_of_beq_eq_true hro.2
        have h3 := Nat.eq_of_beq_eq_true hk.1
        have h4 := digRow_same hk.2
        cases h
        subst h1 h2 h3 h4
        exact ⟨rfl, hg⟩
      · cases h
    · cases h
  · cases h
theorem cov_kb (ρ : List (Nat × Nat)) : ∀ l : List Bool, covV.goL (T := regK.T) ρ (l.map kb) (l.map kb)
  | [] => trivial
  | _ :: l => ⟨rfl, cov_kb ρ l⟩
theorem cov_dig (ρ : List (Nat × Nat)) : covO ρ digO digO := by
  refine (must_iff _ _).2 ⟨rfl, ?_, trivial⟩
  have : digRow = ((List.range 256).map fun i => digI ((i : Nat) : Int)).map kb := by simp [digRow]
  rw [this]
  exact cov_kb ρ _
def S71 : Go.W.Spec regK.T := ⟨B, fun s => [ks s, .ptr 0 0 0], fun _ => [digO], fun s => small s.length, fun s => .ret (ks (dropL s), [none])⟩
def S72 : Go.W.Spec regK.T := ⟨B, fun s => [ks s, .ptr 0 0 0], fun _ => [digO], fun s => small s.length, fun s => .ret (ks (dropR s), [some digO])⟩
theorem meet_T {args : List VK} {g : Nat → Option OK} {s : B} {i : Nat} (h : readT args g = some (s, i)) :
    covV.goL (at0 0 [i]) [ks s, .ptr 0 0 0] args ∧ [i].length = 1 ∧ ∀ (j : Nat) (o' : OK), ([digO] : List OK)[j]? = some o' → ∃ (k : Nat) (u : OK), ([i] : List Nat)[j]? = some k ∧ g k = some u ∧ covO (at0 0 [i]) o' u := by
  obtain ⟨rfl, hg⟩ := readT_ok h
  refine ⟨⟨cov_s _ _, (must_iff _ _).2 ⟨Nat.beq_refl i, rfl, rfl⟩, trivial⟩, rfl, fun j o' hj => ?_⟩
  cases j with
  | zero => simp only [List.getElem?_cons_zero, Option.some.injEq] at hj; subst hj; exact ⟨i, _, rfl, hg, cov_dig _⟩
  | succ j => simp at hj
def M71 : Meet S71 where
  find args g := match readT args g with | some (s, i) => some (s, [i]) | none => none
  ok args g a ρ h := by
    split at h
    · rename_i s i hr
      cases h
      exact meet_T hr
    · cases h
def M72 : Meet S72 where
  find args g := match readT args g with | some (s, i) => some (s, [i]) | none => none
  ok args g a ρ h := by
    split at h
    · rename_i s i hr
      cases h
      exact meet_T hr
    · cases h
def L71 (s : B) (_ : Unit) (k : Nat) (_ : St regK.T) : Option (LoopI regK.T Unit) := match Nat.beq k 1 with
  | true => some ⟨{ r : B // dropL r = dropL s ∧ r.length ≤ s.length }, fun r => ⟨[(0, ks r.1), (1, .ptr 0 0 0)], [(0, digO)], 1⟩, fun r => r.1.length, fun _ => ()⟩
  | false => none
def L72 (s : B) (_ : Unit) (k : Nat) (_ : St regK.T) : Option (LoopI regK.T Unit) := match Nat.beq k 1 with
  | true => some ⟨{ r : B // dropR r = dropR s ∧ r.length ≤ s.length }, fun r => ⟨[(0, ks r.1), (1, .ptr 0 0 0)], [(0, digO)], 1⟩, fun r => r.1.length, fun _ => ()⟩
  | false => none
end Go.Proofs.YtaonjbojhikndaaDoor

namespace Go.Proofs.YtaonjbojhikndaaDoor
open Go Go.W Go.Proofs
set_option maxRecDepth 100000
theorem v71 (s : B) : (OwesDN e3 (71 : Nat) S71 (fun (_ : Nat) => []) (L71 s) noJ () s) = ( (∃ (x : { r : B // dropL r = dropL s ∧ List.length r ≤ List.length s }), (x.val = s ∧ ((0 : Nat) = (0 : Nat) ∧ (0 : Nat) = (0 : Nat)) ∧ True) ∧ ((false = false ∧ false = false ∧ false = false ∧ false = false ∧ false = false ∧ false = false ∧ false = false ∧ false = false ∧ false = false ∧ false = false ∧ false = false ∧ false = false ∧ false = false ∧ false = false ∧ false = false ∧ false = false ∧ false = false ∧ false = false ∧ false = false ∧ false = false ∧ false = false ∧ false = false ∧ false = false ∧ false = false ∧ false = false ∧ false = false ∧ false = false ∧ false = false ∧ false = false ∧ false = false ∧ false = false ∧ false = false ∧ false = false ∧ false = false ∧ false = false ∧ false = false ∧ false = false ∧ false = false ∧ false = false ∧ false = false ∧ false = false ∧ false = false ∧ false = false ∧ false = false ∧ false = false ∧ false = false ∧ false = false ∧ false = false ∧ true = true ∧ true = true ∧ true = true ∧ true = true ∧ true = true ∧ true = true ∧ true = true ∧ true = true ∧ true = true ∧ true = true ∧ false = false ∧ false = false ∧ false = false ∧ false = false ∧ false = false ∧ false = false ∧ false = false ∧ false = false ∧ false = false ∧ false = false ∧ false = false ∧ false = false ∧ false = false ∧ false = false ∧ false = false ∧ false = false ∧ false = false ∧ false = false ∧ false = false ∧ false = false ∧ false = false ∧ false = false ∧ false = false ∧ false = false ∧ false = false ∧ false = false ∧ false = false ∧ false = false ∧ false = false ∧ false = false ∧ false = false ∧ false = false ∧ false = false ∧ false = false ∧ false = false ∧ false = false ∧ false = false ∧ false = false ∧ false = false ∧ false = false ∧ false = false ∧ false = false ∧ false = false ∧ false = false ∧ false = false ∧ false = false ∧ false = false ∧ false = false ∧ false = false ∧ false = false ∧ false = false ∧ false = false ∧ false = false ∧ false = false ∧ false = false ∧ false = false ∧ false = false ∧ false = false ∧ false = false ∧ false = false ∧ false = false ∧ false = false ∧ false = false ∧ false = false ∧ false = false ∧ false = false ∧ false = false ∧ false = false ∧ false = false ∧ false = false ∧ false = false ∧ false = false ∧ false = false ∧ false = false ∧ false = false ∧ false = false ∧ false = false ∧ false = false ∧ false = false ∧ false = false ∧ false = false ∧ false = false ∧ false = false ∧ false = false ∧ false = false ∧ false = false ∧ false = false ∧ false = false ∧ false = false ∧ false = false ∧ false = false ∧ false = false ∧ false = false ∧ false = false ∧ false = false ∧ false = false ∧ false = false ∧ false = false ∧ false = false ∧ false = false ∧ false = false ∧ false = false ∧ false = false ∧ false = false ∧ false = false ∧ false = false ∧ false = false ∧ false = false ∧ false = false ∧ false = false ∧ false = false ∧ false = false ∧ false = false ∧ false = false ∧ false = false ∧ false = false
 ∧ false = false ∧ false = false ∧ false = false ∧ false = false ∧ false = false ∧ false = false ∧ false = false ∧ false = false ∧ false = false ∧ false = false ∧ false = false ∧ false = false ∧ false = false ∧ false = false ∧ false = false ∧ false = false ∧ false = false ∧ false = false ∧ false = false ∧ false = false ∧ false = false ∧ false = false ∧ false = false ∧ false = false ∧ false = false ∧ false = false ∧ false = false ∧ false = false ∧ false = false ∧ false = false ∧ false = false ∧ false = false ∧ false = false ∧ false = false ∧ false = false ∧ false = false ∧ false = false ∧ false = false ∧ false = false ∧ false = false ∧ false = false ∧ false = false ∧ false = false ∧ false = false ∧ false = false ∧ false = false ∧ false = false ∧ false = false ∧ false = false ∧ false = false ∧ false = false ∧ false = false ∧ false = false ∧ false = false ∧ false = false ∧ false = false ∧ false = false ∧ false = false ∧ false = false ∧ false = false ∧ false = false ∧ false = false ∧ false = false ∧ false = false ∧ false = false ∧ false = false ∧ false = false ∧ false = false ∧ false = false ∧ false = false ∧ false = false ∧ false = false ∧ false = false ∧ false = false ∧ false = false ∧ false = false ∧ false = false ∧ false = false ∧ false = false ∧ false = false ∧ false = false ∧ false = false ∧ True) ∧ True) ∧ True) ∧ ∀ (x : { r : B // dropL r = dropL s ∧ List.length r ≤ List.length s }), branch (decide ((↑(List.length x.val) : Int) > (0 : Int))) (branch (decide ((0 : Int) < (↑(List.length x.val) : Int))) (branch (decide ((↑(List.getD x.val (0 : Nat) (OfNat.ofNat (0 : Nat))).toNat : Int) ≤ (255 : Int))) (branch (!digI (↑(List.getD x.val (0 : Nat) (OfNat.ofNat (0 : Nat))).toNat : Int)) (dropL s = x.val ∧ True) (branch (decide ((1 : Int) ≤ (↑(List.length x.val) : Int)) && decide ((↑(List.length x.val) : Int) ≤ (↑(List.length x.val) : Int))) (∃ (x' : { r : B // dropL r = dropL s ∧ List.length r ≤ List.length s }), List.length x'.val < List.length x.val ∧ (x'.val = List.drop (1 : Nat) (List.take (↑(List.length x.val) : Int).toNat x.val) ∧ ((0 : Nat) = (0 : Nat) ∧ (0 : Nat) = (0 : Nat)) ∧ True) ∧ ((false = false ∧ false = false ∧ false = false ∧ false = false ∧ false = false ∧ false = false ∧ false = false ∧ false = false ∧ false = false ∧ false = false ∧ false = false ∧ false = false ∧ false = false ∧ false = false ∧ false = false ∧ false = false ∧ false = false ∧ false = false ∧ false = false ∧ false = false ∧ false = false ∧ false = false ∧ false = false ∧ false = false ∧ false = false ∧ false = false ∧ false = false ∧ false = false ∧ false = false ∧ false = false ∧ false = false ∧ false = false ∧ false = false ∧ false = false ∧ false = false ∧ false = false ∧ false = false ∧ false = false ∧ false = false ∧ false = false ∧ false = false ∧ false = false ∧ false = false ∧ false = false ∧ false = false ∧ false = false ∧ false = false ∧ false = false ∧ true = true ∧ true = true ∧ true = true ∧ true = true ∧ true = true ∧ true = true ∧ true = true ∧ true
 = true ∧ true = true ∧ true = true ∧ false = false ∧ false = false ∧ false = false ∧ false = false ∧ false = false ∧ false = false ∧ false = false ∧ false = false ∧ false = false ∧ false = false ∧ false = false ∧ false = false ∧ false = false ∧ false = false ∧ false = false ∧ false = false ∧ false = false ∧ false = false ∧ false = false ∧ false = false ∧ false = false ∧ false = false ∧ false = false ∧ false = false ∧ false = false ∧ false = false ∧ false = false ∧ false = false ∧ false = false ∧ false = false ∧ false = false ∧ false = false ∧ false = false ∧ false = false ∧ false = false ∧ false = false ∧ false = false ∧ false = false ∧ false = false ∧ false = false ∧ false = false ∧ false = false ∧ false = false ∧ false = false ∧ false = false ∧ false = false ∧ false = false ∧ false = false ∧ false = false ∧ false = false ∧ false = false ∧ false = false ∧ false = false ∧ false = false ∧ false = false ∧ false = false ∧ false = false ∧ false = false ∧ false = false ∧ false = false ∧ false = false ∧ false = false ∧ false = false ∧ false = false ∧ false = false ∧ false = false ∧ false = false ∧ false = false ∧ false = false ∧ false = false ∧ false = false ∧ false = false ∧ false = false ∧ false = false ∧ false = false ∧ false = false ∧ false = false ∧ false = false ∧ false = false ∧ false = false ∧ false = false ∧ false = false ∧ false = false ∧ false = false ∧ false = false ∧ false = false ∧ false = false ∧ false = false ∧ false = false ∧ false = false ∧ false = false ∧ false = false ∧ false = false ∧ false = false ∧ false = false ∧ false = false ∧ false = false ∧ false = false ∧ false = false ∧ false = false ∧ false = false ∧ false = false ∧ false = false ∧ false = false ∧ false = false ∧ false = false ∧ false = false ∧ false = false ∧ false = false ∧ false = false ∧ false = false ∧ false = false ∧ false = false ∧ false = false ∧ false = false ∧ false = false ∧ false = false ∧ false = false ∧ false = false ∧ false = false ∧ false = false ∧ false = false ∧ false = false ∧ false = false ∧ false = false ∧ false = false ∧ false = false ∧ false = false ∧ false = false ∧ false = false ∧ false = false ∧ false = false ∧ false = false ∧ false = false ∧ false = false ∧ false = false ∧ false = false ∧ false = false ∧ false = false ∧ false = false ∧ false = false ∧ false = false ∧ false = false ∧ false = false ∧ false = false ∧ false = false ∧ false = false ∧ false = false ∧ false = false ∧ false = false ∧ false = false ∧ false = false ∧ false = false ∧ false = false ∧ false = false ∧ false = false ∧ false = false ∧ false = false ∧ false = false ∧ false = false ∧ false = false ∧ false = false ∧ false = false ∧ false = false ∧ false = false ∧ false = false ∧ false = false ∧ false = false ∧ false = false ∧ false = false ∧ false = false ∧ false = false ∧ false = false ∧ false = false ∧ false = false ∧ false = false ∧ false = false ∧ false = false ∧ false = false ∧ false = false ∧ false = false ∧ false = false ∧ false = false ∧ false = false ∧ false = false ∧
 false = false ∧ false = false ∧ false = false ∧ false = false ∧ false = false ∧ false = false ∧ false = false ∧ false = false ∧ false = false ∧ false = false ∧ false = false ∧ false = false ∧ false = false ∧ True) ∧ True) ∧ True) False)) False) False) (dropL s = x.val ∧ True)) := by kernel_rfl
theorem v72 (s : B) : (OwesDN e3 (72 : Nat) S72 (fun (_ : Nat) => []) (L72 s) noJ () s) = ( (∃ (x : { r : B // dropR r = dropR s ∧ List.length r ≤ List.length s }), (x.val = s ∧ ((0 : Nat) = (0 : Nat) ∧ (0 : Nat) = (0 : Nat)) ∧ True) ∧ ((false = false ∧ false = false ∧ false = false ∧ false = false ∧ false = false ∧ false = false ∧ false = false ∧ false = false ∧ false = false ∧ false = false ∧ false = false ∧ false = false ∧ false = false ∧ false = false ∧ false = false ∧ false = false ∧ false = false ∧ false = false ∧ false = false ∧ false = false ∧ false = false ∧ false = false ∧ false = false ∧ false = false ∧ false = false ∧ false = false ∧ false = false ∧ false = false ∧ false = false ∧ false = false ∧ false = false ∧ false = false ∧ false = false ∧ false = false ∧ false = false ∧ false = false ∧ false = false ∧ false = false ∧ false = false ∧ false = false ∧ false = false ∧ false = false ∧ false = false ∧ false = false ∧ false = false ∧ false = false ∧ false = false ∧ false = false ∧ true = true ∧ true = true ∧ true = true ∧ true = true ∧ true = true ∧ true = true ∧ true = true ∧ true = true ∧ true = true ∧ true = true ∧ false = false ∧ false = false ∧ false = false ∧ false = false ∧ false = false ∧ false = false ∧ false = false ∧ false = false ∧ false = false ∧ false = false ∧ false = false ∧ false = false ∧ false = false ∧ false = false ∧ false = false ∧ false = false ∧ false = false ∧ false = false ∧ false = false ∧ false = false ∧ false = false ∧ false = false ∧ false = false ∧ false = false ∧ false = false ∧ false = false ∧ false = false ∧ false = false ∧ false = false ∧ false = false ∧ false = false ∧ false = false ∧ false = false ∧ false = false ∧ false = false ∧ false = false ∧ false = false ∧ false = false ∧ false = false ∧ false = false ∧ false = false ∧ false = false ∧ false = false ∧ false = false ∧ false = false ∧ false = false ∧ false = false ∧ false = false ∧ false = false ∧ false = false ∧ false = false ∧ false = false ∧ false = false ∧ false = false ∧ false = false ∧ false = false ∧ false = false ∧ false = false ∧ false = false ∧ false = false ∧ false = false ∧ false = false ∧ false = false ∧ false = false ∧ false = false ∧ false = false ∧ false = false ∧ false = false ∧ false = false ∧ false = false ∧ false = false ∧ false = false ∧ false = false ∧ false = false ∧ false = false ∧ false = false ∧ false = false ∧ false = false ∧ false = false ∧ false = false ∧ false = false ∧ false = false ∧ false = false ∧ false = false ∧ false = false ∧ false = false ∧ false = false ∧ false = false ∧ false = false ∧ false = false ∧ false = false ∧ false = false ∧ false = false ∧ false = false ∧ false = false ∧ false = false ∧ false = false ∧ false = false ∧ false = false ∧ false = false ∧ false = false ∧ false = false ∧ false = false ∧ false = false ∧ false = false ∧ false = false ∧ false = false ∧ false = false ∧ false = false ∧ false = false ∧ false = false ∧ false = false ∧ false = false ∧ false = false ∧ false = false ∧ false = false
 ∧ false = false ∧ false = false ∧ false = false ∧ false = false ∧ false = false ∧ false = false ∧ false = false ∧ false = false ∧ false = false ∧ false = false ∧ false = false ∧ false = false ∧ false = false ∧ false = false ∧ false = false ∧ false = false ∧ false = false ∧ false = false ∧ false = false ∧ false = false ∧ false = false ∧ false = false ∧ false = false ∧ false = false ∧ false = false ∧ false = false ∧ false = false ∧ false = false ∧ false = false ∧ false = false ∧ false = false ∧ false = false ∧ false = false ∧ false = false ∧ false = false ∧ false = false ∧ false = false ∧ false = false ∧ false = false ∧ false = false ∧ false = false ∧ false = false ∧ false = false ∧ false = false ∧ false = false ∧ false = false ∧ false = false ∧ false = false ∧ false = false ∧ false = false ∧ false = false ∧ false = false ∧ false = false ∧ false = false ∧ false = false ∧ false = false ∧ false = false ∧ false = false ∧ false = false ∧ false = false ∧ false = false ∧ false = false ∧ false = false ∧ false = false ∧ false = false ∧ false = false ∧ false = false ∧ false = false ∧ false = false ∧ false = false ∧ false = false ∧ false = false ∧ false = false ∧ false = false ∧ false = false ∧ false = false ∧ false = false ∧ false = false ∧ false = false ∧ false = false ∧ false = false ∧ false = false ∧ True) ∧ True) ∧ True) ∧ ∀ (x : { r : B // dropR r = dropR s ∧ List.length r ≤ List.length s }), branch (decide ((↑(List.length x.val) : Int) > (0 : Int))) (branch (decide ((0 : Int) ≤ IntKind.i64.wrap ((↑(List.length x.val) : Int) - (1 : Int))) && decide (IntKind.i64.wrap ((↑(List.length x.val) : Int) - (1 : Int)) < (↑(List.length x.val) : Int))) (branch (decide ((↑(List.getD x.val (IntKind.i64.wrap ((↑(List.length x.val) : Int) - (1 : Int))).toNat (OfNat.ofNat (0 : Nat))).toNat : Int) ≤ (255 : Int))) (branch (!digI (↑(List.getD x.val (IntKind.i64.wrap ((↑(List.length x.val) : Int) - (1 : Int))).toNat (OfNat.ofNat (0 : Nat))).toNat : Int)) (dropR s = x.val ∧ ((false = false ∧ false = false ∧ false = false ∧ false = false ∧ false = false ∧ false = false ∧ false = false ∧ false = false ∧ false = false ∧ false = false ∧ false = false ∧ false = false ∧ false = false ∧ false = false ∧ false = false ∧ false = false ∧ false = false ∧ false = false ∧ false = false ∧ false = false ∧ false = false ∧ false = false ∧ false = false ∧ false = false ∧ false = false ∧ false = false ∧ false = false ∧ false = false ∧ false = false ∧ false = false ∧ false = false ∧ false = false ∧ false = false ∧ false = false ∧ false = false ∧ false = false ∧ false = false ∧ false = false ∧ false = false ∧ false = false ∧ false = false ∧ false = false ∧ false = false ∧ false = false ∧ false = false ∧ false = false ∧ false = false ∧ false = false ∧ true = true ∧ true = true ∧ true = true ∧ true = true ∧ true = true ∧ true = true ∧ true = true ∧ true = true ∧ true = true ∧ true = true ∧ false = false ∧ false = false ∧ false = false ∧ false = false ∧ false = false ∧ false = false ∧ false = false
 ∧ false = false ∧ false = false ∧ false = false ∧ false = false ∧ false = false ∧ false = false ∧ false = false ∧ false = false ∧ false = false ∧ false = false ∧ false = false ∧ false = false ∧ false = false ∧ false = false ∧ false = false ∧ false = false ∧ false = false ∧ false = false ∧ false = false ∧ false = false ∧ false = false ∧ false = false ∧ false = false ∧ false = false ∧ false = false ∧ false = false ∧ false = false ∧ false = false ∧ false = false ∧ false = false ∧ false = false ∧ false = false ∧ false = false ∧ false = false ∧ false = false ∧ false = false ∧ false = false ∧ false = false ∧ false = false ∧ false = false ∧ false = false ∧ false = false ∧ false = false ∧ false = false ∧ false = false ∧ false = false ∧ false = false ∧ false = false ∧ false = false ∧ false = false ∧ false = false ∧ false = false ∧ false = false ∧ false = false ∧ false = false ∧ false = false ∧ false = false ∧ false = false ∧ false = false ∧ false = false ∧ false = false ∧ false = false ∧ false = false ∧ false = false ∧ false = false ∧ false = false ∧ false = false ∧ false = false ∧ false = false ∧ false = false ∧ false = false ∧ false = false ∧ false = false ∧ false = false ∧ false = false ∧ false = false ∧ false = false ∧ false = false ∧ false = false ∧ false = false ∧ false = false ∧ false = false ∧ false = false ∧ false = false ∧ false = false ∧ false = false ∧ false = false ∧ false = false ∧ false = false ∧ false = false ∧ false = false ∧ false = false ∧ false = false ∧ false = false ∧ false = false ∧ false = false ∧ false = false ∧ false = false ∧ false = false ∧ false = false ∧ false = false ∧ false = false ∧ false = false ∧ false = false ∧ false = false ∧ false = false ∧ false = false ∧ false = false ∧ false = false ∧ false = false ∧ false = false ∧ false = false ∧ false = false ∧ false = false ∧ false = false ∧ false = false ∧ false = false ∧ false = false ∧ false = false ∧ false = false ∧ false = false ∧ false = false ∧ false = false ∧ false = false ∧ false = false ∧ false = false ∧ false = false ∧ false = false ∧ false = false ∧ false = false ∧ false = false ∧ false = false ∧ false = false ∧ false = false ∧ false = false ∧ false = false ∧ false = false ∧ false = false ∧ false = false ∧ false = false ∧ false = false ∧ false = false ∧ false = false ∧ false = false ∧ false = false ∧ false = false ∧ false = false ∧ false = false ∧ false = false ∧ false = false ∧ false = false ∧ false = false ∧ false = false ∧ false = false ∧ false = false ∧ false = false ∧ false = false ∧ false = false ∧ false = false ∧ false = false ∧ false = false ∧ false = false ∧ false = false ∧ false = false ∧ false = false ∧ false = false ∧ false = false ∧ false = false ∧ false = false ∧ false = false ∧ false = false ∧ false = false ∧ false = false ∧ false = false ∧ false = false ∧ false = false ∧ false = false ∧ false = false ∧ false = false ∧ false = false ∧ false = false ∧ false = false ∧ false = false ∧ false = false ∧ false = false ∧ false = false ∧ false = false ∧ false
 = false ∧ false = false ∧ false = false ∧ false = false ∧ True) ∧ True) ∧ True) (branch (decide ((0 : Int) ≤ IntKind.i64.wrap ((↑(List.length x.val) : Int) - (1 : Int))) && decide (IntKind.i64.wrap ((↑(List.length x.val) : Int) - (1 : Int)) ≤ (↑(List.length x.val) : Int))) (∃ (x' : { r : B // dropR r = dropR s ∧ List.length r ≤ List.length s }), List.length x'.val < List.length x.val ∧ (x'.val = List.drop (0 : Nat) (List.take (IntKind.i64.wrap ((↑(List.length x.val) : Int) - (1 : Int))).toNat x.val) ∧ ((0 : Nat) = (0 : Nat) ∧ (0 : Nat) = (0 : Nat)) ∧ True) ∧ ((false = false ∧ false = false ∧ false = false ∧ false = false ∧ false = false ∧ false = false ∧ false = false ∧ false = false ∧ false = false ∧ false = false ∧ false = false ∧ false = false ∧ false = false ∧ false = false ∧ false = false ∧ false = false ∧ false = false ∧ false = false ∧ false = false ∧ false = false ∧ false = false ∧ false = false ∧ false = false ∧ false = false ∧ false = false ∧ false = false ∧ false = false ∧ false = false ∧ false = false ∧ false = false ∧ false = false ∧ false = false ∧ false = false ∧ false = false ∧ false = false ∧ false = false ∧ false = false ∧ false = false ∧ false = false ∧ false = false ∧ false = false ∧ false = false ∧ false = false ∧ false = false ∧ false = false ∧ false = false ∧ false = false ∧ false = false ∧ true = true ∧ true = true ∧ true = true ∧ true = true ∧ true = true ∧ true = true ∧ true = true ∧ true = true ∧ true = true ∧ true = true ∧ false = false ∧ false = false ∧ false = false ∧ false = false ∧ false = false ∧ false = false ∧ false = false ∧ false = false ∧ false = false ∧ false = false ∧ false = false ∧ false = false ∧ false = false ∧ false = false ∧ false = false ∧ false = false ∧ false = false ∧ false = false ∧ false = false ∧ false = false ∧ false = false ∧ false = false ∧ false = false ∧ false = false ∧ false = false ∧ false = false ∧ false = false ∧ false = false ∧ false = false ∧ false = false ∧ false = false ∧ false = false ∧ false = false ∧ false = false ∧ false = false ∧ false = false ∧ false = false ∧ false = false ∧ false = false ∧ false = false ∧ false = false ∧ false = false ∧ false = false ∧ false = false ∧ false = false ∧ false = false ∧ false = false ∧ false = false ∧ false = false ∧ false = false ∧ false = false ∧ false = false ∧ false = false ∧ false = false ∧ false = false ∧ false = false ∧ false = false ∧ false = false ∧ false = false ∧ false = false ∧ false = false ∧ false = false ∧ false = false ∧ false = false ∧ false = false ∧ false = false ∧ false = false ∧ false = false ∧ false = false ∧ false = false ∧ false = false ∧ false = false ∧ false = false ∧ false = false ∧ false = false ∧ false = false ∧ false = false ∧ false = false ∧ false = false ∧ false = false ∧ false = false ∧ false = false ∧ false = false ∧ false = false ∧ false = false ∧ false = false ∧ false = false ∧ false = false ∧ false = false ∧ false = false ∧ false = false ∧ false = false ∧ false = false ∧ false = false ∧ false = false ∧ false
 = false ∧ false = false ∧ false = false ∧ false = false ∧ false = false ∧ false = false ∧ false = false ∧ false = false ∧ false = false ∧ false = false ∧ false = false ∧ false = false ∧ false = false ∧ false = false ∧ false = false ∧ false = false ∧ false = false ∧ false = false ∧ false = false ∧ false = false ∧ false = false ∧ false = false ∧ false = false ∧ false = false ∧ false = false ∧ false = false ∧ false = false ∧ false = false ∧ false = false ∧ false = false ∧ false = false ∧ false = false ∧ false = false ∧ false = false ∧ false = false ∧ false = false ∧ false = false ∧ false = false ∧ false = false ∧ false = false ∧ false = false ∧ false = false ∧ false = false ∧ false = false ∧ false = false ∧ false = false ∧ false = false ∧ false = false ∧ false = false ∧ false = false ∧ false = false ∧ false = false ∧ false = false ∧ false = false ∧ false = false ∧ false = false ∧ false = false ∧ false = false ∧ false = false ∧ false = false ∧ false = false ∧ false = false ∧ false = false ∧ false = false ∧ false = false ∧ false = false ∧ false = false ∧ false = false ∧ false = false ∧ false = false ∧ false = false ∧ false = false ∧ false = false ∧ false = false ∧ false = false ∧ false = false ∧ false = false ∧ false = false ∧ false = false ∧ false = false ∧ false = false ∧ false = false ∧ false = false ∧ false = false ∧ false = false ∧ false = false ∧ false = false ∧ false = false ∧ false = false ∧ false = false ∧ false = false ∧ false = false ∧ false = false ∧ false = false ∧ false = false ∧ false = false ∧ false = false ∧ false = false ∧ false = false ∧ false = false ∧ false = false ∧ false = false ∧ false = false ∧ True) ∧ True) ∧ True) False)) False) False) (dropR s = x.val ∧ ((false = false ∧ false = false ∧ false = false ∧ false = false ∧ false = false ∧ false = false ∧ false = false ∧ false = false ∧ false = false ∧ false = false ∧ false = false ∧ false = false ∧ false = false ∧ false = false ∧ false = false ∧ false = false ∧ false = false ∧ false = false ∧ false = false ∧ false = false ∧ false = false ∧ false = false ∧ false = false ∧ false = false ∧ false = false ∧ false = false ∧ false = false ∧ false = false ∧ false = false ∧ false = false ∧ false = false ∧ false = false ∧ false = false ∧ false = false ∧ false = false ∧ false = false ∧ false = false ∧ false = false ∧ false = false ∧ false = false ∧ false = false ∧ false = false ∧ false = false ∧ false = false ∧ false = false ∧ false = false ∧ false = false ∧ false = false ∧ true = true ∧ true = true ∧ true = true ∧ true = true ∧ true = true ∧ true = true ∧ true = true ∧ true = true ∧ true = true ∧ true = true ∧ false = false ∧ false = false ∧ false = false ∧ false = false ∧ false = false ∧ false = false ∧ false = false ∧ false = false ∧ false = false ∧ false = false ∧ false = false ∧ false = false ∧ false = false ∧ false = false ∧ false = false ∧ false = false ∧ false = false ∧ false = false ∧ false = false ∧ false = false ∧ false = false ∧ false = false ∧ false = false ∧ false = false ∧
 false = false ∧ false = false ∧ false = false ∧ false = false ∧ false = false ∧ false = false ∧ false = false ∧ false = false ∧ false = false ∧ false = false ∧ false = false ∧ false = false ∧ false = false ∧ false = false ∧ false = false ∧ false = false ∧ false = false ∧ false = false ∧ false = false ∧ false = false ∧ false = false ∧ false = false ∧ false = false ∧ false = false ∧ false = false ∧ false = false ∧ false = false ∧ false = false ∧ false = false ∧ false = false ∧ false = false ∧ false = false ∧ false = false ∧ false = false ∧ false = false ∧ false = false ∧ false = false ∧ false = false ∧ false = false ∧ false = false ∧ false = false ∧ false = false ∧ false = false ∧ false = false ∧ false = false ∧ false = false ∧ false = false ∧ false = false ∧ false = false ∧ false = false ∧ false = false ∧ false = false ∧ false = false ∧ false = false ∧ false = false ∧ false = false ∧ false = false ∧ false = false ∧ false = false ∧ false = false ∧ false = false ∧ false = false ∧ false = false ∧ false = false ∧ false = false ∧ false = false ∧ false = false ∧ false = false ∧ false = false ∧ false = false ∧ false = false ∧ false = false ∧ false = false ∧ false = false ∧ false = false ∧ false = false ∧ false = false ∧ false = false ∧ false = false ∧ false = false ∧ false = false ∧ false = false ∧ false = false ∧ false = false ∧ false = false ∧ false = false ∧ false = false ∧ false = false ∧ false = false ∧ false = false ∧ false = false ∧ false = false ∧ false = false ∧ false = false ∧ false = false ∧ false = false ∧ false = false ∧ false = false ∧ false = false ∧ false = false ∧ false = false ∧ false = false ∧ false = false ∧ false = false ∧ false = false ∧ false = false ∧ false = false ∧ false = false ∧ false = false ∧ false = false ∧ false = false ∧ false = false ∧ false = false ∧ false = false ∧ false = false ∧ false = false ∧ false = false ∧ false = false ∧ false = false ∧ false = false ∧ false = false ∧ false = false ∧ false = false ∧ false = false ∧ false = false ∧ false = false ∧ false = false ∧ false = false ∧ false = false ∧ false = false ∧ false = false ∧ false = false ∧ false = false ∧ false = false ∧ false = false ∧ false = false ∧ false = false ∧ false = false ∧ false = false ∧ false = false ∧ false = false ∧ false = false ∧ false = false ∧ false = false ∧ false = false ∧ false = false ∧ false = false ∧ false = false ∧ false = false ∧ false = false ∧ false = false ∧ false = false ∧ false = false ∧ false = false ∧ false = false ∧ false = false ∧ false = false ∧ false = false ∧ false = false ∧ false = false ∧ false = false ∧ false = false ∧ false = false ∧ false = false ∧ false = false ∧ false = false ∧ false = false ∧ false = false ∧ false = false ∧ false = false ∧ false = false ∧ false = false ∧ false = false ∧ false = false ∧ True) ∧ True) ∧ True)) := by kernel_rfl

end Go.Proofs.YtaonjbojhikndaaDoor

namespace Go.Proofs.YtaonjbojhikndaaDoor
open Go Go.W
set_option maxRecDepth 100000

theorem dropL_cons (b : UInt8) (l : B) : dropL (b :: l) = bif isD b then dropL l else b :: l := rfl
theorem ok71 (s : B) (hp : S71.pre s = true) : OwesN e3 71 S71 (fun _ => []) (L71 s) noJ () s := by
  refine OwesN.mk ?_
  rw [v71]
  have hs : s.length ≤ 1000000 := small_le hp
  refine ⟨⟨⟨s, rfl, Nat.le_refl _⟩, ⟨rfl, ⟨rfl, rfl⟩, trivial⟩, cov_dig [], trivial⟩, fun x => ?_⟩
  obtain ⟨hx, hl⟩ := x.2
  have hlt : ∀ b : UInt8, (b.toNat : Int) ≤ 255 := fun b => by have := b.toNat_lt; omega
  refine br (fun h => ?_) (fun h => ?_)
  · have h : 0 < x.1.length := by simpa using h
    refine brT (dT (by omega)) (brT (dT (hlt _)) ?_)
    obtain ⟨b, l, hbl⟩ : ∃ b l, x.1 = b :: l := by
      cases hh : x.1 with
      | nil => rw [hh] at h; simp at h
      | cons b l => exact ⟨b, l, rfl⟩
    rw [hbl] at hx hl
    rw [dropL_cons] at hx
    have e : ([b] ++ l).getD 0 0 = b := rfl
    rw [hbl]
    refine br (fun hd => ?_) (fun hd => ?_)
    · have hd : isD b = false := by unfold isD; simpa using hd
      rw [hd, cond_false] at hx
      exact ⟨hx.symm, trivial⟩
    · have hd : isD b = true := by unfold isD; simpa using hd
      rw [hd, cond_true] at hx
      refine brT (by simp; omega) ⟨⟨l, hx, by simp at hl; omega⟩, by simp, ⟨by simp, ⟨rfl, rfl⟩, trivial⟩, cov_dig [], trivial⟩
  · have h : x.1.length = 0 := by simpa using h
    have h : x.1 = [] := List.eq_nil_of_length_eq_zero h
    rw [h] at hx ⊢
    exact ⟨hx.symm, trivial⟩
theorem dropR_snoc (b : UInt8) (l : B) : dropR (l ++ [b]) = bif isD b then dropR l else l ++ [b] := by
  unfold dropR
  rw [List.reverse_append, List.reverse_singleton, List.singleton_append, dropL_cons]
  cases isD b <;> simp
theorem ok72 (s : B) (hp : S72.pre s = true) : OwesN e3 72 S72 (fun _ => []) (L72 s) noJ () s := by
  refine OwesN.mk ?_
  rw [v72]
  have hs : s.length ≤ 1000000 := small_le hp
  refine ⟨⟨⟨s, rfl, Nat.le_refl _⟩, ⟨rfl, ⟨rfl, rfl⟩, trivial⟩, cov_dig [], trivial⟩, fun x => ?_⟩
  obtain ⟨hx, hl⟩ := x.2
  have hlt : ∀ b : UInt8, (b.toNat : Int) ≤ 255 := fun b => by have := b.toNat_lt; omega
  refine br (fun h => ?_) (fun h => ?_)
  · have h : 0 < x.1.length := by simpa using h
    have w1 : IntKind.i64.wrap ((x.1.length : Int) - 1) = ((x.1.length - 1 : Nat) : Int) := by rw [wrap_id] <;> omega
    rw [w1]
    refine brT (by simp; omega) (brT (dT (hlt _)) ?_)
    obtain ⟨l, b, hbl⟩ : ∃ l b, x.1 = l ++ [b] := by
      rcases List.eq_nil_or_concat x.1 with hh | ⟨l, b, hh⟩
      · rw [hh] at h; simp at h
      · exact ⟨l, b, by rw [hh, List.concat_eq_append]⟩
    rw [hbl] at hx hl
    rw [dropR_snoc] at hx
    rw [hbl]
    have e : ((l ++ [b]).length - 1 : Nat) = l.length := by simp
    have e2 : (((l.length : Nat) : Int)).toNat = l.length := by simp
    have e3 : (l ++ [b]).getD l.length 0 = b := by simp [List.getD]
    rw [e, e2]
    refine br (fun hd => ?_) (fun hd => ?_)
    · have hd : isD b = false := by unfold isD; rw [← e3]; simpa using hd
      rw [hd, cond_false] at hx
      exact ⟨hx.symm, cov_dig [], trivial⟩
    · have hd : isD b = true := by unfold isD; rw [← e3]; simpa using hd
      rw [hd, cond_true] at hx
      refine brT (by simp; omega) ⟨⟨l, hx, by simp at hl; omega⟩, by simp, ⟨by simp, ⟨rfl, rfl⟩, trivial⟩, cov_dig [], trivial⟩
  · have h : x.1.length = 0 := by simpa using h
    have h : x.1 = [] := List.eq_nil_of_length_eq_zero h
    rw [h] at hx ⊢
    exact ⟨hx.symm, cov_dig [], trivial⟩
theorem k71 : SpecOk Tryd.prog 71 S71 := spec_loopN e3_sound (by kernel_rfl) (fun _ _ => []) L71 (fun _ => noJ) (fun _ => ()) ok71
theorem k72 : SpecOk Tryd.prog 72 S72 := spec_loopN e3_sound (by kernel_rfl) (fun _ _ => []) L72 (fun _ => noJ) (fun _ => ()) ok72
theorem a71 : RowOK 71 (S71.con M71) := Spec.con_ok k71 M71 (fun _ => Nat.le_of_ble_eq_true rfl)
theorem a72 : RowOK 72 (S72.con M72) := Spec.con_ok k72 M72 (fun _ => Nat.le_of_ble_eq_true rfl)
def K4 : Con regK.T := fun f => lookN [(71, S71.con M71), (72, S72.con M72)] f
theorem K4_ok : ConOk Tryd.prog K4 := con_cons a71 (con_cons a72 con_nil)
noncomputable def e4 : Hd regK.T := hdT regK Tryd.prog K4 (fun _ => false) 1000 5
theorem e4_sound : HdSound Tryd.prog e4 := hdT_sound mixed hno K4_ok _ _ _

/-! ### strings.Trim, at the digits -/
def ten : B := [48, 49, 50, 51, 52, 53, 54, 55, 56, 57]
def S56 : Go.W.Spec regK.T := ⟨B, fun s => [ks s, ks ten], fun _ => [], fun s => small s.length, fun s => .ret (ks (bif s == [] then [] else dropL (dropR s)), [])⟩
def M56 : Meet S56 where
  find args _ := match args with | [.d (.str s), .d (.str t)] => (match t == ten with | true => some (s, []) | false => none) | _ => none
  ok args g a ρ h := by
    split at h
    · rename_i s t
      split at h
      · rename_i ht
        have ht : t = ten := by simpa using ht
        cases h
        subst ht
        exact ⟨⟨cov_s _ _, cov_s _ _, trivial⟩, rfl, fun j o' hj => by simp [S56] at hj⟩
      · cases h
    · cases h
end Go.Proofs.YtaonjbojhikndaaDoor

namespace Go.Proofs.YtaonjbojhikndaaDoor
open Go Go.W Go.Proofs
set_option maxRecDepth 100000
theorem v56 (s : B) : (MeetK e4 (56 : Nat) S56 s) = ( branch (s == []) ((bif s == [] then [] else dropL (dropR s)) = s ∧ True) (branch (S72.pre s) (branch (S71.pre (dropR s)) ((bif s == [] then [] else dropL (dropR s)) = dropL (dropR s) ∧ True) False) False)) := by kernel_rfl

end Go.Proofs.YtaonjbojhikndaaDoor

namespace Go.Proofs.YtaonjbojhikndaaDoor
open Go Go.W
set_option maxRecDepth 100000

theorem dropL_le : ∀ s : B, (dropL s).length ≤ s.length
  | [] => Nat.le_refl _
  | b :: l => by
    rw [dropL_cons]
    have := dropL_le l
    cases isD b <;> simp only [cond_true, cond_false, List.length_cons] <;> omega
theorem dropR_le (s : B) : (dropR s).length ≤ s.length := by
  unfold dropR
  have := dropL_le s.reverse
  simpa using this
theorem ok56 (s : B) (hp : S56.pre s = true) : MeetsK e4 56 S56 s := by
  refine MeetsK.mk ?_
  rw [v56]
  have hs : s.length ≤ 1000000 := small_le hp
  have h1 := dropR_le s
  refine br (fun h => ?_) (fun h => ?_)
  · have h : s = [] := by simpa using h
    subst h
    exact ⟨rfl, trivial⟩
  · rw [h, cond_false]
    exact brT hp (brT (Nat.ble_eq_true_of_le (by omega)) ⟨rfl, trivial⟩)
theorem k56 : SpecOk Tryd.prog 56 S56 := spec_leaf e4_sound (by kernel_rfl) ok56
theorem a56 : RowOK 56 (S56.con M56) := Spec.con_ok k56 M56 (fun _ => Nat.le_of_ble_eq_true rfl)

def niliD : D TK := .nili
/-- What is never come to. -/
def uBad : TB := fun _ _ => .bad
theorem aBad (f : Nat) : RowOK f uBad := fun _ _ _ hq => hq.elim
def K5 : Con regK.T := fun f => lookN [(92, uBad)] f
theorem K5_ok : ConOk Tryd.prog K5 := con_cons (aBad 92) con_nil
noncomputable def e5 : Hd regK.T := hdT regK Tryd.prog K5 (fun _ => false) 1000 5
theorem e5_sound : HdSound Tryd.prog e5 := hdT_sound mixed hno K5_ok _ _ _

/-! ### Numbers of digits -/
def allD (s : B) : Bool := s.all isD
def valM (s : B) : Int := s.foldl (fun n b => n * 10 + ((b.toNat : Int) - 48)) 0
def okNum (s : B) : Bool := Nat.ble 1 s.length && Nat.ble s.length 7 && allD s
def S75 : Go.W.Spec regK.T := ⟨B, fun s => [ks s], fun _ => [], okNum, fun s => .ret (.tup [ki (valM s), .d .nili], [])⟩
def M75 : Meet S75 where
  find args _ := match args with | [.d (.str s)] => some (s, []) | _ => none
  ok args g a ρ h := by
    split at h
    · cases h
      exact ⟨⟨cov_s _ _, trivial⟩, rfl, fun j o' hj => by simp [S75] at hj⟩
    · cases h
def L75 (s : B) (_ : Unit) (k : Nat) (_ : St regK.T) : Option (LoopI regK.T Unit) := match Nat.beq k 10 with
  | true => some ⟨{ i : Nat // i ≤ s.length }, fun i => ⟨[(5, ks s), (6, ki (valM (s.take i.1))), (47, .sl 0 0 s.length (.least s.length)), (48, ki (s.length : Nat)), (49, ki (i.1 : Nat))], [(0, .trows 5 s)], 1⟩, fun i => s.length - i.1, fun _ => ()⟩
  | false => none
end Go.Proofs.YtaonjbojhikndaaDoor

namespace Go.Proofs.YtaonjbojhikndaaDoor
open Go Go.W Go.Proofs
set_option maxRecDepth 100000
theorem v75 (s : B) : (OwesDN e5 (75 : Nat) S75 (fun (_ : Nat) => []) (L75 s) noJ () s) = ( branch (decide ((0 : Int) < (↑(List.length s) : Int))) (branch (decide ((↑(List.length s) : Int) < (19 : Int))) (branch (decide ((0 : Int) < (↑(List.length s) : Int))) (branch ((↑(List.getD s (0 : Nat) (OfNat.ofNat (0 : Nat))).toNat : Int) == (45 : Int)) (branch (decide ((1 : Int) ≤ (↑(List.length s) : Int)) && decide ((↑(List.length s) : Int) ≤ (↑(List.length s) : Int))) (branch (decide ((↑(List.drop (1 : Nat) (List.take (↑(List.length s) : Int).toNat s)).length : Int) < (1 : Int))) False (branch ((List.drop (1 : Nat) (List.take (↑(List.length s) : Int).toNat s)).length.ble (140737488355328 : Nat)) ((∃ (x : { i : Nat // i ≤ List.length s }), (s = s ∧ valM (List.take x.val s) = (0 : Int) ∧ ((0 : Nat) = (0 : Nat) ∧ List.length s = (List.drop (1 : Nat) (List.take (↑(List.length s) : Int).toNat s)).length ∧ (List.length s).le (List.drop (Int.toNat (1 : Int)) (List.take (↑(List.length s) : Int).toNat s)).length) ∧ (↑(List.length s) : Int) = (↑(List.drop (1 : Nat) (List.take (↑(List.length s) : Int).toNat s)).length : Int) ∧ (↑x.val : Int) = (0 : Int) ∧ True) ∧ o5 s = o5 ([] ++ List.drop (1 : Nat) (List.take (↑(List.length s) : Int).toNat s)) ∧ True) ∧ ∀ (x : { i : Nat // i ≤ List.length s }), branch (decide ((↑x.val : Int) < (↑(List.length s) : Int))) (branch (decide ((↑x.val : Int) < (↑(List.length s) : Int))) (branch (((0 : Nat) + (↑x.val : Int).toNat).blt (List.length s)) (branch (decide (IntKind.u8.wrap ((↑(UInt8.toNat (List.getD s ((0 : Nat) + (↑x.val : Int).toNat) (OfNat.ofNat (0 : Nat)))) : Int) - (48 : Int)) > (9 : Int))) False (∃ (x' : { i : Nat // i ≤ List.length s }), List.length s - x'.val < List.length s - x.val ∧ (s = s ∧ valM (List.take x'.val s) = IntKind.i64.wrap (IntKind.i64.wrap (valM (List.take x.val s) * (10 : Int)) + IntKind.i64.wrap (IntKind.u8.wrap ((↑(UInt8.toNat (List.getD s ((0 : Nat) + (↑x.val : Int).toNat) (OfNat.ofNat (0 : Nat)))) : Int) - (48 : Int)))) ∧ ((0 : Nat) = (0 : Nat) ∧ List.length s = List.length s ∧ (List.length s).le (List.length s)) ∧ (↑(List.length s) : Int) = (↑(List.length s) : Int) ∧ (↑x'.val : Int) = IntKind.i64.wrap ((↑x.val : Int) + (1 : Int)) ∧ True) ∧ o5 s = o5 s ∧ True)) False) False) (branch (decide ((0 : Int) < (↑(List.length s) : Int))) (branch ((↑(List.getD s (0 : Nat) (OfNat.ofNat (0 : Nat))).toNat : Int) == (45 : Int)) ((valM s = IntKind.i64.wrap ((0 : Int) - valM (List.take x.val s)) ∧ niliD = D.nili ∧ True) ∧ True) ((valM s = valM (List.take x.val s) ∧ niliD = D.nili ∧ True) ∧ True)) False)) False)) False) (branch (decide ((0 : Int) < (↑(List.length s) : Int))) (branch ((↑(List.getD s (0 : Nat) (OfNat.ofNat (0 : Nat))).toNat : Int) == (43 : Int)) (branch (decide ((1 : Int) ≤ (↑(List.length s) : Int)) && decide ((↑(List.length s) : Int) ≤ (↑(List.length s) : Int))) (branch (decide ((↑(List.drop (1 : Nat) (List.take (↑(List.length s) : Int).toNat s)).length : Int) < (1 : Int))) False (branch
 ((List.drop (1 : Nat) (List.take (↑(List.length s) : Int).toNat s)).length.ble (140737488355328 : Nat)) ((∃ (x : { i : Nat // i ≤ List.length s }), (s = s ∧ valM (List.take x.val s) = (0 : Int) ∧ ((0 : Nat) = (0 : Nat) ∧ List.length s = (List.drop (1 : Nat) (List.take (↑(List.length s) : Int).toNat s)).length ∧ (List.length s).le (List.drop (Int.toNat (1 : Int)) (List.take (↑(List.length s) : Int).toNat s)).length) ∧ (↑(List.length s) : Int) = (↑(List.drop (1 : Nat) (List.take (↑(List.length s) : Int).toNat s)).length : Int) ∧ (↑x.val : Int) = (0 : Int) ∧ True) ∧ o5 s = o5 ([] ++ List.drop (1 : Nat) (List.take (↑(List.length s) : Int).toNat s)) ∧ True) ∧ ∀ (x : { i : Nat // i ≤ List.length s }), branch (decide ((↑x.val : Int) < (↑(List.length s) : Int))) (branch (decide ((↑x.val : Int) < (↑(List.length s) : Int))) (branch (((0 : Nat) + (↑x.val : Int).toNat).blt (List.length s)) (branch (decide (IntKind.u8.wrap ((↑(UInt8.toNat (List.getD s ((0 : Nat) + (↑x.val : Int).toNat) (OfNat.ofNat (0 : Nat)))) : Int) - (48 : Int)) > (9 : Int))) False (∃ (x' : { i : Nat // i ≤ List.length s }), List.length s - x'.val < List.length s - x.val ∧ (s = s ∧ valM (List.take x'.val s) = IntKind.i64.wrap (IntKind.i64.wrap (valM (List.take x.val s) * (10 : Int)) + IntKind.i64.wrap (IntKind.u8.wrap ((↑(UInt8.toNat (List.getD s ((0 : Nat) + (↑x.val : Int).toNat) (OfNat.ofNat (0 : Nat)))) : Int) - (48 : Int)))) ∧ ((0 : Nat) = (0 : Nat) ∧ List.length s = List.length s ∧ (List.length s).le (List.length s)) ∧ (↑(List.length s) : Int) = (↑(List.length s) : Int) ∧ (↑x'.val : Int) = IntKind.i64.wrap ((↑x.val : Int) + (1 : Int)) ∧ True) ∧ o5 s = o5 s ∧ True)) False) False) (branch (decide ((0 : Int) < (↑(List.length s) : Int))) (branch ((↑(List.getD s (0 : Nat) (OfNat.ofNat (0 : Nat))).toNat : Int) == (45 : Int)) ((valM s = IntKind.i64.wrap ((0 : Int) - valM (List.take x.val s)) ∧ niliD = D.nili ∧ True) ∧ True) ((valM s = valM (List.take x.val s) ∧ niliD = D.nili ∧ True) ∧ True)) False)) False)) False) (branch ((List.length s).ble (140737488355328 : Nat)) ((∃ (x : { i : Nat // i ≤ List.length s }), (s = s ∧ valM (List.take x.val s) = (0 : Int) ∧ ((0 : Nat) = (0 : Nat) ∧ List.length s = List.length s ∧ (List.length s).le (List.length s)) ∧ (↑(List.length s) : Int) = (↑(List.length s) : Int) ∧ (↑x.val : Int) = (0 : Int) ∧ True) ∧ o5 s = o5 ([] ++ s) ∧ True) ∧ ∀ (x : { i : Nat // i ≤ List.length s }), branch (decide ((↑x.val : Int) < (↑(List.length s) : Int))) (branch (decide ((↑x.val : Int) < (↑(List.length s) : Int))) (branch (((0 : Nat) + (↑x.val : Int).toNat).blt (List.length s)) (branch (decide (IntKind.u8.wrap ((↑(UInt8.toNat (List.getD s ((0 : Nat) + (↑x.val : Int).toNat) (OfNat.ofNat (0 : Nat)))) : Int) - (48 : Int)) > (9 : Int))) False (∃ (x' : { i : Nat // i ≤ List.length s }), List.length s - x'.val < List.length s - x.val ∧ (s = s ∧ valM (List.take x'.val s) = IntKind.i64.wrap (IntKind.i64.wrap (valM (List.take x.val s) * (10 : Int)) + IntKind.i64.wrap (IntKind.u8.wrap
 ((↑(UInt8.toNat (List.getD s ((0 : Nat) + (↑x.val : Int).toNat) (OfNat.ofNat (0 : Nat)))) : Int) - (48 : Int)))) ∧ ((0 : Nat) = (0 : Nat) ∧ List.length s = List.length s ∧ (List.length s).le (List.length s)) ∧ (↑(List.length s) : Int) = (↑(List.length s) : Int) ∧ (↑x'.val : Int) = IntKind.i64.wrap ((↑x.val : Int) + (1 : Int)) ∧ True) ∧ o5 s = o5 s ∧ True)) False) False) (branch (decide ((0 : Int) < (↑(List.length s) : Int))) (branch ((↑(List.getD s (0 : Nat) (OfNat.ofNat (0 : Nat))).toNat : Int) == (45 : Int)) ((valM s = IntKind.i64.wrap ((0 : Int) - valM (List.take x.val s)) ∧ niliD = D.nili ∧ True) ∧ True) ((valM s = valM (List.take x.val s) ∧ niliD = D.nili ∧ True) ∧ True)) False)) False)) False)) False) False) False) := by kernel_rfl

end Go.Proofs.YtaonjbojhikndaaDoor

namespace Go.Proofs.YtaonjbojhikndaaDoor
open Go Go.W
set_option maxRecDepth 100000

theorem bF {a b : Int} (h : a ≠ b) : (a == b) = false := beq_eq_false_iff_ne.2 h
theorem dF {p : Prop} [Decidable p] (h : ¬ p) : decide p = false := decide_eq_false h
structure NumOk (s : B) : Prop where
  l1 : 1 ≤ s.length
  l7 : s.length ≤ 7
  dig : ∀ i, i < s.length → 48 ≤ ((s.getD i 0).toNat : Int) ∧ ((s.getD i 0).toNat : Int) ≤ 57
theorem num_ok {s : B} (h : okNum s = true) : NumOk s := by
  simp only [okNum, Bool.and_eq_true] at h
  refine ⟨Nat.le_of_ble_eq_true h.1.1, Nat.le_of_ble_eq_true h.1.2, fun i hi => ?_⟩
  have := List.all_eq_true.1 h.2 (s[i]) (List.getElem_mem hi)
  unfold isD digI at this
  simp only [Bool.and_eq_true, decide_eq_true_eq] at this
  simpa [List.getD, hi] using this
theorem val_succ {s : B} {i : Nat} (h : i < s.length) : valM (s.take (i + 1)) = valM (s.take i) * 10 + (((s.getD i 0).toNat : Int) - 48) := by
  rw [List.take_succ_eq_append_getElem h]
  unfold valM
  rw [List.foldl_append]
  simp [List.getD, h]
theorem pow_step (i : Nat) : (10 : Int) ^ (i + 1) = 10 ^ i * 10 := Int.pow_succ 10 i
theorem val_bound {s : B} (hs : NumOk s) : ∀ i, i ≤ s.length → 0 ≤ valM (s.take i) ∧ valM (s.take i) < 10 ^ i
  | 0, _ => by simp [valM]
  | i + 1, h => by
    obtain ⟨h1, h2⟩ := val_bound hs i (by omega)
    have h3 := hs.dig i (by omega)
    rw [val_succ (by omega), pow_step]
    omega
theorem pow_le {i : Nat} (h : i ≤ 7) : (10 : Int) ^ i ≤ 10000000 := by
  have : i = 0 ∨ i = 1 ∨ i = 2 ∨ i = 3 ∨ i = 4 ∨ i = 5 ∨ i = 6 ∨ i = 7 := by omega
  rcases this with h | h | h | h | h | h | h | h <;> subst h <;> decide

theorem ok75 (s : B) (hp : S75.pre s = true) : OwesN e5 75 S75 (fun _ => []) (L75 s) noJ () s := by
  refine OwesN.mk ?_
  rw [v75]
  have h := num_ok hp
  have h1 := h.l1
  have h7 := h.l7
  have h0 := h.dig 0 (by omega)
  refine brT (dT (by omega)) (brT (dT (by omega)) (brT (dT (by omega)) (brF (bF (show ((s.getD 0 0).toNat : Int) ≠ 45 by omega)) (brT (dT (by omega)) (brF (bF (show ((s.getD 0 0).toNat : Int) ≠ 43 by omega)) ?_)))))
  refine brT (Nat.ble_eq_true_of_le (by omega)) ⟨⟨⟨0, Nat.zero_le _⟩, ⟨rfl, rfl, ⟨rfl, rfl, Nat.le_refl _⟩, rfl, rfl, trivial⟩, rfl, trivial⟩, fun x => ?_⟩
  have hi := x.2
  have hb := val_bound h x.1 hi
  have hpw := pow_le (i := x.1) (by omega)
  refine br (fun hlt => ?_) (fun hge => ?_)
  · have hlt : x.1 < s.length := by simpa using hlt
    have hd := h.dig x.1 hlt
    have e : 0 + ((x.1 : Int)).toNat = x.1 := by simp
    rw [e]
    have w1 : IntKind.u8.wrap (((s.getD x.1 0).toNat : Int) - 48) = ((s.getD x.1 0).toNat : Int) - 48 := by
      rw [IntWalk.u8_in _ (by omega)]
    rw [w1]
    refine brT (dT (by omega)) (brT (by simp; omega) (brF (dF (by omega)) ?_))
    refine ⟨⟨x.1 + 1, by omega⟩, ?_, ⟨rfl, ?_, ⟨rfl, rfl, Nat.le_refl _⟩, rfl, ?_, trivial⟩, rfl, trivial⟩
    · show s.length - (x.1 + 1) < _; omega
    · show valM (s.take (x.1 + 1)) = _
      rw [val_succ hlt, wrap_id (n := valM _ * 10) (by omega) (by omega), wrap_id (n := ((s.getD x.1 0).toNat : Int) - 48) (by omega) (by omega), wrap_id (by omega) (by omega)]
    · show ((x.1 + 1 : Nat) : Int) = _; rw [wrap_id] <;> omega
  · have hge : s.length ≤ x.1 := by simpa using hge
    refine brT (dT (by omega)) (brF (bF (show ((s.getD 0 0).toNat : Int) ≠ 45 by omega)) ⟨⟨?_, rfl, trivial⟩, trivial⟩)
    rw [List.take_of_length_le hge]
theorem k75 : SpecOk Tryd.prog 75 S75 := spec_loopN e5_sound (by kernel_rfl) (fun _ _ => []) L75 (fun _ => noJ) (fun _ => ()) ok75
theorem a75 : RowOK 75 (S75.con M75) := Spec.con_ok k75 M75 (fun _ => Nat.le_of_ble_eq_true rfl)
end Go.Proofs.YtaonjbojhikndaaDoor
