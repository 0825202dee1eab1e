/- The reference's reader of lines: forms. No conditions. -/
import Derived.Test.YtaonjbojhikndaaDoorHa
namespace Go.Proofs.YtaonjbojhikndaaDoor
open Go Go.W
set_option maxRecDepth 100000
/-! ### cut -/
def trimE : List B → List B
  | [] => []
  | [p] => bif p == [] then [] else [p]
  | p :: q :: l => p :: trimE (q :: l)
theorem trimE_snoc : ∀ (l : List B) (x : B), trimE (l ++ [x]) = l ++ (bif x == [] then [] else [x])
  | [], x => rfl
  | [p], x => rfl
  | p :: q :: l, x => by
    show p :: trimE ((q :: l) ++ [x]) = _
    rw [trimE_snoc (q :: l) x]; rfl
def cutR (c : UInt8) (s : B) : List B := trimE (splitM c s)
theorem split_first {c : UInt8} : ∀ {l : B} {m : Nat}, m < l.length → l.getD m 0 = c → (∀ j, j < m → l.getD j 0 ≠ c) → splitM c l = l.take m :: splitM c (l.drop (m + 1))
  | [], m, h, _, _ => by simp at h
  | x :: l, 0, _, h, _ => by
    have h : x = c := by simpa using h
    conv => lhs; unfold splitM
    rw [beq_iff_eq.2 h, cond_true]
    rfl
  | x :: l, m + 1, h1, h2, h3 => by
    have hx : (x == c) = false := beq_eq_false_iff_ne.2 (by simpa using h3 0 (by omega))
    conv => lhs; unfold splitM
    rw [hx, split_first (l := l) (m := m) (by simpa using h1) (by simpa using h2) (fun j hj => by simpa using h3 (j + 1) (by omega))]
    rfl
theorem split_last {c : UInt8} : ∀ {l : B}, (∀ j, j < l.length → l.getD j 0 ≠ c) → splitM c l = [l]
  | [], _ => rfl
  | x :: l, h => by
    have hx : (x == c) = false := beq_eq_false_iff_ne.2 (by simpa using h 0 (by simp))
    unfold splitM
    rw [hx, split_last (l := l) (fun j hj => by simpa using h (j + 1) (by simpa using hj))]
    rfl
structure AC where
  s : B
  c : Nat
def AC.fine (a : AC) : Bool := Nat.blt a.c 256 && sm a.s
def S30 : Go.W.Spec regK.T := ⟨AC, fun a => [ks a.s, .d (.int .u8 (a.c : Int))], fun _ => [], AC.fine, fun a => .ret (.d (.sl 9 (cutR (UInt8.ofNat a.c) a.s)), [])⟩
def M30 : Meet S30 where
  find args _ := match args with | [.d (.str s), .d (.int .u8 (.ofNat c))] => some (⟨s, c⟩, []) | _ => none
  ok args g a ρ h := by
    split at h
    · cases h
      exact ⟨⟨cov_s _ _, (must_iff _ _).2 ⟨rfl, rfl⟩, trivial⟩, rfl, fun j o' hj => by simp [S30] at hj⟩
    · cases h
structure R30 where
  l : List B
  p : Nat
  i : Nat
structure P30 (a : AC) (x : R30) : Prop where
  le : x.p ≤ x.i
  i : x.i ≤ a.s.length
  l : x.l.length ≤ x.p
  go : splitM (UInt8.ofNat a.c) a.s = x.l ++ splitM (UInt8.ofNat a.c) (a.s.drop x.p)
  no : ∀ j, x.p ≤ j → j < x.i → a.s.getD j 0 ≠ UInt8.ofNat a.c
def L30 (a : AC) (_ : Unit) (k : Nat) (_ : St regK.T) : Option (LoopI regK.T Unit) := match Nat.beq k 4 with
  | true => some ⟨{ x : R30 // P30 a x }, fun x => ⟨[(0, ks a.s), (1, .d (.int .u8 (a.c : Int))), (5, .sl 0 0 x.1.l.length (.least 0)), (6, ki (x.1.p : Nat)), (7, ki (x.1.i : Nat))], [(0, .trows 9 x.1.l)], 1⟩, fun x => a.s.length - x.1.i, fun _ => ()⟩
  | false => none
def A30 (k : Nat) : List Tgt := (lookN [(3, [.nslot 5 9])] k).getD []
/-! ### words -/
def K21 : Con regK.T := fun f => lookN [(30, S30.con M30)] f
noncomputable def e21 : Hd regK.T := hdT regK Tryd.prog K21 (fun _ => false) 1000 5
def L31 (s : B) (_ : Unit) (k : Nat) (_ : St regK.T) : Option (LoopI regK.T Unit) := match Nat.beq k 4 with
  | true => some ⟨{ i : Nat // i ≤ (cutR 32 s).length }, fun i => ⟨[(0, ks s), (3, .sl 0 0 (keep ((cutR 32 s).take i.1)).length (.least 0)), (4, .d (.sl 9 (cutR 32 s))), (5, ki (i.1 : Nat))], [(0, .trows 9 (keep ((cutR 32 s).take i.1)))], 1⟩, fun i => (cutR 32 s).length - i.1, fun _ => ()⟩
  | false => none
def A31 (k : Nat) : List Tgt := (lookN [(3, [.nslot 3 9])] k).getD []
/-! ### number -/
def L44 (s : B) (_ : Unit) (k : Nat) (_ : St regK.T) : Option (LoopI regK.T Unit) := match Nat.beq k 5 with
  | true => some ⟨{ i : Nat // i ≤ s.length ∧ 1 ≤ s.length ∧ s.length ≤ 7 ∧ zeroLed s = false ∧ allD (s.take i) = true }, fun i => ⟨[(0, ks s), (4, ki (valM (s.take i.1))), (5, ki (i.1 : Nat))], [], 0⟩, fun i => s.length - i.1, fun _ => ()⟩
  | false => none
/-! ### share -/
def K22 : Con regK.T := fun f => lookN [(44, (SB sm s47).con (MB sm s47))] f
noncomputable def e22 : Hd regK.T := hdT regK Tryd.prog K22 (fun _ => false) 1000 5
def shareR (s : B) : Cp × Bool := bif (cutM s).2.2 then shareM s else (⟨0, 0⟩, false)
def s45 (s : B) : QO := .ret (.tup [.agg [ki (shareR s).1.least, ki (shareR s).1.most], kb (shareR s).2], [])
def L45 (s : B) (_ : Unit) (k : Nat) (_ : St regK.T) : Option (LoopI regK.T Unit) := match Nat.beq k 2 with
  | true => some ⟨{ i : Nat // i ≤ s.length ∧ ∀ j, j < i → s.getD j 0 ≠ 47 }, fun i => ⟨[(0, ks s), (2, .ptr 0 0 0), (4, ki (i.1 : Nat))], [(0, .rows 2 [[ki 0, ki 0]])], 1⟩, fun i => s.length - i.1, fun _ => ()⟩
  | false => none
/-! ### queue -/
def K23 : Con regK.T := fun f => lookN [(44, (SB sm s47).con (MB sm s47)), (45, (SB sm s45).con (MB sm s45))] f
noncomputable def e23 : Hd regK.T := hdT regK Tryd.prog K23 (fun _ => false) 1000 5
def capsR : Bool → List B → List Cp × Bool
  | ok, [] => ([], ok)
  | false, _ => ([], false)
  | true, x :: l => ((shareR x).1 :: (capsR (shareR x).2 l).1, (capsR (shareR x).2 l).2)
structure AW where
  w : List B
  n : Int
def AW.fine (a : AW) : Bool := small (a.w.length + 1) && decide (0 ≤ a.n) && decide (a.n ≤ 1000000) && a.w.all sm
def queueR (w : List B) (n : Int) : Qu × Bool :=
  bif decide ((w.length : Int) = 3 + n) && w.getD 0 [] == wQueue then (⟨w.getD 1 [], (capsR (numM (w.getD 2 [])).2 (w.drop 3)).1, (numM (w.getD 2 [])).1⟩, (capsR (numM (w.getD 2 [])).2 (w.drop 3)).2) else (⟨[], [], 0⟩, false)
def S32 : Go.W.Spec regK.T := ⟨AW, fun a => [.d (.sl 9 a.w), ki a.n], fun _ => [], AW.fine, fun a => .ret (.tup [.agg [ks (queueR a.w a.n).1.path, .d (.sl 48 (queueR a.w a.n).1.caps), ki (queueR a.w a.n).1.user], kb (queueR a.w a.n).2], [])⟩
def M32 : Meet S32 where
  find args _ := match args with | [.d (.sl 9 w), .d (.int .i64 n)] => some (⟨w, n⟩, []) | _ => none
  ok args g a ρ h := by
    split at h
    · cases h
      exact ⟨⟨rfl, cov_i' _ _, trivial⟩, rfl, fun j o' hj => by simp [S32] at hj⟩
    · cases h
structure R32 where
  i : Nat
  cs : List Cp
  ok : Bool
structure P32 (a : AW) (x : R32) : Prop where
  lo : 3 ≤ x.i
  hi : x.i ≤ a.w.length
  l : x.cs.length ≤ x.i
  w : (a.w.length : Int) = 3 + a.n
  q : (a.w.getD 0 [] == wQueue) = true
  go : capsR (numM (a.w.getD 2 [])).2 (a.w.drop 3) = (x.cs ++ (capsR x.ok (a.w.drop x.i)).1, (capsR x.ok (a.w.drop x.i)).2)
def row46 : OK := .rows 3 [[ks [], .d .nils, ki 0]]
def L32 (a : AW) (_ : Unit) (k : Nat) (_ : St regK.T) : Option (LoopI regK.T Unit) := match Nat.beq k 6 with
  | true => some ⟨{ x : R32 // P32 a x }, fun x => ⟨[(0, .d (.sl 9 a.w)), (4, .ptr 0 0 0), (7, kb x.1.ok), (8, .ptr 1 0 0), (9, ki (x.1.i : Nat))],
      [(0, .rows 3 [[ks [], .d .nils, ki 0]]), (1, .rows 3 [[ks (a.w.getD 1 []), .sl 2 0 x.1.cs.length (.least 0), ki (numM (a.w.getD 2 [])).1]]), (2, .trows 48 x.1.cs)], 3⟩, fun x => a.w.length - x.1.i, fun _ => ()⟩
  | false => none
def A32 (k : Nat) : List Tgt := (lookN [(5, [.ncell 1 0 1 48])] k).getD []
end Go.Proofs.YtaonjbojhikndaaDoor
