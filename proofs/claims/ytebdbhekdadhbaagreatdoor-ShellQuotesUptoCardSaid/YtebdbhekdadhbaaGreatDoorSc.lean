/- Words and quotes: forms of contracts, states of loops. No conditions. -/
import Derived.Test.YtebdbhekdadhbaaGreatDoorSb
import Derived.Test.YtebdbhekdadhbaaGreatDoorSa
namespace Go.Proofs.YtebdbhekdadhbaaGreatDoor
open Go Go.W
set_option maxRecDepth 100000
theorem brT {b : Bool} {x y : Prop} (h : b = true) (hx : x) : branch b x y := by subst h; exact hx
theorem brF {b : Bool} {x y : Prop} (h : b = false) (hy : y) : branch b x y := by subst h; exact hy
theorem br {b : Bool} {x y : Prop} (h1 : b = true → x) (h2 : b = false → y) : branch b x y := by cases b <;> simp_all [branch]
theorem dT {p : Prop} [Decidable p] (h : p) : decide p = true := decide_eq_true h
theorem dF {p : Prop} [Decidable p] (h : ¬ p) : decide p = false := decide_eq_false h
theorem bF {a b : Int} (h : a ≠ b) : (a == b) = false := beq_eq_false_iff_ne.2 h
/-- A contract of a text. -/
def SB (pre : B → Bool) (out : B → QO) : Go.W.Spec regK.T := ⟨B, fun s => [ks s], fun _ => [], pre, out⟩
def MB (pre : B → Bool) (out : B → QO) : Meet (SB pre out) where
  find args _ := match args with | [.d (.str s)] => some (s, []) | _ => none
  ok args g a ρ h := by
    split at h
    · cases h
      exact ⟨⟨cov_s _ _, trivial⟩, rfl, fun j o' hj => by simp [SB] at hj⟩
    · cases h
/-- A contract of bytes. -/
def SD (pre : List Int → Bool) (out : List Int → QO) : Go.W.Spec regK.T := ⟨List Int, fun s => [.d (.sl 5 s)], fun _ => [], pre, out⟩
def MD (pre : List Int → Bool) (out : List Int → QO) : Meet (SD pre out) where
  find args _ := match args with | [.d (.sl 5 s)] => some (s, []) | _ => none
  ok args g a ρ h := by
    split at h
    · cases h
      exact ⟨⟨rfl, trivial⟩, rfl, fun j o' hj => by simp [SD] at hj⟩
    · cases h
/-! ### A digit -/
structure AU where
  c : Nat
def AU.fine (a : AU) : Bool := Nat.blt a.c 256
def hexI (c : UInt8) : Int := match hexN c with | some k => (k : Int) | none => -1
def SH : Go.W.Spec regK.T := ⟨AU, fun a => [.d (.int .u8 (a.c : Int))], fun _ => [], AU.fine, fun a => .ret (ki (hexI (UInt8.ofNat a.c)), [])⟩
def MH : Meet SH where
  find args _ := match args with | [.d (.int .u8 (.ofNat c))] => some (⟨c⟩, []) | _ => none
  ok args g a ρ h := by
    split at h
    · cases h
      exact ⟨⟨(must_iff _ _).2 ⟨rfl, rfl⟩, trivial⟩, rfl, fun j o' hj => by simp [SH] at hj⟩
    · cases h
/-! ### A byte of a quoted word -/
def pE (s : B) : Bool := Nat.ble 1 s.length && sm s
def sE (s : B) : QO := .ret (.tup [ku (escM s).1, ki ((escM s).2 : Nat)], [])
/-! ### A quoted word -/
def quotV (s : B) : B × Int × Bool := match quotedM s with | some (w, n) => (w, (n : Int), true) | none => ([], 0, false)
def sQ (s : B) : QO := .ret (.tup [ks (quotV s).1, ki (quotV s).2.1, kb (quotV s).2.2], [])
def KE : Con regK.T := fun f => lookN [(17, (SB pE sE).con (MB pE sE))] f
noncomputable def eE : Hd regK.T := hdT regK Tryz.prog KE (fun _ => false) 1000 5
structure RQ where
  i : Nat
  b : B
structure PQ (s : B) (x : RQ) : Prop where
  i : x.i ≤ s.length
  l : x.b.length ≤ x.i
  go : quotedM s = quotR (s.drop x.i) x.i x.b
def LQ (s : B) (_ : Nat) (k : Nat) (_ : St regK.T) : Option (LoopI regK.T Nat) := match Nat.beq k 3 with
  | true => some ⟨{ x : RQ // PQ s x }, fun x => ⟨[(0, ks s), (5, .sl 0 0 x.1.b.length (.least 0)), (6, ki (x.1.i : Nat))], [(0, .trows 5 (up x.1.b))], 1⟩, fun x => s.length - x.1.i, fun _ => 0⟩
  | false => none
def AQ (k : Nat) : List Tgt := (lookN [(1, [.nslot 5 5])] k).getD []
/-! ### A quoted word, the document's -/
structure AR where
  s : B
  p : Nat
def AR.fine (a : AR) : Bool := sm a.s && Nat.blt a.p a.s.length
def quotW (s : B) (p : Nat) : B × Int := match quotedM (s.drop (p + 1)) with | some (w, n) => (w, ((p + 1 + n : Nat) : Int)) | none => ([], -1)
def SR : Go.W.Spec regK.T := ⟨AR, fun a => [ks a.s, ki (a.p : Nat)], fun _ => [], AR.fine, fun a => .ret (.tup [ks (quotW a.s a.p).1, ki (quotW a.s a.p).2], [])⟩
def MR : Meet SR where
  find args _ := match args with | [.d (.str s), .d (.int .i64 (.ofNat p))] => some (⟨s, p⟩, []) | _ => none
  ok args g a ρ h := by
    split at h
    · cases h
      exact ⟨⟨cov_s _ _, (must_iff _ _).2 ⟨rfl, rfl⟩, trivial⟩, rfl, fun j o' hj => by simp [SR] at hj⟩
    · cases h
def KH : Con regK.T := fun f => lookN [(18, SH.con MH)] f
noncomputable def eH : Hd regK.T := hdT regK Tryz.prog KH (fun _ => false) 1000 5
structure PR (a : AR) (x : RQ) : Prop where
  lo : a.p + 1 ≤ x.i
  i : x.i ≤ a.s.length
  l : x.b.length ≤ x.i
  go : quotedM (a.s.drop (a.p + 1)) = quotR (a.s.drop x.i) (x.i - (a.p + 1)) x.b
def LR (a : AR) (_ : Nat) (k : Nat) (_ : St regK.T) : Option (LoopI regK.T Nat) := match Nat.beq k 3 with
  | true => some ⟨{ x : RQ // PR a x }, fun x => ⟨[(0, ks a.s), (1, ki (x.1.i : Nat)), (6, .sl 0 0 x.1.b.length (.least 0))], [(0, .trows 5 (up x.1.b))], 1⟩, fun x => a.s.length - x.1.i, fun _ => 0⟩
  | false => none
def AQ2 (k : Nat) : List Tgt := (lookN [(1, [.nslot 6 5])] k).getD []
/-! ### Words -/
def sW (s : B) : QO := .br (lineM s).isSome (.ret (.tup [.d (.sl 9 ((lineM s).getD [])), ki 0], [])) (.ret (.tup [.d .nils, ki 6], []))
def KQ : Con regK.T := fun f => lookN [(11, (SB sm sQ).con (MB sm sQ))] f
noncomputable def eQ : Hd regK.T := hdT regK Tryz.prog KQ (fun _ => false) 1000 5
structure RW' where
  i : Nat
  l : List B
structure PW (s : B) (x : RW') : Prop where
  i : x.i ≤ s.length
  l : x.l.length ≤ x.i
  go : lineM s = wordR (s.drop x.i) x.l
structure RI where
  p : Nat
  i : Nat
  l : List B
/-- Within a word that began at p; the line's place was g. -/
structure PI (s : B) (g : Nat) (x : RI) : Prop where
  g : g ≤ x.p
  p : x.p ≤ x.i
  i : x.i ≤ s.length
  q : x.p < s.length
  l : x.l.length ≤ x.p
  go : lineM s = wordR (s.drop x.p) x.l
  b : isBl (s.getD x.p 0) = false
  h : s.getD x.p 0 ≠ 35
  qu : s.getD x.p 0 ≠ 34
  all : ∀ j, x.p ≤ j → j < x.i → nonBl (s.getD j 0) = true ∧ s.getD j 0 ≠ 34
def LW (s : B) (g : Nat) (k : Nat) (_ : St regK.T) : Option (LoopI regK.T Nat) := match Nat.beq k 3 with
  | true => some ⟨{ x : RW' // PW s x }, fun x => ⟨[(0, ks s), (4, .sl 0 0 x.1.l.length (.least 0)), (5, ki (x.1.i : Nat))], [(0, .trows 9 x.1.l)], 1⟩, fun x => s.length - x.1.i, fun x => x.1.i⟩
  | false => match Nat.beq k 14 with
    | true => some ⟨{ x : RI // PI s g x }, fun x => ⟨[(0, ks s), (4, .sl 0 0 x.1.l.length (.least 0)), (5, ki (x.1.i : Nat)), (9, ki (x.1.p : Nat))], [(0, .trows 9 x.1.l)], 1⟩, fun x => s.length - x.1.i, fun _ => 0⟩
    | false => none
def AW (k : Nat) : List Tgt := (lookN [(1, [.nslot 4 9])] k).getD []
/-! ### Words, the document's -/
def KR : Con regK.T := fun f => lookN [(12, SR.con MR)] f
noncomputable def eR : Hd regK.T := hdT regK Tryz.prog KR (fun _ => false) 1000 5
structure PV (s : B) (g : Nat) (x : RW') : Prop where
  g : g ≤ x.i
  i : x.i ≤ s.length
  l : x.l.length ≤ x.i
  go : lineM s = wordR (s.drop x.i) x.l
def LV (s : B) (g : Option Nat) (k : Nat) (_ : St regK.T) : Option (LoopI regK.T (Option Nat)) := match Nat.beq k 3 with
  | true => (match g with
    | none => some ⟨{ x : RW' // PW s x }, fun x => ⟨[(0, ks s), (4, .sl 0 0 x.1.l.length (.least 0)), (5, ki (x.1.i : Nat))], [(0, .trows 9 x.1.l)], 1⟩, fun x => s.length - x.1.i, fun x => some x.1.i⟩
    | some i0 => some ⟨{ x : RW' // PV s i0 x }, fun x => ⟨[(0, ks s), (4, .sl 0 0 x.1.l.length (.least 0)), (5, ki (x.1.i : Nat))], [(0, .trows 9 x.1.l)], 1⟩, fun x => s.length - x.1.i, fun _ => none⟩)
  | false => match Nat.beq k 14 with
    | true => some ⟨{ x : RI // PI s (g.getD 0) x }, fun x => ⟨[(0, ks s), (4, .sl 0 0 x.1.l.length (.least 0)), (5, ki (x.1.i : Nat)), (8, ki (x.1.p : Nat))], [(0, .trows 9 x.1.l)], 1⟩, fun x => s.length - x.1.i, fun _ => none⟩
    | false => none
/-! ### Quotes -/
def isU8 (n : Int) : Bool := decide (0 ≤ n) && decide (n < 256)
def smq (s : List Int) : Bool := Nat.ble s.length 2000000 && s.all isU8
theorem smq_le {s : List Int} (h : smq s = true) : s.length ≤ 2000000 ∧ ∃ b : B, s = up b := by
  simp only [smq, Bool.and_eq_true] at h
  refine ⟨Nat.le_of_ble_eq_true h.1, dn s, ?_⟩
  unfold up dn
  rw [List.map_map]
  conv => lhs; rw [← List.map_id s]
  apply List.map_congr_left
  intro n hn
  have := List.all_eq_true.1 h.2 n hn
  simp only [isU8, Bool.and_eq_true, decide_eq_true_eq] at this
  show n = ((UInt8.ofNat n.toNat).toNat : Int)
  rw [UInt8.toNat_ofNat_of_lt' (by show n.toNat < 256; omega)]
  omega
def quoteT (b : B) : B := match b with | [] => [34, 34] | c :: r => 34 :: qbs (c :: r) ++ [34]
theorem quoteT_eq (b : B) : quoteT b = quoteM b := by cases b <;> rfl
def sU (s : List Int) : QO := .ret (ks (quoteT (dn s)), [])
def hexS : B := [48, 49, 50, 51, 52, 53, 54, 55, 56, 57, 97, 98, 99, 100, 101, 102]
def outU (b : B) (i : Nat) : B := match b.take i with | [] => [34] | c :: r => 34 :: qbs (c :: r)
theorem outU_eq (b : B) (i : Nat) : outU b i = 34 :: qbs (b.take i) := by
  unfold outU
  split
  · rename_i h; rw [h]; rfl
  · rename_i h; rw [h]
def LU (s : List Int) (_ : Nat) (k : Nat) (_ : St regK.T) : Option (LoopI regK.T Nat) := match Nat.beq k 3 with
  | true => some ⟨{ i : Nat // i ≤ s.length }, fun i => ⟨[(3, .sl 0 0 (outU (dn s) i.1).length (.least 0)), (7, .d (.sl 5 s)), (8, ki (s.length : Nat)), (9, ki (i.1 : Nat))], [(0, .trows 5 (up (outU (dn s) i.1)))], 1⟩, fun i => s.length - i.1, fun _ => 0⟩
  | false => none
def LX (s : List Int) (_ : Nat) (k : Nat) (_ : St regK.T) : Option (LoopI regK.T Nat) := match Nat.beq k 4 with
  | true => some ⟨{ i : Nat // i ≤ s.length }, fun i => ⟨[(0, .d (.sl 5 s)), (3, ks hexS), (4, .sl 0 0 (outU (dn s) i.1).length (.least 0)), (5, ki (i.1 : Nat))], [(0, .trows 5 (up (outU (dn s) i.1)))], 1⟩, fun i => s.length - i.1, fun _ => 0⟩
  | false => none
def noA (_ : Nat) : List Tgt := []
end Go.Proofs.YtebdbhekdadhbaaGreatDoor
