/- Conf: Parse. No conditions. -/
import Derived.Test.YtaonjbojhikndaaDoorFe
namespace Go.Proofs.YtaonjbojhikndaaDoor
open Go Go.W
set_option maxRecDepth 100000

structure AM where
  o : AO
  m : Int
def AM.fine (a : AM) : Bool := decide (a.m = (a.o.n : Int)) && a.o.fine
def S53n : Go.W.Spec regK.T := ⟨AM, fun a => [.sl 0 0 a.o.n (.least 0), ki 0, ki a.m, .fn 28 [] []], fun a => [.trows 46 a.o.xs], AM.fine, fun a => S53.out a.o⟩
theorem k53n : SpecOk Tryd.prog 53 S53n := by
  refine ⟨k53.1, fun x hp => ?_⟩
  obtain ⟨a, m⟩ := x
  have hp : (AM.mk a m).fine = true := hp
  simp only [AM.fine, Bool.and_eq_true] at hp
  have hm : m = (a.n : Int) := of_decide_eq_true hp.1
  subst hm
  exact k53.2 a hp.2
/-- A slice of queues, a length. -/
def readM (args : List VK) (g : Nat → Option OK) : Option (AM × Nat) := match args with
  | [.sl i 0 n _, .d (.int .i64 0), .d (.int .i64 m), .fn 28 [] []] => (match g i with
    | some (.trows 46 qs) => some (⟨⟨qs, n⟩, m⟩, i)
    | _ => none)
  | _ => none
theorem meet_M {args : List VK} {g : Nat → Option OK} {x : AM} {i : Nat} (h : readM args g = some (x, i)) :
    covV.goL (at0 0 [i]) [.sl 0 0 x.o.n (.least 0), ki 0, ki x.m, .fn 28 [] []] args ∧ [i].length = 1 ∧ ∀ (j : Nat) (o' : OK), ([.trows 46 x.o.xs] : List OK)[j]? = some o' → ∃ (k : Nat) (u : OK), ([i] : List Nat)[j]? = some k ∧ g k = some u ∧ covO (at0 0 [i]) o' u := by
  unfold readM at h
  split at h
  · split at h
    · rename_i hg
      cases h
      refine ⟨⟨(must_iff _ _).2 ⟨Nat.beq_refl i, rfl, rfl, cap0 _⟩, rfl, rfl, (must_iff _ _).2 ⟨rfl, trivial, trivial⟩, trivial⟩, rfl, fun j o' hj => ?_⟩
      match j, hj with
      | 0, hj =>
        simp only [List.getElem?_cons_zero, Option.some.injEq] at hj; subst hj
        exact ⟨i, _, rfl, hg, rfl⟩
      | j + 1, hj => simp at hj
    · cases h
  · cases h
def M53 : Meet S53n where
  find args g := match readM args g with | some (x, i) => some (x, [i]) | none => none
  ok args g a ρ h := by
    split at h
    · rename_i x i hr
      cases h
      exact meet_M hr
    · cases h
theorem a53 : RowOK 53 (S53n.con M53) := Spec.con_ok k53n M53 (fun _ => Nat.le_of_ble_eq_true rfl)
def K12 : Con regK.T := fun f => lookN [(53, S53n.con M53), (54, uBad)] f
theorem K12_ok : ConOk Tryd.prog K12 := con_cons a53 (con_cons (aBad 54) con_nil)
noncomputable def e12 : Hd regK.T := hdT regK Tryd.prog K12 (fun _ => false) 1000 5
theorem e12_sound : HdSound Tryd.prog e12 := hdT_sound mixed hno K12_ok _ _ _
def fine16 (a : AM) : Bool := Nat.ble a.o.n 16 && a.fine
def S42 : Go.W.Spec regK.T := ⟨AM, fun a => [.sl 0 0 a.o.n (.least 0), ki a.m, .fn 28 [] []], fun a => [.trows 46 a.o.xs], fine16, fun a => S53.out a.o⟩
def L42 (a : AM) (_ : Unit) (k : Nat) (_ : St regK.T) : Option (LoopI regK.T Unit) := match Nat.beq k 2 with
  | true => some ⟨Nat, fun _ => ⟨[(0, .sl 0 0 a.o.n (.least 0)), (1, ki a.m), (2, .fn 28 [] []), (6, ki 20), (7, ki 0), (8, ki 20)], [(0, .trows 46 a.o.xs)], 1⟩, fun _ => 0, fun _ => ()⟩
  | false => (match Nat.beq k 7 with
    | true => some ⟨Nat, fun _ => ⟨[(0, .sl 0 0 a.o.n (.least 0)), (1, ki a.m), (2, .fn 28 [] []), (6, ki 20)], [(0, .trows 46 (orderM a.o.n a.o.xs))], 1⟩, fun _ => 0, fun _ => ()⟩
    | false => none)
def readN (args : List VK) (g : Nat → Option OK) : Option (AM × Nat) := match args with
  | [.sl i 0 n _, .d (.int .i64 m), .fn 28 [] []] => (match g i with
    | some (.trows 46 qs) => some (⟨⟨qs, n⟩, m⟩, i)
    | _ => none)
  | _ => none
theorem meet_N {args : List VK} {g : Nat → Option OK} {x : AM} {i : Nat} (h : readN args g = some (x, i)) :
    covV.goL (at0 0 [i]) [.sl 0 0 x.o.n (.least 0), ki x.m, .fn 28 [] []] args ∧ [i].length = 1 ∧ ∀ (j : Nat) (o' : OK), ([.trows 46 x.o.xs] : List OK)[j]? = some o' → ∃ (k : Nat) (u : OK), ([i] : List Nat)[j]? = some k ∧ g k = some u ∧ covO (at0 0 [i]) o' u := by
  unfold readN at h
  split at h
  · split at h
    · rename_i hg
      cases h
      refine ⟨⟨(must_iff _ _).2 ⟨Nat.beq_refl i, rfl, rfl, cap0 _⟩, rfl, (must_iff _ _).2 ⟨rfl, trivial, trivial⟩, trivial⟩, rfl, fun j o' hj => ?_⟩
      match j, hj with
      | 0, hj =>
        simp only [List.getElem?_cons_zero, Option.some.injEq] at hj; subst hj
        exact ⟨i, _, rfl, hg, rfl⟩
      | j + 1, hj => simp at hj
    · cases h
  · cases h
def M42 : Meet S42 where
  find args g := match readN args g with | some (x, i) => some (x, [i]) | none => none
  ok args g a ρ h := by
    split at h
    · rename_i x i hr
      cases h
      exact meet_N hr
    · cases h
end Go.Proofs.YtaonjbojhikndaaDoor

namespace Go.Proofs.YtaonjbojhikndaaDoor
open Go Go.W Go.Proofs
set_option maxRecDepth 100000
theorem v42 (a : AM) : (OwesDN e12 (42 : Nat) S42 (fun (_ : Nat) => []) (L42 a) noJ () a) = ( (∃ (x : Nat), (((0 : Nat) = (0 : Nat) ∧ a.o.n = a.o.n ∧ Nat.le (0 : Nat) (0 : Nat)) ∧ a.m = a.m ∧ (True ∧ True) ∧ (20 : Int) = (20 : Int) ∧ (0 : Int) = (0 : Int) ∧ (20 : Int) = (20 : Int) ∧ True) ∧ o46 a.o.xs = o46 a.o.xs ∧ True) ∧ ∀ (x : Nat), branch (decide ((20 : Int) ≤ a.m)) (branch (S53n.pre (AM.mk a.o (20 : Int))) (∃ (x' : Nat), (0 : Nat) < (0 : Nat) ∧ (((0 : Nat) = (0 : Nat) ∧ a.o.n = a.o.n ∧ Nat.le (0 : Nat) (0 : Nat)) ∧ a.m = a.m ∧ (True ∧ True) ∧ (20 : Int) = (20 : Int) ∧ (0 : Int) = (20 : Int) ∧ (20 : Int) = IntKind.i64.wrap ((20 : Int) + (20 : Int)) ∧ True) ∧ o46 a.o.xs = o46 (orderM a.o.n a.o.xs) ∧ True) False) (branch (S53n.pre a) ((∃ (x : Nat), (((0 : Nat) = (0 : Nat) ∧ a.o.n = a.o.n ∧ Nat.le (0 : Nat) (0 : Nat)) ∧ a.m = a.m ∧ (True ∧ True) ∧ (20 : Int) = (20 : Int) ∧ True) ∧ o46 (orderM a.o.n a.o.xs) = o46 (orderM a.o.n a.o.xs) ∧ True) ∧ ∀ (x : Nat), branch (decide ((20 : Int) < a.m)) (branch (decide (IntKind.i64.wrap ((2 : Int) * (20 : Int)) ≤ a.m)) False (branch (decide (IntKind.i64.wrap ((0 : Int) + (20 : Int)) < a.m)) False (∃ (x' : Nat), (0 : Nat) < (0 : Nat) ∧ (((0 : Nat) = (0 : Nat) ∧ a.o.n = a.o.n ∧ Nat.le (0 : Nat) (0 : Nat)) ∧ a.m = a.m ∧ (True ∧ True) ∧ (20 : Int) = IntKind.i64.wrap ((20 : Int) * (2 : Int)) ∧ True) ∧ o46 (orderM a.o.n a.o.xs) = o46 (orderM a.o.n a.o.xs) ∧ True))) (True ∧ o46 (orderM a.o.n a.o.xs) = o46 (orderM a.o.n a.o.xs) ∧ True)) False)) := by kernel_rfl

end Go.Proofs.YtaonjbojhikndaaDoor

namespace Go.Proofs.YtaonjbojhikndaaDoor
open Go Go.W
set_option maxRecDepth 100000
theorem ok42 (a : AM) (hp : S42.pre a = true) : OwesN e12 42 S42 (fun _ => []) (L42 a) noJ () a := by
  refine OwesN.mk ?_
  rw [v42]
  have hp : fine16 a = true := hp
  simp only [fine16, Bool.and_eq_true] at hp
  have hn := Nat.le_of_ble_eq_true hp.1
  have hf : S53n.pre a = true := hp.2
  have hm : a.m = (a.o.n : Int) := by
    have := hp.2
    simp only [AM.fine, Bool.and_eq_true] at this
    exact of_decide_eq_true this.1
  refine ⟨⟨0, ⟨⟨rfl, rfl, Nat.le_refl _⟩, rfl, ⟨trivial, trivial⟩, rfl, rfl, rfl, trivial⟩, rfl, trivial⟩, fun x => ?_⟩
  refine brF (dF (by omega)) (brT hf ?_)
  refine ⟨⟨0, ⟨⟨rfl, rfl, Nat.le_refl _⟩, rfl, ⟨trivial, trivial⟩, rfl, trivial⟩, rfl, trivial⟩, fun y => ?_⟩
  exact brF (dF (by omega)) ⟨trivial, rfl, trivial⟩
theorem k42 : SpecOk Tryd.prog 42 S42 := spec_loopN e12_sound (by kernel_rfl) (fun _ _ => []) L42 (fun _ => noJ) (fun _ => ()) ok42
theorem a42 : RowOK 42 (S42.con M42) := Spec.con_ok k42 M42 (fun _ => Nat.le_of_ble_eq_true rfl)
def K13 : Con regK.T := fun f => lookN [(42, S42.con M42)] f
theorem K13_ok : ConOk Tryd.prog K13 := con_cons a42 con_nil
noncomputable def e13 : Hd regK.T := hdT regK Tryd.prog K13 (fun _ => false) 1000 5
theorem e13_sound : HdSound Tryd.prog e13 := hdT_sound mixed hno K13_ok _ _ _
def fineO (a : AO) : Bool := Nat.ble a.n 16 && a.fine
def S27 : Go.W.Spec regK.T := ⟨AO, fun a => [.sl 0 0 a.n (.least 0), .fn 28 [] []], fun a => [.trows 46 a.xs], fineO, fun a => S53.out a⟩
def readO (args : List VK) (g : Nat → Option OK) : Option (AO × Nat) := match args with
  | [.sl i 0 n _, .fn 28 [] []] => (match g i with
    | some (.trows 46 qs) => some (⟨qs, n⟩, i)
    | _ => none)
  | _ => none
theorem meet_O {args : List VK} {g : Nat → Option OK} {x : AO} {i : Nat} (h : readO args g = some (x, i)) :
    covV.goL (at0 0 [i]) [.sl 0 0 x.n (.least 0), .fn 28 [] []] args ∧ [i].length = 1 ∧ ∀ (j : Nat) (o' : OK), ([.trows 46 x.xs] : List OK)[j]? = some o' → ∃ (k : Nat) (u : OK), ([i] : List Nat)[j]? = some k ∧ g k = some u ∧ covO (at0 0 [i]) o' u := by
  unfold readO at h
  split at h
  · split at h
    · rename_i hg
      cases h
      refine ⟨⟨(must_iff _ _).2 ⟨Nat.beq_refl i, rfl, rfl, cap0 _⟩, (must_iff _ _).2 ⟨rfl, trivial, trivial⟩, trivial⟩, rfl, fun j o' hj => ?_⟩
      match j, hj with
      | 0, hj =>
        simp only [List.getElem?_cons_zero, Option.some.injEq] at hj; subst hj
        exact ⟨i, _, rfl, hg, rfl⟩
      | j + 1, hj => simp at hj
    · cases h
  · cases h
def M27 : Meet S27 where
  find args g := match readO args g with | some (x, i) => some (x, [i]) | none => none
  ok args g a ρ h := by
    split at h
    · rename_i x i hr
      cases h
      exact meet_O hr
    · cases h
end Go.Proofs.YtaonjbojhikndaaDoor

namespace Go.Proofs.YtaonjbojhikndaaDoor
open Go Go.W Go.Proofs
set_option maxRecDepth 100000
theorem v27 (a : AO) : (OwesDN e13 (27 : Nat) S27 (fun (_ : Nat) => []) noL noJ () a) = ( branch (S42.pre (AM.mk a (↑a.n : Int))) (True ∧ o46 (orderM a.n a.xs) = o46 (orderM a.n a.xs) ∧ True) False) := by kernel_rfl

end Go.Proofs.YtaonjbojhikndaaDoor

namespace Go.Proofs.YtaonjbojhikndaaDoor
open Go Go.W
set_option maxRecDepth 100000
theorem ok27 (a : AO) (hp : S27.pre a = true) : OwesN e13 27 S27 (fun _ => []) noL noJ () a := by
  refine OwesN.mk ?_
  rw [v27]
  have hp : fineO a = true := hp
  simp only [fineO, Bool.and_eq_true] at hp
  refine brT ?_ ⟨trivial, rfl, trivial⟩
  show fine16 ⟨a, (a.n : Int)⟩ = true
  simp only [fine16, AM.fine, Bool.and_eq_true]
  exact ⟨hp.1, by trivial, hp.2⟩
theorem k27 : SpecOk Tryd.prog 27 S27 := spec_loopN e13_sound (by kernel_rfl) (fun _ _ => []) (fun _ => noL) (fun _ => noJ) (fun _ => ()) ok27
theorem a27 : RowOK 27 (S27.con M27) := Spec.con_ok k27 M27 (fun _ => Nat.le_of_ble_eq_true rfl)
def M24 : Meet S24 where
  find args g := match readR args g with | some (x, i, q) => some (x, [i, q]) | none => none
  ok args g a ρ h := by
    split at h
    · rename_i x i q hr
      cases h
      exact meet_R hr
    · cases h
theorem a24 : RowOK 24 (S24.con M24) := Spec.con_ok k24 M24 (fun _ => Nat.le_of_ble_eq_true rfl)
def K14 : Con regK.T := fun f => lookN [(24, S24.con M24), (26, (SB sm s26).con (MB sm s26)), (27, S27.con M27), (39, S39.con M39)] f
theorem K14_ok : ConOk Tryd.prog K14 := con_cons a24 (con_cons a26 (con_cons a27 (con_cons a39 con_nil)))
noncomputable def e14 : Hd regK.T := hdT regK Tryd.prog K14 (fun _ => false) 1000 5
theorem e14_sound : HdSound Tryd.prog e14 := hdT_sound mixed hno K14_ok _ _ _

/-! ### A text -/
def lineM (r : Rd) (w : List B) : Rd × Int :=
  bif decide (w.length = 0) then (r, 0)
  else bif !r.seen && w.getD 0 [] == wLabels then (bif decide (3 < w.length) then ({ r with seen := true }, 4) else ({ r with seen := true, labels := newL w }, 0))
  else bif !r.seen || w.getD 0 [] != wQueue then (r, 6)
  else bif decide ((r.qs.length : Int) ≥ 16) then (r, 4)
  else bif decide (w.length = 3 + r.labels.length) && oksM w (w.length - 3) then ({ r with qs := r.qs ++ [newQ w] }, 0) else (r, 6)
def runM : Rd → List B → Rd × Int
  | r, [] => (r, 0)
  | r, l :: ls => bif (lineM r (wordsM l)).2 == 0 then runM (lineM r (wordsM l)).1 ls else lineM r (wordsM l)
def dupTo (ys : List Qu) : Nat → Bool
  | 0 => false
  | k + 1 => dupTo ys k || (decide (0 < k) && (ys.getD (k - 1) qd).path == (ys.getD k qd).path)
structure PM where
  labels : List B
  qs : List Qu
  err : Int
def rd0 : Rd := ⟨[], [], false⟩
def textM (s : B) : List B := splitM 10 s
def ordM (r : Rd) : List Qu := orderM r.qs.length r.qs
def parseM (s : B) : PM :=
  bif decide ((s.length : Int) > 2000) then ⟨[], [], 5⟩
  else bif (runM rd0 (textM s)).2 != 0 then ⟨[], [], (runM rd0 (textM s)).2⟩
  else bif !(runM rd0 (textM s)).1.seen then ⟨[], [], 6⟩
  else bif dupTo (ordM (runM rd0 (textM s)).1) (runM rd0 (textM s)).1.qs.length then ⟨[], [], 7⟩
  else ⟨(runM rd0 (textM s)).1.labels, ordM (runM rd0 (textM s)).1, 0⟩
def S17 : Go.W.Spec regK.T := SB sm fun s => .ret (.tup [.agg [.d (.sl 9 (parseM s).labels), .d (.sl 46 (parseM s).qs)], ki (parseM s).err], [])
structure R17 where
  i : Nat
  r : Rd
structure P17 (s : B) (x : R17) : Prop where
  i : x.i ≤ (textM s).length
  l : x.r.labels.length ≤ 3
  q : x.r.qs.length ≤ 16
  go : runM x.r ((textM s).drop x.i) = runM rd0 (textM s)
structure R18 where
  j : Nat
  r : Rd
structure P18 (s : B) (x : R18) : Prop where
  j : x.j ≤ x.r.qs.length
  q : x.r.qs.length ≤ 16
  go : (x.r, 0) = runM rd0 (textM s)
  seen : x.r.seen = true
  dup : dupTo (ordM x.r) x.j = false
def noRow : OK := .rows 2 [[.d .nils, .d .nils]]
def L17 (s : B) (_ : Unit) (k : Nat) (_ : St regK.T) : Option (LoopI regK.T Unit) := match Nat.beq k 6 with
  | true => some ⟨{ x : R17 // P17 s x }, fun x => ⟨[(2, .ptr 0 0 0), (3, ki 0), (4, .ptr 1 0 0), (5, .fn 24 [] [.ptr 1 0 0]), (20, .d (.sl 9 (textM s))), (21, ki ((textM s).length : Nat)), (22, ki (x.1.i : Nat))],
      [(0, noRow), (1, x.1.r.o 2 0), (2, .trows 46 x.1.r.qs)], 3⟩, fun x => (textM s).length - x.1.i, fun _ => ()⟩
  | false => (match Nat.beq k 17 with
    | true => some ⟨{ x : R18 // P18 s x }, fun x => ⟨[(2, .ptr 0 0 0), (4, .ptr 1 0 0), (9, .sl 2 0 x.1.r.qs.length (.least 0)), (49, ki (x.1.r.qs.length : Nat)), (50, ki (x.1.j : Nat))],
      [(0, noRow), (1, x.1.r.o 2 0), (2, .trows 46 (ordM x.1.r))], 3⟩, fun x => x.1.r.qs.length - x.1.j, fun _ => ()⟩
    | false => none)
def A17 (k : Nat) : List Tgt := (lookN [(5, [.fslot 20, .ncell 1 0 1 46])] k).getD []
end Go.Proofs.YtaonjbojhikndaaDoor

namespace Go.Proofs.YtaonjbojhikndaaDoor
open Go Go.W Go.Proofs
set_option maxRecDepth 100000
theorem v17 (s : B) : (OwesD e14 (17 : Nat) S17 A17 (L17 s) noJ () s) = ( branch (decide ((↑(List.length s) : Int) > (2000 : Int))) ((((parseM s).labels = [] ∧ (parseM s).qs = [] ∧ True) ∧ (parseM s).err = (5 : Int) ∧ True) ∧ True) (branch (S39.pre (ASp.mk s (OfNat.ofNat (10 : Nat)))) (branch (((0 : Nat) + (splitM (OfNat.ofNat (10 : Nat)) s).length).ble (splitM (OfNat.ofNat (10 : Nat)) s).length) ((∃ (x : { x : R17 // P17 s x }), (((0 : Nat) = (0 : Nat) ∧ (0 : Nat) = (0 : Nat)) ∧ (0 : Int) = (0 : Int) ∧ ((0 : Nat) = (0 : Nat) ∧ (0 : Nat) = (0 : Nat)) ∧ (True ∧ ((0 : Nat) = (0 : Nat) ∧ (0 : Nat) = (0 : Nat)) ∧ True) ∧ d9 (textM s) = d9 (List.drop (0 : Nat) (List.take ((0 : Nat) + (splitM (OfNat.ofNat (10 : Nat)) s).length) (splitM (OfNat.ofNat (10 : Nat)) s))) ∧ (↑(textM s).length : Int) = (↑(splitM (OfNat.ofNat (10 : Nat)) s).length : Int) ∧ (↑x.val.i : Int) = (0 : Int) ∧ True) ∧ ((nilsD = D.nils ∧ nilsD = D.nils ∧ True) ∧ True) ∧ ((x.val.r.labels = [] ∧ ((0 : Nat) = (0 : Nat) ∧ x.val.r.qs.length = (0 : Nat) ∧ Nat.le (0 : Nat) (0 : Nat)) ∧ x.val.r.seen = false ∧ True) ∧ True) ∧ o46 x.val.r.qs = o46 [] ∧ True) ∧ ∀ (x : { x : R17 // P17 s x }), branch (decide ((↑x.val.i : Int) < (↑(textM s).length : Int))) (branch (decide ((↑x.val.i : Int) < (↑(textM s).length : Int)) && true && true) (branch ((SB sm s26).pre ((textM s).getD (↑x.val.i : Int).toNat [])) (branch (S24.pre (AN.mk (AQ.mk x.val.r (wordsM ((textM s).getD (↑x.val.i : Int).toNat []))) x.val.r.qs.length)) (branch (decide ((wordsM ((textM s).getD (↑x.val.i : Int).toNat [])).length = (0 : Nat))) (∃ (x' : { x : R17 // P17 s x }), (textM s).length - x'.val.i < (textM s).length - x.val.i ∧ (((0 : Nat) = (0 : Nat) ∧ (0 : Nat) = (0 : Nat)) ∧ (0 : Int) = (0 : Int) ∧ ((0 : Nat) = (0 : Nat) ∧ (0 : Nat) = (0 : Nat)) ∧ (True ∧ ((0 : Nat) = (0 : Nat) ∧ (0 : Nat) = (0 : Nat)) ∧ True) ∧ d9 (textM s) = d9 (textM s) ∧ (↑(textM s).length : Int) = (↑(textM s).length : Int) ∧ (↑x'.val.i : Int) = IntKind.i64.wrap ((↑x.val.i : Int) + (1 : Int)) ∧ True) ∧ ((nilsD = D.nils ∧ nilsD = D.nils ∧ True) ∧ True) ∧ ((d9 x'.val.r.labels = d9 x.val.r.labels ∧ ((0 : Nat) = (0 : Nat) ∧ x'.val.r.qs.length = x.val.r.qs.length ∧ Nat.le (0 : Nat) (0 : Nat)) ∧ x'.val.r.seen = x.val.r.seen ∧ True) ∧ True) ∧ o46 x'.val.r.qs = o46 x.val.r.qs ∧ True) (branch (!x.val.r.seen && (wordsM ((textM s).getD (↑x.val.i : Int).toNat [])).getD (0 : Nat) [] == [OfNat.ofNat (108 : Nat), OfNat.ofNat (97 : Nat), OfNat.ofNat (98 : Nat), OfNat.ofNat (101 : Nat), OfNat.ofNat (108 : Nat), OfNat.ofNat (115 : Nat)]) (branch (decide ((3 : Nat) < (wordsM ((textM s).getD (↑x.val.i : Int).toNat [])).length)) (branch (((0 : Nat) + x.val.r.qs.length).ble x.val.r.qs.length && true && true) ((((parseM s).labels = [] ∧ (parseM s).qs = [] ∧ True) ∧ (parseM s).err = (4 : Int) ∧ True) ∧ True) False) (∃ (x' : { x : R17 // P17 s x }), (textM s).length - x'.val.i < (textM s).length - x.val.i ∧ (((0 : Nat) = (0 : Nat) ∧ (0 : Nat) = (0 : Nat)) ∧ (0 : Int) = (0 : Int) ∧ ((0
 : Nat) = (0 : Nat) ∧ (0 : Nat) = (0 : Nat)) ∧ (True ∧ ((0 : Nat) = (0 : Nat) ∧ (0 : Nat) = (0 : Nat)) ∧ True) ∧ d9 (textM s) = d9 (textM s) ∧ (↑(textM s).length : Int) = (↑(textM s).length : Int) ∧ (↑x'.val.i : Int) = IntKind.i64.wrap ((↑x.val.i : Int) + (1 : Int)) ∧ True) ∧ ((nilsD = D.nils ∧ nilsD = D.nils ∧ True) ∧ True) ∧ ((d9 x'.val.r.labels = d9 ([] :: List.drop (1 : Nat) (wordsM ((textM s).getD (↑x.val.i : Int).toNat []))) ∧ ((0 : Nat) = (0 : Nat) ∧ x'.val.r.qs.length = x.val.r.qs.length ∧ Nat.le (0 : Nat) (0 : Nat)) ∧ x'.val.r.seen = true ∧ True) ∧ True) ∧ o46 x'.val.r.qs = o46 x.val.r.qs ∧ True)) (branch (!x.val.r.seen || (wordsM ((textM s).getD (↑x.val.i : Int).toNat [])).getD (0 : Nat) [] != [OfNat.ofNat (113 : Nat), OfNat.ofNat (117 : Nat), OfNat.ofNat (101 : Nat), OfNat.ofNat (117 : Nat), OfNat.ofNat (101 : Nat)]) (branch (((0 : Nat) + x.val.r.qs.length).ble x.val.r.qs.length && true && true) ((((parseM s).labels = [] ∧ (parseM s).qs = [] ∧ True) ∧ (parseM s).err = (6 : Int) ∧ True) ∧ True) False) (branch (decide ((↑x.val.r.qs.length : Int) ≥ (16 : Int))) (branch (((0 : Nat) + x.val.r.qs.length).ble x.val.r.qs.length && true && true) ((((parseM s).labels = [] ∧ (parseM s).qs = [] ∧ True) ∧ (parseM s).err = (4 : Int) ∧ True) ∧ True) False) (branch (decide ((wordsM ((textM s).getD (↑x.val.i : Int).toNat [])).length = (3 : Nat) + x.val.r.labels.length) && oksM (wordsM ((textM s).getD (↑x.val.i : Int).toNat [])) ((wordsM ((textM s).getD (↑x.val.i : Int).toNat [])).length - (3 : Nat))) (∃ (x' : { x : R17 // P17 s x }), (textM s).length - x'.val.i < (textM s).length - x.val.i ∧ (((0 : Nat) = (0 : Nat) ∧ (0 : Nat) = (0 : Nat)) ∧ (0 : Int) = (0 : Int) ∧ ((0 : Nat) = (0 : Nat) ∧ (0 : Nat) = (0 : Nat)) ∧ (True ∧ ((0 : Nat) = (0 : Nat) ∧ (0 : Nat) = (0 : Nat)) ∧ True) ∧ d9 (textM s) = d9 (textM s) ∧ (↑(textM s).length : Int) = (↑(textM s).length : Int) ∧ (↑x'.val.i : Int) = IntKind.i64.wrap ((↑x.val.i : Int) + (1 : Int)) ∧ True) ∧ ((nilsD = D.nils ∧ nilsD = D.nils ∧ True) ∧ True) ∧ ((d9 x'.val.r.labels = d9 x.val.r.labels ∧ ((0 : Nat) = (0 : Nat) ∧ x'.val.r.qs.length = (x.val.r.qs ++ [newQ (wordsM ((textM s).getD (↑x.val.i : Int).toNat []))]).length ∧ Nat.le (0 : Nat) (0 : Nat)) ∧ x'.val.r.seen = x.val.r.seen ∧ True) ∧ True) ∧ o46 x'.val.r.qs = o46 (x.val.r.qs ++ [newQ (wordsM ((textM s).getD (↑x.val.i : Int).toNat []))]) ∧ True) (branch (((0 : Nat) + x.val.r.qs.length).ble x.val.r.qs.length && true && true) ((((parseM s).labels = [] ∧ (parseM s).qs = [] ∧ True) ∧ (parseM s).err = (6 : Int) ∧ True) ∧ True) False)))))) False) False) False) (branch (!x.val.r.seen) (branch (((0 : Nat) + x.val.r.qs.length).ble x.val.r.qs.length && true && true) ((((parseM s).labels = [] ∧ (parseM s).qs = [] ∧ True) ∧ (parseM s).err = (6 : Int) ∧ True) ∧ True) False) (branch (S27.pre (AO.mk x.val.r.qs x.val.r.qs.length)) ((∃ (x_1 : { x : R18 // P18 s x }), (((0 : Nat) = (0 : Nat) ∧ (0 : Nat) = (0 : Nat)) ∧ ((0 : Nat) = (0 : Nat) ∧ (0 : Nat) = (0 : Nat)) ∧ ((0 : Nat)
 = (0 : Nat) ∧ x_1.val.r.qs.length = x.val.r.qs.length ∧ Nat.le (0 : Nat) (0 : Nat)) ∧ (↑x_1.val.r.qs.length : Int) = (↑x.val.r.qs.length : Int) ∧ (↑x_1.val.j : Int) = (0 : Int) ∧ True) ∧ ((nilsD = D.nils ∧ nilsD = D.nils ∧ True) ∧ True) ∧ ((d9 x_1.val.r.labels = d9 x.val.r.labels ∧ ((0 : Nat) = (0 : Nat) ∧ x_1.val.r.qs.length = x.val.r.qs.length ∧ Nat.le (0 : Nat) (0 : Nat)) ∧ x_1.val.r.seen = x.val.r.seen ∧ True) ∧ True) ∧ o46 (ordM x_1.val.r) = o46 (orderM x.val.r.qs.length x.val.r.qs) ∧ True) ∧ ∀ (x : { x : R18 // P18 s x }), branch (decide ((↑x.val.j : Int) < (↑x.val.r.qs.length : Int))) (branch (decide ((↑x.val.j : Int) > (0 : Int))) (branch (decide ((0 : Int) ≤ IntKind.i64.wrap ((↑x.val.j : Int) - (1 : Int))) && decide (IntKind.i64.wrap ((↑x.val.j : Int) - (1 : Int)) < (↑x.val.r.qs.length : Int))) (branch (((0 : Nat) + (IntKind.i64.wrap ((↑x.val.j : Int) - (1 : Int))).toNat).blt (ordM x.val.r).length) (branch (decide ((↑x.val.j : Int) < (↑x.val.r.qs.length : Int))) (branch (((0 : Nat) + (↑x.val.j : Int).toNat).blt (ordM x.val.r).length) (branch (((ordM x.val.r).getD ((0 : Nat) + (IntKind.i64.wrap ((↑x.val.j : Int) - (1 : Int))).toNat) (Qu.mk [] [] (0 : Int))).path == ((ordM x.val.r).getD ((0 : Nat) + (↑x.val.j : Int).toNat) (Qu.mk [] [] (0 : Int))).path) (branch (((0 : Nat) + x.val.r.qs.length).ble (ordM x.val.r).length && true && true) ((((parseM s).labels = [] ∧ (parseM s).qs = [] ∧ True) ∧ (parseM s).err = (7 : Int) ∧ True) ∧ True) False) (∃ (x' : { x : R18 // P18 s x }), x'.val.r.qs.length - x'.val.j < x.val.r.qs.length - x.val.j ∧ (((0 : Nat) = (0 : Nat) ∧ (0 : Nat) = (0 : Nat)) ∧ ((0 : Nat) = (0 : Nat) ∧ (0 : Nat) = (0 : Nat)) ∧ ((0 : Nat) = (0 : Nat) ∧ x'.val.r.qs.length = x.val.r.qs.length ∧ Nat.le (0 : Nat) (0 : Nat)) ∧ (↑x'.val.r.qs.length : Int) = (↑x.val.r.qs.length : Int) ∧ (↑x'.val.j : Int) = IntKind.i64.wrap ((↑x.val.j : Int) + (1 : Int)) ∧ True) ∧ ((nilsD = D.nils ∧ nilsD = D.nils ∧ True) ∧ True) ∧ ((d9 x'.val.r.labels = d9 x.val.r.labels ∧ ((0 : Nat) = (0 : Nat) ∧ x'.val.r.qs.length = x.val.r.qs.length ∧ Nat.le (0 : Nat) (0 : Nat)) ∧ x'.val.r.seen = x.val.r.seen ∧ True) ∧ True) ∧ o46 (ordM x'.val.r) = o46 (ordM x.val.r) ∧ True)) False) False) False) False) (∃ (x' : { x : R18 // P18 s x }), x'.val.r.qs.length - x'.val.j < x.val.r.qs.length - x.val.j ∧ (((0 : Nat) = (0 : Nat) ∧ (0 : Nat) = (0 : Nat)) ∧ ((0 : Nat) = (0 : Nat) ∧ (0 : Nat) = (0 : Nat)) ∧ ((0 : Nat) = (0 : Nat) ∧ x'.val.r.qs.length = x.val.r.qs.length ∧ Nat.le (0 : Nat) (0 : Nat)) ∧ (↑x'.val.r.qs.length : Int) = (↑x.val.r.qs.length : Int) ∧ (↑x'.val.j : Int) = IntKind.i64.wrap ((↑x.val.j : Int) + (1 : Int)) ∧ True) ∧ ((nilsD = D.nils ∧ nilsD = D.nils ∧ True) ∧ True) ∧ ((d9 x'.val.r.labels = d9 x.val.r.labels ∧ ((0 : Nat) = (0 : Nat) ∧ x'.val.r.qs.length = x.val.r.qs.length ∧ Nat.le (0 : Nat) (0 : Nat)) ∧ x'.val.r.seen = x.val.r.seen ∧ True) ∧ True) ∧ o46 (ordM x'.val.r) = o46 (ordM x.val.r) ∧ True)) (branch (((0 : Nat) + x.val.r.qs.length).ble (ordM
 x.val.r).length && true && true) (branch (((0 : Nat) + x.val.r.qs.length).ble (ordM x.val.r).length && true && true) (branch (((0 : Nat) + x.val.r.qs.length).ble (ordM x.val.r).length && true && true) (((d9 (parseM s).labels = d9 x.val.r.labels ∧ d46 (parseM s).qs = d46 (List.drop (0 : Nat) (List.take ((0 : Nat) + x.val.r.qs.length) (ordM x.val.r))) ∧ True) ∧ (parseM s).err = (0 : Int) ∧ True) ∧ True) False) False) False)) False))) False) False)) := by kernel_rfl

end Go.Proofs.YtaonjbojhikndaaDoor

namespace Go.Proofs.YtaonjbojhikndaaDoor
open Go Go.W
set_option maxRecDepth 100000
theorem split_mem (c : UInt8) : ∀ (l : B) (p : B), p ∈ splitM c l → p.length ≤ l.length
  | [], p, h => by simp [splitM] at h; simp [h]
  | x :: l, p, h => by
    unfold splitM at h
    cases hx : x == c with
    | true =>
      rw [hx, cond_true] at h
      rcases List.mem_cons.1 h with h | h
      · subst h; simp
      · have := split_mem c l p h; simp; omega
    | false =>
      rw [hx, cond_false] at h
      cases hs : splitM c l with
      | nil => exact (splitM_ne c l hs).elim
      | cons q qs =>
        rw [hs] at h
        rcases List.mem_cons.1 h with h | h
        · subst h
          have := split_mem c l q (by rw [hs]; exact List.mem_cons_self)
          simp; omega
        · have := split_mem c l p (by rw [hs]; exact List.mem_cons_of_mem _ h)
          simp; omega
theorem words_len (l : B) : (wordsM l).length ≤ l.length + 1 := by
  have h1 := splitM_len 32 l
  have h2 : l.count 32 ≤ l.length := List.count_le_length
  have h3 := keep_le (splitM 32 l)
  show (keep (splitM 32 l)).length ≤ _
  omega
theorem words_mem {l p : B} (h : p ∈ wordsM l) : p.length ≤ l.length :=
  split_mem 32 l p (List.mem_filter.1 h).1
theorem parse_long {s : B} (h : decide ((s.length : Int) > 2000) = true) : parseM s = ⟨[], [], 5⟩ := by
  unfold parseM; rw [h]; rfl
theorem parse_err {s : B} {r : Rd} {e : Int} (h0 : decide ((s.length : Int) > 2000) = false) (h : runM rd0 (textM s) = (r, e)) (he : (e != 0) = true) : parseM s = ⟨[], [], e⟩ := by
  unfold parseM
  rw [h0, h]
  show (bif false then _ else bif e != 0 then _ else _) = _
  rw [he]; rfl
theorem parse_unseen {s : B} {r : Rd} (h0 : decide ((s.length : Int) > 2000) = false) (h : runM rd0 (textM s) = (r, 0)) (hs : r.seen = false) : parseM s = ⟨[], [], 6⟩ := by
  unfold parseM
  rw [h0, h]
  show (bif !r.seen then _ else _) = _
  rw [hs]; rfl
theorem parse_dup {s : B} {r : Rd} (h0 : decide ((s.length : Int) > 2000) = false) (h : runM rd0 (textM s) = (r, 0)) (hs : r.seen = true) (hd : dupTo (ordM r) r.qs.length = true) : parseM s = ⟨[], [], 7⟩ := by
  unfold parseM
  rw [h0, h]
  show (bif !r.seen then _ else bif dupTo (ordM r) r.qs.length then _ else _) = _
  rw [hs, hd]; rfl
theorem parse_ok {s : B} {r : Rd} (h0 : decide ((s.length : Int) > 2000) = false) (h : runM rd0 (textM s) = (r, 0)) (hs : r.seen = true) (hd : dupTo (ordM r) r.qs.length = false) : parseM s = ⟨r.labels, ordM r, 0⟩ := by
  unfold parseM
  rw [h0, h]
  show (bif !r.seen then _ else bif dupTo (ordM r) r.qs.length then _ else _) = _
  rw [hs, hd]; rfl
theorem run_step (r : Rd) {ls : List B} {i : Nat} (h : i < ls.length) : runM r (ls.drop i) = bif (lineM r (wordsM (ls.getD i []))).2 == 0 then runM (lineM r (wordsM (ls.getD i []))).1 (ls.drop (i + 1)) else lineM r (wordsM (ls.getD i [])) := by
  have : ls.drop i = ls.getD i [] :: ls.drop (i + 1) := by
    rw [List.drop_eq_getElem_cons h]
    simp [List.getD, h]
  rw [this]; rfl
theorem dup_mono (ys : List Qu) {j k : Nat} (h : j ≤ k) (hd : dupTo ys j = true) : dupTo ys k = true := by
  induction k with
  | zero => have : j = 0 := by omega
            subst this; exact hd
  | succ k ih =>
    by_cases hj : j = k + 1
    · subst hj; exact hd
    · have := ih (by omega)
      unfold dupTo; rw [this]; rfl
theorem ok17 (s : B) (hp : S17.pre s = true) : Owes e14 17 S17 A17 (L17 s) noJ () s := by
  refine Owes.mk ?_
  rw [v17]
  refine br (fun h0 => ?_) (fun h0 => ?_)
  · rw [parse_long h0]; exact ⟨⟨⟨rfl, rfl, trivial⟩, rfl, trivial⟩, trivial⟩
  have hs : s.length ≤ 2000 := by
    have : ¬ ((s.length : Int) > 2000) := of_decide_eq_false h0
    omega
  have hN : (textM s).length ≤ 2001 := by
    have h1 := splitM_len 10 s
    have h2 : s.count 10 ≤ s.length := List.count_le_length
    show (splitM 10 s).length ≤ _
    omega
  refine brT (Nat.ble_eq_true_of_le (by show s.length ≤ _; omega)) (brT (Nat.ble_eq_true_of_le (by omega)) ?_)
  have hlt : textM s = List.drop 0 (List.take (0 + (splitM 10 s).length) (splitM 10 s)) := by
    rw [Nat.zero_add, List.drop_zero, List.take_length]; rfl
  refine ⟨⟨⟨⟨0, rd0⟩, Nat.zero_le _, by decide, by decide, rfl⟩, ⟨⟨rfl, rfl⟩, rfl, ⟨rfl, rfl⟩, ⟨trivial, ⟨rfl, rfl⟩, trivial⟩, congrArg d9 hlt, rfl, rfl, trivial⟩, ⟨⟨rfl, rfl, trivial⟩, trivial⟩, ⟨⟨rfl, ⟨rfl, rfl, Nat.le_refl _⟩, rfl, trivial⟩, trivial⟩, rfl, trivial⟩, fun x => ?_⟩
  have hx := x.2
  have hi := hx.i
  have hl := hx.l
  have hq := hx.q
  have hgo := hx.go
  have e1 : ((x.1.i : Int)).toNat = x.1.i := by simp
  refine br (fun hlt => ?_) (fun hge => ?_)
  · have hlt : x.1.i < (textM s).length := by simpa using hlt
    rw [e1]
    have wx : IntKind.i64.wrap ((x.1.i : Int) + 1) = ((x.1.i + 1 : Nat) : Int) := by rw [wrap_id] <;> omega
    have hll : ((textM s).getD x.1.i []).length ≤ 2000 := Nat.le_trans (split_mem 10 s _ (getD_mem hlt)) hs
    generalize hline : (textM s).getD x.1.i [] = l at hll ⊢
    have hst := run_step x.1.r hlt
    rw [hgo, hline] at hst
    have hwl := words_len l
    have hwm : ∀ p ∈ wordsM l, sm p = true := fun p hp => Nat.ble_eq_true_of_le (by have := words_mem hp; omega)
    generalize hw : wordsM l = w at hst hwl hwm ⊢
    have okS : ∀ r', lineM x.1.r w = (r', 0) → runM r' ((textM s).drop (x.1.i + 1)) = runM rd0 (textM s) := fun r' h => by
      rw [hst, h]; rfl
    have okE : ∀ r' e, lineM x.1.r w = (r', e) → (e == 0) = false → (e != 0) = true → parseM s = ⟨[], [], e⟩ := fun r' e h he he' => by
      rw [h] at hst
      have : (bif e == 0 then runM r' ((textM s).drop (x.1.i + 1)) else (r', e)) = (r', e) := by rw [he]; rfl
      exact parse_err h0 (hst.trans this) he'
    have hmu : (textM s).length - (x.1.i + 1) < (textM s).length - x.1.i := by omega
    have b1 : (Nat.ble (0 + x.1.r.qs.length) x.1.r.qs.length && true && true) = true := by
      rw [Bool.and_true, Bool.and_true]; exact Nat.ble_eq_true_of_le (by omega)
    refine brT (by simp; omega) (brT (Nat.ble_eq_true_of_le (by show l.length + 1 ≤ _; omega)) (brT ?_ ?_))
    · show AN.fine ⟨⟨x.1.r, w⟩, x.1.r.qs.length⟩ = true
      simp only [AN.fine, AQ.fine, Bool.and_eq_true]
      exact ⟨Nat.beq_refl _, ⟨⟨Nat.ble_eq_true_of_le (by omega), Nat.ble_eq_true_of_le (by omega)⟩, Nat.ble_eq_true_of_le (by omega)⟩, List.all_eq_true.2 hwm⟩
    refine br (fun c0 => ?_) (fun c0 => ?_)
    · have hL : lineM x.1.r w = (x.1.r, 0) := by unfold lineM; rw [c0]; rfl
      exact ⟨⟨⟨x.1.i + 1, x.1.r⟩, hlt, hl, hq, okS _ hL⟩, hmu, ⟨⟨rfl, rfl⟩, rfl, ⟨rfl, rfl⟩, ⟨trivial, ⟨rfl, rfl⟩, trivial⟩, rfl, rfl, wx.symm, trivial⟩, ⟨⟨rfl, rfl, trivial⟩, trivial⟩, ⟨⟨rfl, ⟨rfl, rfl, Nat.le_refl _⟩, rfl, trivial⟩, trivial⟩, rfl, trivial⟩
    refine br (fun c1 => ?_) (fun c1 => ?_)
    · have c1 : (!x.1.r.seen && w.getD 0 [] == wLabels) = true := c1
      refine br (fun c2 => ?_) (fun c2 => ?_)
      · have hL : lineM x.1.r w = ({ x.1.r with seen := true }, 4) := by unfold lineM; rw [c0, c1, c2]; rfl
        refine brT b1 ?_
        rw [okE _ _ hL rfl rfl]; exact ⟨⟨⟨rfl, rfl, trivial⟩, rfl, trivial⟩, trivial⟩
      · have hL : lineM x.1.r w = ({ x.1.r with seen := true, labels := newL w }, 0) := by unfold lineM; rw [c0, c1, c2]; rfl
        have h3 : ¬ 3 < w.length := of_decide_eq_false c2
        have h00 : ¬ w.length = 0 := of_decide_eq_false c0
        exact ⟨⟨⟨x.1.i + 1, { x.1.r with seen := true, labels := newL w }⟩, hlt, by show (([] : B) :: w.drop 1).length ≤ 3; simp; omega, hq, okS _ hL⟩, hmu, ⟨⟨rfl, rfl⟩, rfl, ⟨rfl, rfl⟩, ⟨trivial, ⟨rfl, rfl⟩, trivial⟩, rfl, rfl, wx.symm, trivial⟩, ⟨⟨rfl, rfl, trivial⟩, trivial⟩, ⟨⟨rfl, ⟨rfl, rfl, Nat.le_refl _⟩, rfl, trivial⟩, trivial⟩, rfl, trivial⟩
    have c1 : (!x.1.r.seen && w.getD 0 [] == wLabels) = false := c1
    refine br (fun c2 => ?_) (fun c2 => ?_)
    · have c2 : (!x.1.r.seen || w.getD 0 [] != wQueue) = true := c2
      have hL : lineM x.1.r w = (x.1.r, 6) := by unfold lineM; rw [c0, c1, c2]; rfl
      refine brT b1 ?_
      rw [okE _ _ hL rfl rfl]; exact ⟨⟨⟨rfl, rfl, trivial⟩, rfl, trivial⟩, trivial⟩
    have c2 : (!x.1.r.seen || w.getD 0 [] != wQueue) = false := c2
    refine br (fun c3 => ?_) (fun c3 => ?_)
    · have hL : lineM x.1.r w = (x.1.r, 4) := by unfold lineM; rw [c0, c1, c2, c3]; rfl
      refine brT b1 ?_
      rw [okE _ _ hL rfl rfl]; exact ⟨⟨⟨rfl, rfl, trivial⟩, rfl, trivial⟩, trivial⟩
    refine br (fun c4 => ?_) (fun c4 => ?_)
    · have hL : lineM x.1.r w = ({ x.1.r with qs := x.1.r.qs ++ [newQ w] }, 0) := by unfold lineM; rw [c0, c1, c2, c3, c4]; rfl
      have h16 : ¬ ((x.1.r.qs.length : Int) ≥ 16) := of_decide_eq_false c3
      exact ⟨⟨⟨x.1.i + 1, { x.1.r with qs := x.1.r.qs ++ [newQ w] }⟩, hlt, hl, by show (x.1.r.qs ++ [newQ w]).length ≤ 16; simp; omega, okS _ hL⟩, hmu, ⟨⟨rfl, rfl⟩, rfl, ⟨rfl, rfl⟩, ⟨trivial, ⟨rfl, rfl⟩, trivial⟩, rfl, rfl, wx.symm, trivial⟩, ⟨⟨rfl, rfl, trivial⟩, trivial⟩, ⟨⟨rfl, ⟨rfl, rfl, Nat.le_refl _⟩, rfl, trivial⟩, trivial⟩, rfl, trivial⟩
    · have hL : lineM x.1.r w = (x.1.r, 6) := by unfold lineM; rw [c0, c1, c2, c3, c4]; rfl
      refine brT b1 ?_
      rw [okE _ _ hL rfl rfl]; exact ⟨⟨⟨rfl, rfl, trivial⟩, rfl, trivial⟩, trivial⟩
  · have hge : ¬ x.1.i < (textM s).length := by simpa using hge
    have hrun : runM rd0 (textM s) = (x.1.r, 0) := by
      rw [← hgo, List.drop_eq_nil_of_le (by omega)]; rfl
    have b1 : (Nat.ble (0 + x.1.r.qs.length) x.1.r.qs.length && true && true) = true := by
      rw [Bool.and_true, Bool.and_true]; exact Nat.ble_eq_true_of_le (by omega)
    refine br (fun hs1 => ?_) (fun hs1 => ?_)
    · have hs1 : x.1.r.seen = false := by simpa using hs1
      refine brT b1 ?_
      rw [parse_unseen h0 hrun hs1]; exact ⟨⟨⟨rfl, rfl, trivial⟩, rfl, trivial⟩, trivial⟩
    have hs1 : x.1.r.seen = true := by simpa using hs1
    refine brT ?_ ?_
    · show fineO ⟨x.1.r.qs, x.1.r.qs.length⟩ = true
      simp only [fineO, AO.fine, Bool.and_eq_true]
      exact ⟨Nat.ble_eq_true_of_le hq, Nat.beq_refl _, Nat.ble_eq_true_of_le (by omega)⟩
    refine ⟨⟨⟨⟨0, x.1.r⟩, Nat.zero_le _, hq, hrun.symm, hs1, rfl⟩, ⟨⟨rfl, rfl⟩, ⟨rfl, rfl⟩, ⟨rfl, rfl, Nat.le_refl _⟩, rfl, rfl, trivial⟩, ⟨⟨rfl, rfl, trivial⟩, trivial⟩, ⟨⟨rfl, ⟨rfl, rfl, Nat.le_refl _⟩, rfl, trivial⟩, trivial⟩, rfl, trivial⟩, fun y => ?_⟩
    have hy := y.2
    have yj := hy.j
    have yq := hy.q
    have yd := hy.dup
    have hol : (ordM y.1.r).length = y.1.r.qs.length := order_len _ _
    have b2 : (Nat.ble (0 + y.1.r.qs.length) (ordM y.1.r).length && true && true) = true := by
      rw [Bool.and_true, Bool.and_true]; exact Nat.ble_eq_true_of_le (by omega)
    refine br (fun hlt => ?_) (fun hge => ?_)
    · have hlt : y.1.j < y.1.r.qs.length := by simpa using hlt
      have wy : IntKind.i64.wrap ((y.1.j : Int) + 1) = ((y.1.j + 1 : Nat) : Int) := by rw [wrap_id] <;> omega
      have hmu : y.1.r.qs.length - (y.1.j + 1) < y.1.r.qs.length - y.1.j := by omega
      refine br (fun hj => ?_) (fun hj => ?_)
      · have hj : 0 < y.1.j := by simpa using hj
        obtain ⟨k, hk⟩ : ∃ k, y.1.j = k + 1 := ⟨y.1.j - 1, by omega⟩
        have w1 : IntKind.i64.wrap ((y.1.j : Int) - 1) = ((k : Nat) : Int) := by rw [wrap_id] <;> omega
        have e1 : 0 + ((y.1.j : Int)).toNat = k + 1 := by omega
        have e2 : 0 + (((k : Nat) : Int)).toNat = k := by omega
        rw [w1, e1, e2]
        have hd1 : dupTo (ordM y.1.r) (y.1.j + 1) = (((ordM y.1.r).getD k qd).path == ((ordM y.1.r).getD (k + 1) qd).path) := by
          rw [hk]
          show (dupTo (ordM y.1.r) (k + 1) || (decide (0 < k + 1) && ((ordM y.1.r).getD (k + 1 - 1) qd).path == ((ordM y.1.r).getD (k + 1) qd).path)) = _
          rw [← hk, yd, dT (by omega : 0 < y.1.j), hk]
          rfl
        refine brT (by simp; omega) (brT (Nat.ble_eq_true_of_le (by omega)) (brT (dT (by omega)) (brT (Nat.ble_eq_true_of_le (by omega)) (br (fun hp => ?_) (fun hp => ?_)))))
        · refine brT b2 ?_
          have : dupTo (ordM y.1.r) y.1.r.qs.length = true := dup_mono _ (j := y.1.j + 1) (by omega) (hd1.trans hp)
          rw [parse_dup h0 hy.go.symm hy.seen this]; exact ⟨⟨⟨rfl, rfl, trivial⟩, rfl, trivial⟩, trivial⟩
        · exact ⟨⟨⟨y.1.j + 1, y.1.r⟩, hlt, yq, hy.go, hy.seen, hd1.trans hp⟩, hmu, ⟨⟨rfl, rfl⟩, ⟨rfl, rfl⟩, ⟨rfl, rfl, Nat.le_refl _⟩, rfl, wy.symm, trivial⟩, ⟨⟨rfl, rfl, trivial⟩, trivial⟩, ⟨⟨rfl, ⟨rfl, rfl, Nat.le_refl _⟩, rfl, trivial⟩, trivial⟩, rfl, trivial⟩
      · have hj : y.1.j = 0 := by
          have : ¬ 0 < y.1.j := by simpa using hj
          omega
        have hd1 : dupTo (ordM y.1.r) (y.1.j + 1) = false := by rw [hj]; rfl
        exact ⟨⟨⟨y.1.j + 1, y.1.r⟩, hlt, yq, hy.go, hy.seen, hd1⟩, hmu, ⟨⟨rfl, rfl⟩, ⟨rfl, rfl⟩, ⟨rfl, rfl, Nat.le_refl _⟩, rfl, wy.symm, trivial⟩, ⟨⟨rfl, rfl, trivial⟩, trivial⟩, ⟨⟨rfl, ⟨rfl, rfl, Nat.le_refl _⟩, rfl, trivial⟩, trivial⟩, rfl, trivial⟩
    · have hge : ¬ y.1.j < y.1.r.qs.length := by simpa using hge
      have hd1 : dupTo (ordM y.1.r) y.1.r.qs.length = false := by
        rw [← yd]; congr 1; omega
      refine brT b2 (brT b2 (brT b2 ?_))
      rw [parse_ok h0 hy.go.symm hy.seen hd1]
      refine ⟨⟨⟨rfl, ?_, trivial⟩, rfl, trivial⟩, trivial⟩
      show d46 (ordM y.1.r) = _
      rw [Nat.zero_add, List.drop_zero, ← hol, List.take_length]
theorem k17 : SpecOk Tryd.prog 17 S17 := spec_loop e14_sound (by kernel_rfl) (fun _ => A17) L17 (fun _ => noJ) (fun _ => ()) ok17
theorem a17 : RowOK 17 (S17.con (MB sm _)) := Spec.con_ok k17 _ (fun _ => Nat.le_of_ble_eq_true rfl)
end Go.Proofs.YtaonjbojhikndaaDoor
