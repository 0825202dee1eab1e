/- Conf: a line; queues are put in order. No conditions. -/
import Derived.Test.YtaonjbojhikndaaDoorFd
namespace Go.Proofs.YtaonjbojhikndaaDoor
open Go Go.W
set_option maxRecDepth 100000

def Rd.oN (r : Rd) (n : Nat) : OK := .rows 3 [[.d (.sl 9 r.labels), .sl 1 0 n (.least 0), kb r.seen]]
structure AN where
  a : AQ
  n : Nat
def AN.fine (x : AN) : Bool := Nat.beq x.n x.a.r.qs.length && x.a.fine
def S38n : Go.W.Spec regK.T := ⟨AN, fun x => [.ptr 0 0 0, .d (.sl 9 x.a.w)], fun x => [x.a.r.oN x.n, .trows 46 x.a.r.qs], AN.fine, fun x => S38.out x.a⟩
theorem k38n : SpecOk Tryd.prog 38 S38n := by
  refine ⟨k38.1, fun x hp => ?_⟩
  obtain ⟨a, n⟩ := x
  have hp : (AN.mk a n).fine = true := hp
  simp only [AN.fine, Bool.and_eq_true] at hp
  have hn : n = a.r.qs.length := Nat.eq_of_beq_eq_true hp.1
  subst hn
  exact k38.2 a hp.2
theorem cap0 (c : Cap) : covCap (.least 0) c := by cases c <;> exact Nat.zero_le _
def lD : D TK → Option (List B)
  | .sl 9 xs => some xs
  | .nils => some []
  | _ => none
theorem lD_cov {x : D TK} {xs : List B} (h : lD x = some xs) : covD (.sl 9 xs) x := by
  unfold lD at h; split at h
  · cases h; exact rfl
  · cases h; exact rfl
  · cases h
/-- A reader, a line's words. -/
def readR (args : List VK) (g : Nat → Option OK) : Option (AN × Nat × Nat) := match args with
  | [.ptr i 0 0, .d (.sl 9 w)] => (match g i with
    | some (.rows 3 [[.d l, .sl q 0 n _, .d (.bool s)]]) => (match lD l, g q with
      | some l, some (.trows 46 qs) => some (⟨⟨⟨l, qs, s⟩, w⟩, n⟩, i, q)
      | _, _ => none)
    | _ => none)
  | _ => none
theorem meet_R {args : List VK} {g : Nat → Option OK} {x : AN} {i q : Nat} (h : readR args g = some (x, i, q)) :
    covV.goL (at0 0 [i, q]) [.ptr 0 0 0, .d (.sl 9 x.a.w)] args ∧ [i, q].length = 2 ∧ ∀ (j : Nat) (o' : OK), ([x.a.r.oN x.n, .trows 46 x.a.r.qs] : List OK)[j]? = some o' → ∃ (k : Nat) (u : OK), ([i, q] : List Nat)[j]? = some k ∧ g k = some u ∧ covO (at0 0 [i, q]) o' u := by
  unfold readR at h
  split at h
  · split at h
    · rename_i hg
      split at h
      · rename_i hl hq
        cases h
        refine ⟨⟨(must_iff _ _).2 ⟨Nat.beq_refl i, rfl, rfl⟩, rfl, trivial⟩, rfl, fun j o' hj => ?_⟩
        match j, hj with
        | 0, hj =>
          simp only [List.getElem?_cons_zero, Option.some.injEq] at hj; subst hj
          refine ⟨i, _, rfl, hg, (must_iff _ _).2 ⟨rfl, ⟨lD_cov hl, (must_iff _ _).2 ⟨Nat.beq_refl q, rfl, rfl, cap0 _⟩, rfl, trivial⟩, trivial⟩⟩
        | 1, hj =>
          simp only [List.getElem?_cons_succ, List.getElem?_cons_zero, Option.some.injEq] at hj; subst hj
          exact ⟨q, _, rfl, hq, rfl⟩
        | j + 2, hj => simp at hj
      · cases h
    · cases h
  · cases h
def M38 : Meet S38n where
  find args g := match readR args g with | some (x, i, q) => some (x, [i, q]) | none => none
  ok args g a ρ h := by
    split at h
    · rename_i x i q hr
      cases h
      exact meet_R hr
    · cases h
theorem a38 : RowOK 38 (S38n.con M38) := Spec.con_ok k38n M38 (fun _ => Nat.le_of_ble_eq_true rfl)
def K10 : Con regK.T := fun f => lookN [(38, S38n.con M38)] f
theorem K10_ok : ConOk Tryd.prog K10 := con_cons a38 con_nil
noncomputable def e10 : Hd regK.T := hdT regK Tryd.prog K10 (fun _ => false) 1000 5
theorem e10_sound : HdSound Tryd.prog e10 := hdT_sound mixed hno K10_ok _ _ _

/-! ### A line -/
def wLabels : B := [108, 97, 98, 101, 108, 115]
def wQueue : B := [113, 117, 101, 117, 101]
def newL (w : List B) : List B := [] :: w.drop 1
def S24 : Go.W.Spec regK.T := ⟨AN, fun x => [.ptr 0 0 0, .d (.sl 9 x.a.w)], fun x => [x.a.r.oN x.n, .trows 46 x.a.r.qs], AN.fine,
  fun x => .br (decide (x.a.w.length = 0)) (.ret (ki 0, [some (x.a.r.oN x.n), some (.trows 46 x.a.r.qs)]))
    (.br (!x.a.r.seen && x.a.w.getD 0 [] == wLabels)
      (.br (decide (3 < x.a.w.length)) (.ret (ki 4, [some (({ x.a.r with seen := true } : Rd).oN x.n), some (.trows 46 x.a.r.qs)]))
        (.ret (ki 0, [some (({ x.a.r with seen := true, labels := newL x.a.w } : Rd).oN x.n), some (.trows 46 x.a.r.qs)])))
      (.br (!x.a.r.seen || x.a.w.getD 0 [] != wQueue) (.ret (ki 6, [some (x.a.r.oN x.n), some (.trows 46 x.a.r.qs)]))
        (S38.out x.a)))⟩
def A24 (k : Nat) : List Tgt := (lookN [(8, [.fcell 0 0 0])] k).getD []
def noL {G : Type} (_ : G) (_ : Nat) (_ : St regK.T) : Option (LoopI regK.T G) := none
end Go.Proofs.YtaonjbojhikndaaDoor

namespace Go.Proofs.YtaonjbojhikndaaDoor
open Go Go.W Go.Proofs
set_option maxRecDepth 100000
theorem v24 (x : AN) : (OwesDN e10 (24 : Nat) S24 A24 noL noJ () x) = ( branch ((↑x.a.w.length : Int) == (0 : Int)) (branch (decide (x.a.w.length = (0 : Nat))) ((0 : Int) = (0 : Int) ∧ ((d9 x.a.r.labels = d9 x.a.r.labels ∧ ((0 : Nat) = (0 : Nat) ∧ x.n = x.n ∧ Nat.le (0 : Nat) (0 : Nat)) ∧ x.a.r.seen = x.a.r.seen ∧ True) ∧ True) ∧ o46 x.a.r.qs = o46 x.a.r.qs ∧ True) (branch (!x.a.r.seen && x.a.w.getD (0 : Nat) [] == [OfNat.ofNat (108 : Nat), OfNat.ofNat (97 : Nat), OfNat.ofNat (98 : Nat), OfNat.ofNat (101 : Nat), OfNat.ofNat (108 : Nat), OfNat.ofNat (115 : Nat)]) (branch (decide ((3 : Nat) < x.a.w.length)) ((4 : Int) = (0 : Int) ∧ ((d9 x.a.r.labels = d9 x.a.r.labels ∧ ((0 : Nat) = (0 : Nat) ∧ x.n = x.n ∧ Nat.le (0 : Nat) (0 : Nat)) ∧ true = x.a.r.seen ∧ True) ∧ True) ∧ o46 x.a.r.qs = o46 x.a.r.qs ∧ True) ((0 : Int) = (0 : Int) ∧ ((d9 ([] :: List.drop (1 : Nat) x.a.w) = d9 x.a.r.labels ∧ ((0 : Nat) = (0 : Nat) ∧ x.n = x.n ∧ Nat.le (0 : Nat) (0 : Nat)) ∧ true = x.a.r.seen ∧ True) ∧ True) ∧ o46 x.a.r.qs = o46 x.a.r.qs ∧ True)) (branch (!x.a.r.seen || x.a.w.getD (0 : Nat) [] != [OfNat.ofNat (113 : Nat), OfNat.ofNat (117 : Nat), OfNat.ofNat (101 : Nat), OfNat.ofNat (117 : Nat), OfNat.ofNat (101 : Nat)]) ((6 : Int) = (0 : Int) ∧ ((d9 x.a.r.labels = d9 x.a.r.labels ∧ ((0 : Nat) = (0 : Nat) ∧ x.n = x.n ∧ Nat.le (0 : Nat) (0 : Nat)) ∧ x.a.r.seen = x.a.r.seen ∧ True) ∧ True) ∧ o46 x.a.r.qs = o46 x.a.r.qs ∧ True) (branch (decide ((↑x.a.r.qs.length : Int) ≥ (16 : Int))) ((4 : Int) = (0 : Int) ∧ ((d9 x.a.r.labels = d9 x.a.r.labels ∧ ((0 : Nat) = (0 : Nat) ∧ x.a.r.qs.length = x.n ∧ Nat.le (0 : Nat) (0 : Nat)) ∧ x.a.r.seen = x.a.r.seen ∧ True) ∧ True) ∧ o46 x.a.r.qs = o46 x.a.r.qs ∧ True) (branch (decide (x.a.w.length = (3 : Nat) + x.a.r.labels.length) && oksM x.a.w (x.a.w.length - (3 : Nat))) False ((6 : Int) = (0 : Int) ∧ ((d9 x.a.r.labels = d9 x.a.r.labels ∧ ((0 : Nat) = (0 : Nat) ∧ x.a.r.qs.length = x.n ∧ Nat.le (0 : Nat) (0 : Nat)) ∧ x.a.r.seen = x.a.r.seen ∧ True) ∧ True) ∧ o46 x.a.r.qs = o46 x.a.r.qs ∧ True)))))) (branch (!x.a.r.seen) (branch (decide ((0 : Int) < (↑x.a.w.length : Int)) && true && true) (branch (x.a.w.getD (0 : Nat) [] == [OfNat.ofNat (108 : Nat), OfNat.ofNat (97 : Nat), OfNat.ofNat (98 : Nat), OfNat.ofNat (101 : Nat), OfNat.ofNat (108 : Nat), OfNat.ofNat (115 : Nat)]) (branch (decide ((↑x.a.w.length : Int) > (3 : Int))) (branch (decide (x.a.w.length = (0 : Nat))) ((0 : Int) = (4 : Int) ∧ ((d9 x.a.r.labels = d9 x.a.r.labels ∧ ((0 : Nat) = (0 : Nat) ∧ x.n = x.n ∧ Nat.le (0 : Nat) (0 : Nat)) ∧ x.a.r.seen = true ∧ True) ∧ True) ∧ o46 x.a.r.qs = o46 x.a.r.qs ∧ True) (branch (!x.a.r.seen && x.a.w.getD (0 : Nat) [] == [OfNat.ofNat (108 : Nat), OfNat.ofNat (97 : Nat), OfNat.ofNat (98 : Nat), OfNat.ofNat (101 : Nat), OfNat.ofNat (108 : Nat), OfNat.ofNat (115 : Nat)]) (branch (decide ((3 : Nat) < x.a.w.length)) ((4 : Int) = (4 : Int) ∧ ((d9 x.a.r.labels = d9 x.a.r.labels ∧ ((0 : Nat) = (0 : Nat) ∧ x.n = x.n ∧ Nat.le (0 : Nat) (0 : Nat)) ∧ true =
 true ∧ True) ∧ True) ∧ o46 x.a.r.qs = o46 x.a.r.qs ∧ True) ((0 : Int) = (4 : Int) ∧ ((d9 ([] :: List.drop (1 : Nat) x.a.w) = d9 x.a.r.labels ∧ ((0 : Nat) = (0 : Nat) ∧ x.n = x.n ∧ Nat.le (0 : Nat) (0 : Nat)) ∧ true = true ∧ True) ∧ True) ∧ o46 x.a.r.qs = o46 x.a.r.qs ∧ True)) (branch (!x.a.r.seen || x.a.w.getD (0 : Nat) [] != [OfNat.ofNat (113 : Nat), OfNat.ofNat (117 : Nat), OfNat.ofNat (101 : Nat), OfNat.ofNat (117 : Nat), OfNat.ofNat (101 : Nat)]) ((6 : Int) = (4 : Int) ∧ ((d9 x.a.r.labels = d9 x.a.r.labels ∧ ((0 : Nat) = (0 : Nat) ∧ x.n = x.n ∧ Nat.le (0 : Nat) (0 : Nat)) ∧ x.a.r.seen = true ∧ True) ∧ True) ∧ o46 x.a.r.qs = o46 x.a.r.qs ∧ True) (branch (decide ((↑x.a.r.qs.length : Int) ≥ (16 : Int))) ((4 : Int) = (4 : Int) ∧ ((d9 x.a.r.labels = d9 x.a.r.labels ∧ ((0 : Nat) = (0 : Nat) ∧ x.a.r.qs.length = x.n ∧ Nat.le (0 : Nat) (0 : Nat)) ∧ x.a.r.seen = true ∧ True) ∧ True) ∧ o46 x.a.r.qs = o46 x.a.r.qs ∧ True) (branch (decide (x.a.w.length = (3 : Nat) + x.a.r.labels.length) && oksM x.a.w (x.a.w.length - (3 : Nat))) False ((6 : Int) = (4 : Int) ∧ ((d9 x.a.r.labels = d9 x.a.r.labels ∧ ((0 : Nat) = (0 : Nat) ∧ x.a.r.qs.length = x.n ∧ Nat.le (0 : Nat) (0 : Nat)) ∧ x.a.r.seen = true ∧ True) ∧ True) ∧ o46 x.a.r.qs = o46 x.a.r.qs ∧ True)))))) (branch (decide ((↑x.a.w.length : Int) ≤ (↑x.a.w.length : Int)) && decide ((↑x.a.w.length : Int) ≤ (9223372036854775807 : Int)) && decide ((↑(16 : Nat) : Int) * (↑x.a.w.length : Int) ≤ (140737488355328 : Int)) && true && true) (branch (decide ((1 : Int) ≤ (↑(↑x.a.w.length : Int).toNat : Int)) && decide ((↑(↑x.a.w.length : Int).toNat : Int) ≤ (↑(↑x.a.w.length : Int).toNat : Int))) (branch (decide ((1 : Int) ≤ (↑x.a.w.length : Int)) && decide ((↑x.a.w.length : Int) ≤ (↑x.a.w.length : Int)) && true && true) (branch (((1 : Nat) + ((↑(↑x.a.w.length : Int).toNat : Int) - (1 : Int)).toNat).ble (List.replicate (α := B) (↑x.a.w.length : Int).toNat []).length) (branch (((0 : Nat) + (↑x.a.w.length : Int).toNat).ble (setRange (List.replicate (α := B) (↑x.a.w.length : Int).toNat []) (1 : Nat) (List.take ((List.drop (1 : Nat) (List.take (↑x.a.w.length : Int).toNat x.a.w)).length.min ((↑(↑x.a.w.length : Int).toNat : Int) - (1 : Int)).toNat) (List.drop (1 : Nat) (List.take (↑x.a.w.length : Int).toNat x.a.w)))).length && true && true) (branch (decide (x.a.w.length = (0 : Nat))) ((0 : Int) = (0 : Int) ∧ ((d9 x.a.r.labels = d9 (List.drop (0 : Nat) (List.take ((0 : Nat) + (↑x.a.w.length : Int).toNat) (setRange (List.replicate (α := B) (↑x.a.w.length : Int).toNat []) (1 : Nat) (List.take ((List.drop (1 : Nat) (List.take (↑x.a.w.length : Int).toNat x.a.w)).length.min ((↑(↑x.a.w.length : Int).toNat : Int) - (1 : Int)).toNat) (List.drop (1 : Nat) (List.take (↑x.a.w.length : Int).toNat x.a.w)))))) ∧ ((0 : Nat) = (0 : Nat) ∧ x.n = x.n ∧ Nat.le (0 : Nat) (0 : Nat)) ∧ x.a.r.seen = true ∧ True) ∧ True) ∧ o46 x.a.r.qs = o46 x.a.r.qs ∧ True) (branch (!x.a.r.seen && x.a.w.getD (0 : Nat) [] == [OfNat.ofNat (108 : Nat), OfNat.ofNat (97 : Nat),
 OfNat.ofNat (98 : Nat), OfNat.ofNat (101 : Nat), OfNat.ofNat (108 : Nat), OfNat.ofNat (115 : Nat)]) (branch (decide ((3 : Nat) < x.a.w.length)) ((4 : Int) = (0 : Int) ∧ ((d9 x.a.r.labels = d9 (List.drop (0 : Nat) (List.take ((0 : Nat) + (↑x.a.w.length : Int).toNat) (setRange (List.replicate (α := B) (↑x.a.w.length : Int).toNat []) (1 : Nat) (List.take ((List.drop (1 : Nat) (List.take (↑x.a.w.length : Int).toNat x.a.w)).length.min ((↑(↑x.a.w.length : Int).toNat : Int) - (1 : Int)).toNat) (List.drop (1 : Nat) (List.take (↑x.a.w.length : Int).toNat x.a.w)))))) ∧ ((0 : Nat) = (0 : Nat) ∧ x.n = x.n ∧ Nat.le (0 : Nat) (0 : Nat)) ∧ true = true ∧ True) ∧ True) ∧ o46 x.a.r.qs = o46 x.a.r.qs ∧ True) ((0 : Int) = (0 : Int) ∧ ((d9 ([] :: List.drop (1 : Nat) x.a.w) = d9 (List.drop (0 : Nat) (List.take ((0 : Nat) + (↑x.a.w.length : Int).toNat) (setRange (List.replicate (α := B) (↑x.a.w.length : Int).toNat []) (1 : Nat) (List.take ((List.drop (1 : Nat) (List.take (↑x.a.w.length : Int).toNat x.a.w)).length.min ((↑(↑x.a.w.length : Int).toNat : Int) - (1 : Int)).toNat) (List.drop (1 : Nat) (List.take (↑x.a.w.length : Int).toNat x.a.w)))))) ∧ ((0 : Nat) = (0 : Nat) ∧ x.n = x.n ∧ Nat.le (0 : Nat) (0 : Nat)) ∧ true = true ∧ True) ∧ True) ∧ o46 x.a.r.qs = o46 x.a.r.qs ∧ True)) (branch (!x.a.r.seen || x.a.w.getD (0 : Nat) [] != [OfNat.ofNat (113 : Nat), OfNat.ofNat (117 : Nat), OfNat.ofNat (101 : Nat), OfNat.ofNat (117 : Nat), OfNat.ofNat (101 : Nat)]) ((6 : Int) = (0 : Int) ∧ ((d9 x.a.r.labels = d9 (List.drop (0 : Nat) (List.take ((0 : Nat) + (↑x.a.w.length : Int).toNat) (setRange (List.replicate (α := B) (↑x.a.w.length : Int).toNat []) (1 : Nat) (List.take ((List.drop (1 : Nat) (List.take (↑x.a.w.length : Int).toNat x.a.w)).length.min ((↑(↑x.a.w.length : Int).toNat : Int) - (1 : Int)).toNat) (List.drop (1 : Nat) (List.take (↑x.a.w.length : Int).toNat x.a.w)))))) ∧ ((0 : Nat) = (0 : Nat) ∧ x.n = x.n ∧ Nat.le (0 : Nat) (0 : Nat)) ∧ x.a.r.seen = true ∧ True) ∧ True) ∧ o46 x.a.r.qs = o46 x.a.r.qs ∧ True) (branch (decide ((↑x.a.r.qs.length : Int) ≥ (16 : Int))) ((4 : Int) = (0 : Int) ∧ ((d9 x.a.r.labels = d9 (List.drop (0 : Nat) (List.take ((0 : Nat) + (↑x.a.w.length : Int).toNat) (setRange (List.replicate (α := B) (↑x.a.w.length : Int).toNat []) (1 : Nat) (List.take ((List.drop (1 : Nat) (List.take (↑x.a.w.length : Int).toNat x.a.w)).length.min ((↑(↑x.a.w.length : Int).toNat : Int) - (1 : Int)).toNat) (List.drop (1 : Nat) (List.take (↑x.a.w.length : Int).toNat x.a.w)))))) ∧ ((0 : Nat) = (0 : Nat) ∧ x.a.r.qs.length = x.n ∧ Nat.le (0 : Nat) (0 : Nat)) ∧ x.a.r.seen = true ∧ True) ∧ True) ∧ o46 x.a.r.qs = o46 x.a.r.qs ∧ True) (branch (decide (x.a.w.length = (3 : Nat) + x.a.r.labels.length) && oksM x.a.w (x.a.w.length - (3 : Nat))) False ((6 : Int) = (0 : Int) ∧ ((d9 x.a.r.labels = d9 (List.drop (0 : Nat) (List.take ((0 : Nat) + (↑x.a.w.length : Int).toNat) (setRange (List.replicate (α := B) (↑x.a.w.length : Int).toNat []) (1 : Nat) (List.take ((List.drop (1 : Nat) (List.take
 (↑x.a.w.length : Int).toNat x.a.w)).length.min ((↑(↑x.a.w.length : Int).toNat : Int) - (1 : Int)).toNat) (List.drop (1 : Nat) (List.take (↑x.a.w.length : Int).toNat x.a.w)))))) ∧ ((0 : Nat) = (0 : Nat) ∧ x.a.r.qs.length = x.n ∧ Nat.le (0 : Nat) (0 : Nat)) ∧ x.a.r.seen = true ∧ True) ∧ True) ∧ o46 x.a.r.qs = o46 x.a.r.qs ∧ True)))))) False) False) False) False) False)) (branch (!x.a.r.seen) (branch (decide (x.a.w.length = (0 : Nat))) ((0 : Int) = (6 : Int) ∧ ((d9 x.a.r.labels = d9 x.a.r.labels ∧ ((0 : Nat) = (0 : Nat) ∧ x.n = x.n ∧ Nat.le (0 : Nat) (0 : Nat)) ∧ x.a.r.seen = x.a.r.seen ∧ True) ∧ True) ∧ o46 x.a.r.qs = o46 x.a.r.qs ∧ True) (branch (!x.a.r.seen && x.a.w.getD (0 : Nat) [] == [OfNat.ofNat (108 : Nat), OfNat.ofNat (97 : Nat), OfNat.ofNat (98 : Nat), OfNat.ofNat (101 : Nat), OfNat.ofNat (108 : Nat), OfNat.ofNat (115 : Nat)]) (branch (decide ((3 : Nat) < x.a.w.length)) ((4 : Int) = (6 : Int) ∧ ((d9 x.a.r.labels = d9 x.a.r.labels ∧ ((0 : Nat) = (0 : Nat) ∧ x.n = x.n ∧ Nat.le (0 : Nat) (0 : Nat)) ∧ true = x.a.r.seen ∧ True) ∧ True) ∧ o46 x.a.r.qs = o46 x.a.r.qs ∧ True) ((0 : Int) = (6 : Int) ∧ ((d9 ([] :: List.drop (1 : Nat) x.a.w) = d9 x.a.r.labels ∧ ((0 : Nat) = (0 : Nat) ∧ x.n = x.n ∧ Nat.le (0 : Nat) (0 : Nat)) ∧ true = x.a.r.seen ∧ True) ∧ True) ∧ o46 x.a.r.qs = o46 x.a.r.qs ∧ True)) (branch (!x.a.r.seen || x.a.w.getD (0 : Nat) [] != [OfNat.ofNat (113 : Nat), OfNat.ofNat (117 : Nat), OfNat.ofNat (101 : Nat), OfNat.ofNat (117 : Nat), OfNat.ofNat (101 : Nat)]) ((6 : Int) = (6 : Int) ∧ ((d9 x.a.r.labels = d9 x.a.r.labels ∧ ((0 : Nat) = (0 : Nat) ∧ x.n = x.n ∧ Nat.le (0 : Nat) (0 : Nat)) ∧ x.a.r.seen = x.a.r.seen ∧ True) ∧ True) ∧ o46 x.a.r.qs = o46 x.a.r.qs ∧ True) (branch (decide ((↑x.a.r.qs.length : Int) ≥ (16 : Int))) ((4 : Int) = (6 : Int) ∧ ((d9 x.a.r.labels = d9 x.a.r.labels ∧ ((0 : Nat) = (0 : Nat) ∧ x.a.r.qs.length = x.n ∧ Nat.le (0 : Nat) (0 : Nat)) ∧ x.a.r.seen = x.a.r.seen ∧ True) ∧ True) ∧ o46 x.a.r.qs = o46 x.a.r.qs ∧ True) (branch (decide (x.a.w.length = (3 : Nat) + x.a.r.labels.length) && oksM x.a.w (x.a.w.length - (3 : Nat))) False ((6 : Int) = (6 : Int) ∧ ((d9 x.a.r.labels = d9 x.a.r.labels ∧ ((0 : Nat) = (0 : Nat) ∧ x.a.r.qs.length = x.n ∧ Nat.le (0 : Nat) (0 : Nat)) ∧ x.a.r.seen = x.a.r.seen ∧ True) ∧ True) ∧ o46 x.a.r.qs = o46 x.a.r.qs ∧ True)))))) (branch (decide ((0 : Int) < (↑x.a.w.length : Int)) && true && true) (branch (!x.a.w.getD (0 : Nat) [] == [OfNat.ofNat (113 : Nat), OfNat.ofNat (117 : Nat), OfNat.ofNat (101 : Nat), OfNat.ofNat (117 : Nat), OfNat.ofNat (101 : Nat)]) (branch (decide (x.a.w.length = (0 : Nat))) ((0 : Int) = (6 : Int) ∧ ((d9 x.a.r.labels = d9 x.a.r.labels ∧ ((0 : Nat) = (0 : Nat) ∧ x.n = x.n ∧ Nat.le (0 : Nat) (0 : Nat)) ∧ x.a.r.seen = x.a.r.seen ∧ True) ∧ True) ∧ o46 x.a.r.qs = o46 x.a.r.qs ∧ True) (branch (!x.a.r.seen && x.a.w.getD (0 : Nat) [] == [OfNat.ofNat (108 : Nat), OfNat.ofNat (97 : Nat), OfNat.ofNat (98 : Nat), OfNat.ofNat (101 : Nat), OfNat.ofNat (108 : Nat), OfNat.ofNat (115 :
 Nat)]) (branch (decide ((3 : Nat) < x.a.w.length)) ((4 : Int) = (6 : Int) ∧ ((d9 x.a.r.labels = d9 x.a.r.labels ∧ ((0 : Nat) = (0 : Nat) ∧ x.n = x.n ∧ Nat.le (0 : Nat) (0 : Nat)) ∧ true = x.a.r.seen ∧ True) ∧ True) ∧ o46 x.a.r.qs = o46 x.a.r.qs ∧ True) ((0 : Int) = (6 : Int) ∧ ((d9 ([] :: List.drop (1 : Nat) x.a.w) = d9 x.a.r.labels ∧ ((0 : Nat) = (0 : Nat) ∧ x.n = x.n ∧ Nat.le (0 : Nat) (0 : Nat)) ∧ true = x.a.r.seen ∧ True) ∧ True) ∧ o46 x.a.r.qs = o46 x.a.r.qs ∧ True)) (branch (!x.a.r.seen || x.a.w.getD (0 : Nat) [] != [OfNat.ofNat (113 : Nat), OfNat.ofNat (117 : Nat), OfNat.ofNat (101 : Nat), OfNat.ofNat (117 : Nat), OfNat.ofNat (101 : Nat)]) ((6 : Int) = (6 : Int) ∧ ((d9 x.a.r.labels = d9 x.a.r.labels ∧ ((0 : Nat) = (0 : Nat) ∧ x.n = x.n ∧ Nat.le (0 : Nat) (0 : Nat)) ∧ x.a.r.seen = x.a.r.seen ∧ True) ∧ True) ∧ o46 x.a.r.qs = o46 x.a.r.qs ∧ True) (branch (decide ((↑x.a.r.qs.length : Int) ≥ (16 : Int))) ((4 : Int) = (6 : Int) ∧ ((d9 x.a.r.labels = d9 x.a.r.labels ∧ ((0 : Nat) = (0 : Nat) ∧ x.a.r.qs.length = x.n ∧ Nat.le (0 : Nat) (0 : Nat)) ∧ x.a.r.seen = x.a.r.seen ∧ True) ∧ True) ∧ o46 x.a.r.qs = o46 x.a.r.qs ∧ True) (branch (decide (x.a.w.length = (3 : Nat) + x.a.r.labels.length) && oksM x.a.w (x.a.w.length - (3 : Nat))) False ((6 : Int) = (6 : Int) ∧ ((d9 x.a.r.labels = d9 x.a.r.labels ∧ ((0 : Nat) = (0 : Nat) ∧ x.a.r.qs.length = x.n ∧ Nat.le (0 : Nat) (0 : Nat)) ∧ x.a.r.seen = x.a.r.seen ∧ True) ∧ True) ∧ o46 x.a.r.qs = o46 x.a.r.qs ∧ True)))))) (branch (S38n.pre x) (branch (decide ((↑x.a.r.qs.length : Int) ≥ (16 : Int))) (branch (decide (x.a.w.length = (0 : Nat))) ((0 : Int) = (4 : Int) ∧ ((d9 x.a.r.labels = d9 x.a.r.labels ∧ ((0 : Nat) = (0 : Nat) ∧ x.n = x.a.r.qs.length ∧ Nat.le (0 : Nat) (0 : Nat)) ∧ x.a.r.seen = x.a.r.seen ∧ True) ∧ True) ∧ o46 x.a.r.qs = o46 x.a.r.qs ∧ True) (branch (!x.a.r.seen && x.a.w.getD (0 : Nat) [] == [OfNat.ofNat (108 : Nat), OfNat.ofNat (97 : Nat), OfNat.ofNat (98 : Nat), OfNat.ofNat (101 : Nat), OfNat.ofNat (108 : Nat), OfNat.ofNat (115 : Nat)]) (branch (decide ((3 : Nat) < x.a.w.length)) ((4 : Int) = (4 : Int) ∧ ((d9 x.a.r.labels = d9 x.a.r.labels ∧ ((0 : Nat) = (0 : Nat) ∧ x.n = x.a.r.qs.length ∧ Nat.le (0 : Nat) (0 : Nat)) ∧ true = x.a.r.seen ∧ True) ∧ True) ∧ o46 x.a.r.qs = o46 x.a.r.qs ∧ True) ((0 : Int) = (4 : Int) ∧ ((d9 ([] :: List.drop (1 : Nat) x.a.w) = d9 x.a.r.labels ∧ ((0 : Nat) = (0 : Nat) ∧ x.n = x.a.r.qs.length ∧ Nat.le (0 : Nat) (0 : Nat)) ∧ true = x.a.r.seen ∧ True) ∧ True) ∧ o46 x.a.r.qs = o46 x.a.r.qs ∧ True)) (branch (!x.a.r.seen || x.a.w.getD (0 : Nat) [] != [OfNat.ofNat (113 : Nat), OfNat.ofNat (117 : Nat), OfNat.ofNat (101 : Nat), OfNat.ofNat (117 : Nat), OfNat.ofNat (101 : Nat)]) ((6 : Int) = (4 : Int) ∧ ((d9 x.a.r.labels = d9 x.a.r.labels ∧ ((0 : Nat) = (0 : Nat) ∧ x.n = x.a.r.qs.length ∧ Nat.le (0 : Nat) (0 : Nat)) ∧ x.a.r.seen = x.a.r.seen ∧ True) ∧ True) ∧ o46 x.a.r.qs = o46 x.a.r.qs ∧ True) (branch (decide ((↑x.a.r.qs.length : Int) ≥ (16 : Int))) ((4 : Int) = (4 : Int) ∧ ((d9
 x.a.r.labels = d9 x.a.r.labels ∧ ((0 : Nat) = (0 : Nat) ∧ x.a.r.qs.length = x.a.r.qs.length ∧ Nat.le (0 : Nat) (0 : Nat)) ∧ x.a.r.seen = x.a.r.seen ∧ True) ∧ True) ∧ o46 x.a.r.qs = o46 x.a.r.qs ∧ True) (branch (decide (x.a.w.length = (3 : Nat) + x.a.r.labels.length) && oksM x.a.w (x.a.w.length - (3 : Nat))) False ((6 : Int) = (4 : Int) ∧ ((d9 x.a.r.labels = d9 x.a.r.labels ∧ ((0 : Nat) = (0 : Nat) ∧ x.a.r.qs.length = x.a.r.qs.length ∧ Nat.le (0 : Nat) (0 : Nat)) ∧ x.a.r.seen = x.a.r.seen ∧ True) ∧ True) ∧ o46 x.a.r.qs = o46 x.a.r.qs ∧ True)))))) (branch (decide (x.a.w.length = (3 : Nat) + x.a.r.labels.length) && oksM x.a.w (x.a.w.length - (3 : Nat))) (branch (decide (x.a.w.length = (0 : Nat))) ((0 : Int) = (0 : Int) ∧ ((d9 x.a.r.labels = d9 x.a.r.labels ∧ False ∧ x.a.r.seen = x.a.r.seen ∧ True) ∧ True) ∧ False) (branch (!x.a.r.seen && x.a.w.getD (0 : Nat) [] == [OfNat.ofNat (108 : Nat), OfNat.ofNat (97 : Nat), OfNat.ofNat (98 : Nat), OfNat.ofNat (101 : Nat), OfNat.ofNat (108 : Nat), OfNat.ofNat (115 : Nat)]) (branch (decide ((3 : Nat) < x.a.w.length)) ((4 : Int) = (0 : Int) ∧ ((d9 x.a.r.labels = d9 x.a.r.labels ∧ False ∧ true = x.a.r.seen ∧ True) ∧ True) ∧ False) ((0 : Int) = (0 : Int) ∧ ((d9 ([] :: List.drop (1 : Nat) x.a.w) = d9 x.a.r.labels ∧ False ∧ true = x.a.r.seen ∧ True) ∧ True) ∧ False)) (branch (!x.a.r.seen || x.a.w.getD (0 : Nat) [] != [OfNat.ofNat (113 : Nat), OfNat.ofNat (117 : Nat), OfNat.ofNat (101 : Nat), OfNat.ofNat (117 : Nat), OfNat.ofNat (101 : Nat)]) ((6 : Int) = (0 : Int) ∧ ((d9 x.a.r.labels = d9 x.a.r.labels ∧ False ∧ x.a.r.seen = x.a.r.seen ∧ True) ∧ True) ∧ False) (branch (decide ((↑x.a.r.qs.length : Int) ≥ (16 : Int))) ((4 : Int) = (0 : Int) ∧ ((d9 x.a.r.labels = d9 x.a.r.labels ∧ False ∧ x.a.r.seen = x.a.r.seen ∧ True) ∧ True) ∧ False) (branch (decide (x.a.w.length = (3 : Nat) + x.a.r.labels.length) && oksM x.a.w (x.a.w.length - (3 : Nat))) ((0 : Int) = (0 : Int) ∧ ((d9 x.a.r.labels = d9 x.a.r.labels ∧ ((0 : Nat) = (0 : Nat) ∧ (x.a.r.qs ++ [newQ x.a.w]).length = (x.a.r.qs ++ [newQ x.a.w]).length ∧ Nat.le (0 : Nat) (0 : Nat)) ∧ x.a.r.seen = x.a.r.seen ∧ True) ∧ True) ∧ o46 (x.a.r.qs ++ [newQ x.a.w]) = o46 (x.a.r.qs ++ [newQ x.a.w]) ∧ True) ((6 : Int) = (0 : Int) ∧ ((d9 x.a.r.labels = d9 x.a.r.labels ∧ False ∧ x.a.r.seen = x.a.r.seen ∧ True) ∧ True) ∧ False)))))) (branch (decide (x.a.w.length = (0 : Nat))) ((0 : Int) = (6 : Int) ∧ ((d9 x.a.r.labels = d9 x.a.r.labels ∧ ((0 : Nat) = (0 : Nat) ∧ x.n = x.a.r.qs.length ∧ Nat.le (0 : Nat) (0 : Nat)) ∧ x.a.r.seen = x.a.r.seen ∧ True) ∧ True) ∧ o46 x.a.r.qs = o46 x.a.r.qs ∧ True) (branch (!x.a.r.seen && x.a.w.getD (0 : Nat) [] == [OfNat.ofNat (108 : Nat), OfNat.ofNat (97 : Nat), OfNat.ofNat (98 : Nat), OfNat.ofNat (101 : Nat), OfNat.ofNat (108 : Nat), OfNat.ofNat (115 : Nat)]) (branch (decide ((3 : Nat) < x.a.w.length)) ((4 : Int) = (6 : Int) ∧ ((d9 x.a.r.labels = d9 x.a.r.labels ∧ ((0 : Nat) = (0 : Nat) ∧ x.n = x.a.r.qs.length ∧ Nat.le (0 : Nat) (0 : Nat)) ∧ true = x.a.r.seen ∧
 True) ∧ True) ∧ o46 x.a.r.qs = o46 x.a.r.qs ∧ True) ((0 : Int) = (6 : Int) ∧ ((d9 ([] :: List.drop (1 : Nat) x.a.w) = d9 x.a.r.labels ∧ ((0 : Nat) = (0 : Nat) ∧ x.n = x.a.r.qs.length ∧ Nat.le (0 : Nat) (0 : Nat)) ∧ true = x.a.r.seen ∧ True) ∧ True) ∧ o46 x.a.r.qs = o46 x.a.r.qs ∧ True)) (branch (!x.a.r.seen || x.a.w.getD (0 : Nat) [] != [OfNat.ofNat (113 : Nat), OfNat.ofNat (117 : Nat), OfNat.ofNat (101 : Nat), OfNat.ofNat (117 : Nat), OfNat.ofNat (101 : Nat)]) ((6 : Int) = (6 : Int) ∧ ((d9 x.a.r.labels = d9 x.a.r.labels ∧ ((0 : Nat) = (0 : Nat) ∧ x.n = x.a.r.qs.length ∧ Nat.le (0 : Nat) (0 : Nat)) ∧ x.a.r.seen = x.a.r.seen ∧ True) ∧ True) ∧ o46 x.a.r.qs = o46 x.a.r.qs ∧ True) (branch (decide ((↑x.a.r.qs.length : Int) ≥ (16 : Int))) ((4 : Int) = (6 : Int) ∧ ((d9 x.a.r.labels = d9 x.a.r.labels ∧ ((0 : Nat) = (0 : Nat) ∧ x.a.r.qs.length = x.a.r.qs.length ∧ Nat.le (0 : Nat) (0 : Nat)) ∧ x.a.r.seen = x.a.r.seen ∧ True) ∧ True) ∧ o46 x.a.r.qs = o46 x.a.r.qs ∧ True) (branch (decide (x.a.w.length = (3 : Nat) + x.a.r.labels.length) && oksM x.a.w (x.a.w.length - (3 : Nat))) False ((6 : Int) = (6 : Int) ∧ ((d9 x.a.r.labels = d9 x.a.r.labels ∧ ((0 : Nat) = (0 : Nat) ∧ x.a.r.qs.length = x.a.r.qs.length ∧ Nat.le (0 : Nat) (0 : Nat)) ∧ x.a.r.seen = x.a.r.seen ∧ True) ∧ True) ∧ o46 x.a.r.qs = o46 x.a.r.qs ∧ True)))))))) False)) False))) False) (branch (!x.a.r.seen) (branch (decide (x.a.w.length = (0 : Nat))) ((0 : Int) = (6 : Int) ∧ ((d9 x.a.r.labels = d9 x.a.r.labels ∧ ((0 : Nat) = (0 : Nat) ∧ x.n = x.n ∧ Nat.le (0 : Nat) (0 : Nat)) ∧ x.a.r.seen = x.a.r.seen ∧ True) ∧ True) ∧ o46 x.a.r.qs = o46 x.a.r.qs ∧ True) (branch (!x.a.r.seen && x.a.w.getD (0 : Nat) [] == [OfNat.ofNat (108 : Nat), OfNat.ofNat (97 : Nat), OfNat.ofNat (98 : Nat), OfNat.ofNat (101 : Nat), OfNat.ofNat (108 : Nat), OfNat.ofNat (115 : Nat)]) (branch (decide ((3 : Nat) < x.a.w.length)) ((4 : Int) = (6 : Int) ∧ ((d9 x.a.r.labels = d9 x.a.r.labels ∧ ((0 : Nat) = (0 : Nat) ∧ x.n = x.n ∧ Nat.le (0 : Nat) (0 : Nat)) ∧ true = x.a.r.seen ∧ True) ∧ True) ∧ o46 x.a.r.qs = o46 x.a.r.qs ∧ True) ((0 : Int) = (6 : Int) ∧ ((d9 ([] :: List.drop (1 : Nat) x.a.w) = d9 x.a.r.labels ∧ ((0 : Nat) = (0 : Nat) ∧ x.n = x.n ∧ Nat.le (0 : Nat) (0 : Nat)) ∧ true = x.a.r.seen ∧ True) ∧ True) ∧ o46 x.a.r.qs = o46 x.a.r.qs ∧ True)) (branch (!x.a.r.seen || x.a.w.getD (0 : Nat) [] != [OfNat.ofNat (113 : Nat), OfNat.ofNat (117 : Nat), OfNat.ofNat (101 : Nat), OfNat.ofNat (117 : Nat), OfNat.ofNat (101 : Nat)]) ((6 : Int) = (6 : Int) ∧ ((d9 x.a.r.labels = d9 x.a.r.labels ∧ ((0 : Nat) = (0 : Nat) ∧ x.n = x.n ∧ Nat.le (0 : Nat) (0 : Nat)) ∧ x.a.r.seen = x.a.r.seen ∧ True) ∧ True) ∧ o46 x.a.r.qs = o46 x.a.r.qs ∧ True) (branch (decide ((↑x.a.r.qs.length : Int) ≥ (16 : Int))) ((4 : Int) = (6 : Int) ∧ ((d9 x.a.r.labels = d9 x.a.r.labels ∧ ((0 : Nat) = (0 : Nat) ∧ x.a.r.qs.length = x.n ∧ Nat.le (0 : Nat) (0 : Nat)) ∧ x.a.r.seen = x.a.r.seen ∧ True) ∧ True) ∧ o46 x.a.r.qs = o46 x.a.r.qs ∧ True) (branch (decide (x.a.w.length = (3 : Nat)
 + x.a.r.labels.length) && oksM x.a.w (x.a.w.length - (3 : Nat))) False ((6 : Int) = (6 : Int) ∧ ((d9 x.a.r.labels = d9 x.a.r.labels ∧ ((0 : Nat) = (0 : Nat) ∧ x.a.r.qs.length = x.n ∧ Nat.le (0 : Nat) (0 : Nat)) ∧ x.a.r.seen = x.a.r.seen ∧ True) ∧ True) ∧ o46 x.a.r.qs = o46 x.a.r.qs ∧ True)))))) (branch (decide ((0 : Int) < (↑x.a.w.length : Int)) && true && true) (branch (!x.a.w.getD (0 : Nat) [] == [OfNat.ofNat (113 : Nat), OfNat.ofNat (117 : Nat), OfNat.ofNat (101 : Nat), OfNat.ofNat (117 : Nat), OfNat.ofNat (101 : Nat)]) (branch (decide (x.a.w.length = (0 : Nat))) ((0 : Int) = (6 : Int) ∧ ((d9 x.a.r.labels = d9 x.a.r.labels ∧ ((0 : Nat) = (0 : Nat) ∧ x.n = x.n ∧ Nat.le (0 : Nat) (0 : Nat)) ∧ x.a.r.seen = x.a.r.seen ∧ True) ∧ True) ∧ o46 x.a.r.qs = o46 x.a.r.qs ∧ True) (branch (!x.a.r.seen && x.a.w.getD (0 : Nat) [] == [OfNat.ofNat (108 : Nat), OfNat.ofNat (97 : Nat), OfNat.ofNat (98 : Nat), OfNat.ofNat (101 : Nat), OfNat.ofNat (108 : Nat), OfNat.ofNat (115 : Nat)]) (branch (decide ((3 : Nat) < x.a.w.length)) ((4 : Int) = (6 : Int) ∧ ((d9 x.a.r.labels = d9 x.a.r.labels ∧ ((0 : Nat) = (0 : Nat) ∧ x.n = x.n ∧ Nat.le (0 : Nat) (0 : Nat)) ∧ true = x.a.r.seen ∧ True) ∧ True) ∧ o46 x.a.r.qs = o46 x.a.r.qs ∧ True) ((0 : Int) = (6 : Int) ∧ ((d9 ([] :: List.drop (1 : Nat) x.a.w) = d9 x.a.r.labels ∧ ((0 : Nat) = (0 : Nat) ∧ x.n = x.n ∧ Nat.le (0 : Nat) (0 : Nat)) ∧ true = x.a.r.seen ∧ True) ∧ True) ∧ o46 x.a.r.qs = o46 x.a.r.qs ∧ True)) (branch (!x.a.r.seen || x.a.w.getD (0 : Nat) [] != [OfNat.ofNat (113 : Nat), OfNat.ofNat (117 : Nat), OfNat.ofNat (101 : Nat), OfNat.ofNat (117 : Nat), OfNat.ofNat (101 : Nat)]) ((6 : Int) = (6 : Int) ∧ ((d9 x.a.r.labels = d9 x.a.r.labels ∧ ((0 : Nat) = (0 : Nat) ∧ x.n = x.n ∧ Nat.le (0 : Nat) (0 : Nat)) ∧ x.a.r.seen = x.a.r.seen ∧ True) ∧ True) ∧ o46 x.a.r.qs = o46 x.a.r.qs ∧ True) (branch (decide ((↑x.a.r.qs.length : Int) ≥ (16 : Int))) ((4 : Int) = (6 : Int) ∧ ((d9 x.a.r.labels = d9 x.a.r.labels ∧ ((0 : Nat) = (0 : Nat) ∧ x.a.r.qs.length = x.n ∧ Nat.le (0 : Nat) (0 : Nat)) ∧ x.a.r.seen = x.a.r.seen ∧ True) ∧ True) ∧ o46 x.a.r.qs = o46 x.a.r.qs ∧ True) (branch (decide (x.a.w.length = (3 : Nat) + x.a.r.labels.length) && oksM x.a.w (x.a.w.length - (3 : Nat))) False ((6 : Int) = (6 : Int) ∧ ((d9 x.a.r.labels = d9 x.a.r.labels ∧ ((0 : Nat) = (0 : Nat) ∧ x.a.r.qs.length = x.n ∧ Nat.le (0 : Nat) (0 : Nat)) ∧ x.a.r.seen = x.a.r.seen ∧ True) ∧ True) ∧ o46 x.a.r.qs = o46 x.a.r.qs ∧ True)))))) (branch (S38n.pre x) (branch (decide ((↑x.a.r.qs.length : Int) ≥ (16 : Int))) (branch (decide (x.a.w.length = (0 : Nat))) ((0 : Int) = (4 : Int) ∧ ((d9 x.a.r.labels = d9 x.a.r.labels ∧ ((0 : Nat) = (0 : Nat) ∧ x.n = x.a.r.qs.length ∧ Nat.le (0 : Nat) (0 : Nat)) ∧ x.a.r.seen = x.a.r.seen ∧ True) ∧ True) ∧ o46 x.a.r.qs = o46 x.a.r.qs ∧ True) (branch (!x.a.r.seen && x.a.w.getD (0 : Nat) [] == [OfNat.ofNat (108 : Nat), OfNat.ofNat (97 : Nat), OfNat.ofNat (98 : Nat), OfNat.ofNat (101 : Nat), OfNat.ofNat (108 : Nat), OfNat.ofNat (115 : Nat)])
 (branch (decide ((3 : Nat) < x.a.w.length)) ((4 : Int) = (4 : Int) ∧ ((d9 x.a.r.labels = d9 x.a.r.labels ∧ ((0 : Nat) = (0 : Nat) ∧ x.n = x.a.r.qs.length ∧ Nat.le (0 : Nat) (0 : Nat)) ∧ true = x.a.r.seen ∧ True) ∧ True) ∧ o46 x.a.r.qs = o46 x.a.r.qs ∧ True) ((0 : Int) = (4 : Int) ∧ ((d9 ([] :: List.drop (1 : Nat) x.a.w) = d9 x.a.r.labels ∧ ((0 : Nat) = (0 : Nat) ∧ x.n = x.a.r.qs.length ∧ Nat.le (0 : Nat) (0 : Nat)) ∧ true = x.a.r.seen ∧ True) ∧ True) ∧ o46 x.a.r.qs = o46 x.a.r.qs ∧ True)) (branch (!x.a.r.seen || x.a.w.getD (0 : Nat) [] != [OfNat.ofNat (113 : Nat), OfNat.ofNat (117 : Nat), OfNat.ofNat (101 : Nat), OfNat.ofNat (117 : Nat), OfNat.ofNat (101 : Nat)]) ((6 : Int) = (4 : Int) ∧ ((d9 x.a.r.labels = d9 x.a.r.labels ∧ ((0 : Nat) = (0 : Nat) ∧ x.n = x.a.r.qs.length ∧ Nat.le (0 : Nat) (0 : Nat)) ∧ x.a.r.seen = x.a.r.seen ∧ True) ∧ True) ∧ o46 x.a.r.qs = o46 x.a.r.qs ∧ True) (branch (decide ((↑x.a.r.qs.length : Int) ≥ (16 : Int))) ((4 : Int) = (4 : Int) ∧ ((d9 x.a.r.labels = d9 x.a.r.labels ∧ ((0 : Nat) = (0 : Nat) ∧ x.a.r.qs.length = x.a.r.qs.length ∧ Nat.le (0 : Nat) (0 : Nat)) ∧ x.a.r.seen = x.a.r.seen ∧ True) ∧ True) ∧ o46 x.a.r.qs = o46 x.a.r.qs ∧ True) (branch (decide (x.a.w.length = (3 : Nat) + x.a.r.labels.length) && oksM x.a.w (x.a.w.length - (3 : Nat))) False ((6 : Int) = (4 : Int) ∧ ((d9 x.a.r.labels = d9 x.a.r.labels ∧ ((0 : Nat) = (0 : Nat) ∧ x.a.r.qs.length = x.a.r.qs.length ∧ Nat.le (0 : Nat) (0 : Nat)) ∧ x.a.r.seen = x.a.r.seen ∧ True) ∧ True) ∧ o46 x.a.r.qs = o46 x.a.r.qs ∧ True)))))) (branch (decide (x.a.w.length = (3 : Nat) + x.a.r.labels.length) && oksM x.a.w (x.a.w.length - (3 : Nat))) (branch (decide (x.a.w.length = (0 : Nat))) ((0 : Int) = (0 : Int) ∧ ((d9 x.a.r.labels = d9 x.a.r.labels ∧ False ∧ x.a.r.seen = x.a.r.seen ∧ True) ∧ True) ∧ False) (branch (!x.a.r.seen && x.a.w.getD (0 : Nat) [] == [OfNat.ofNat (108 : Nat), OfNat.ofNat (97 : Nat), OfNat.ofNat (98 : Nat), OfNat.ofNat (101 : Nat), OfNat.ofNat (108 : Nat), OfNat.ofNat (115 : Nat)]) (branch (decide ((3 : Nat) < x.a.w.length)) ((4 : Int) = (0 : Int) ∧ ((d9 x.a.r.labels = d9 x.a.r.labels ∧ False ∧ true = x.a.r.seen ∧ True) ∧ True) ∧ False) ((0 : Int) = (0 : Int) ∧ ((d9 ([] :: List.drop (1 : Nat) x.a.w) = d9 x.a.r.labels ∧ False ∧ true = x.a.r.seen ∧ True) ∧ True) ∧ False)) (branch (!x.a.r.seen || x.a.w.getD (0 : Nat) [] != [OfNat.ofNat (113 : Nat), OfNat.ofNat (117 : Nat), OfNat.ofNat (101 : Nat), OfNat.ofNat (117 : Nat), OfNat.ofNat (101 : Nat)]) ((6 : Int) = (0 : Int) ∧ ((d9 x.a.r.labels = d9 x.a.r.labels ∧ False ∧ x.a.r.seen = x.a.r.seen ∧ True) ∧ True) ∧ False) (branch (decide ((↑x.a.r.qs.length : Int) ≥ (16 : Int))) ((4 : Int) = (0 : Int) ∧ ((d9 x.a.r.labels = d9 x.a.r.labels ∧ False ∧ x.a.r.seen = x.a.r.seen ∧ True) ∧ True) ∧ False) (branch (decide (x.a.w.length = (3 : Nat) + x.a.r.labels.length) && oksM x.a.w (x.a.w.length - (3 : Nat))) ((0 : Int) = (0 : Int) ∧ ((d9 x.a.r.labels = d9 x.a.r.labels ∧ ((0 : Nat) = (0 : Nat) ∧ (x.a.r.qs ++ [newQ x.a.w]).length
 = (x.a.r.qs ++ [newQ x.a.w]).length ∧ Nat.le (0 : Nat) (0 : Nat)) ∧ x.a.r.seen = x.a.r.seen ∧ True) ∧ True) ∧ o46 (x.a.r.qs ++ [newQ x.a.w]) = o46 (x.a.r.qs ++ [newQ x.a.w]) ∧ True) ((6 : Int) = (0 : Int) ∧ ((d9 x.a.r.labels = d9 x.a.r.labels ∧ False ∧ x.a.r.seen = x.a.r.seen ∧ True) ∧ True) ∧ False)))))) (branch (decide (x.a.w.length = (0 : Nat))) ((0 : Int) = (6 : Int) ∧ ((d9 x.a.r.labels = d9 x.a.r.labels ∧ ((0 : Nat) = (0 : Nat) ∧ x.n = x.a.r.qs.length ∧ Nat.le (0 : Nat) (0 : Nat)) ∧ x.a.r.seen = x.a.r.seen ∧ True) ∧ True) ∧ o46 x.a.r.qs = o46 x.a.r.qs ∧ True) (branch (!x.a.r.seen && x.a.w.getD (0 : Nat) [] == [OfNat.ofNat (108 : Nat), OfNat.ofNat (97 : Nat), OfNat.ofNat (98 : Nat), OfNat.ofNat (101 : Nat), OfNat.ofNat (108 : Nat), OfNat.ofNat (115 : Nat)]) (branch (decide ((3 : Nat) < x.a.w.length)) ((4 : Int) = (6 : Int) ∧ ((d9 x.a.r.labels = d9 x.a.r.labels ∧ ((0 : Nat) = (0 : Nat) ∧ x.n = x.a.r.qs.length ∧ Nat.le (0 : Nat) (0 : Nat)) ∧ true = x.a.r.seen ∧ True) ∧ True) ∧ o46 x.a.r.qs = o46 x.a.r.qs ∧ True) ((0 : Int) = (6 : Int) ∧ ((d9 ([] :: List.drop (1 : Nat) x.a.w) = d9 x.a.r.labels ∧ ((0 : Nat) = (0 : Nat) ∧ x.n = x.a.r.qs.length ∧ Nat.le (0 : Nat) (0 : Nat)) ∧ true = x.a.r.seen ∧ True) ∧ True) ∧ o46 x.a.r.qs = o46 x.a.r.qs ∧ True)) (branch (!x.a.r.seen || x.a.w.getD (0 : Nat) [] != [OfNat.ofNat (113 : Nat), OfNat.ofNat (117 : Nat), OfNat.ofNat (101 : Nat), OfNat.ofNat (117 : Nat), OfNat.ofNat (101 : Nat)]) ((6 : Int) = (6 : Int) ∧ ((d9 x.a.r.labels = d9 x.a.r.labels ∧ ((0 : Nat) = (0 : Nat) ∧ x.n = x.a.r.qs.length ∧ Nat.le (0 : Nat) (0 : Nat)) ∧ x.a.r.seen = x.a.r.seen ∧ True) ∧ True) ∧ o46 x.a.r.qs = o46 x.a.r.qs ∧ True) (branch (decide ((↑x.a.r.qs.length : Int) ≥ (16 : Int))) ((4 : Int) = (6 : Int) ∧ ((d9 x.a.r.labels = d9 x.a.r.labels ∧ ((0 : Nat) = (0 : Nat) ∧ x.a.r.qs.length = x.a.r.qs.length ∧ Nat.le (0 : Nat) (0 : Nat)) ∧ x.a.r.seen = x.a.r.seen ∧ True) ∧ True) ∧ o46 x.a.r.qs = o46 x.a.r.qs ∧ True) (branch (decide (x.a.w.length = (3 : Nat) + x.a.r.labels.length) && oksM x.a.w (x.a.w.length - (3 : Nat))) False ((6 : Int) = (6 : Int) ∧ ((d9 x.a.r.labels = d9 x.a.r.labels ∧ ((0 : Nat) = (0 : Nat) ∧ x.a.r.qs.length = x.a.r.qs.length ∧ Nat.le (0 : Nat) (0 : Nat)) ∧ x.a.r.seen = x.a.r.seen ∧ True) ∧ True) ∧ o46 x.a.r.qs = o46 x.a.r.qs ∧ True)))))))) False)) False)))) := by kernel_rfl

end Go.Proofs.YtaonjbojhikndaaDoor

namespace Go.Proofs.YtaonjbojhikndaaDoor
open Go Go.W
set_option maxRecDepth 100000
theorem newL_set {w : List B} (h : 0 < w.length) : List.drop 0 (List.take (0 + ((w.length : Int)).toNat) (setRange (List.replicate (α := B) ((w.length : Int)).toNat []) 1 (List.take ((List.drop 1 (List.take ((w.length : Int)).toNat w)).length.min ((((w.length : Int)).toNat : Int) - 1).toNat) (List.drop 1 (List.take ((w.length : Int)).toNat w))))) = [] :: List.drop 1 w := by
  obtain ⟨a, w, rfl⟩ : ∃ a u, w = a :: u := by cases w with | nil => simp at h | cons a u => exact ⟨a, u, rfl⟩
  have e1 : (((a :: w).length : Int)).toNat = w.length + 1 := by simp
  have e2 : (((w.length + 1 : Nat) : Int) - 1).toNat = w.length := by omega
  rw [e1, e2]
  have e3 : List.take (w.length + 1) (a :: w) = a :: w := List.take_of_length_le (by simp)
  rw [e3]
  have e4 : List.drop 1 (a :: w) = w := rfl
  rw [e4]
  have e5 : w.length.min w.length = w.length := Nat.min_self _
  rw [e5, List.take_length, List.drop_zero]
  have e6 : setRange (List.replicate (α := B) (w.length + 1) []) 1 w = [] :: w := by
    unfold setRange
    simp [List.replicate_succ]
    apply Nat.le_of_eq; omega
  rw [e6]
  exact List.take_of_length_le (by simp)
theorem len24 {a : AQ} (h : a.fine = true) : a.w.length ≤ 1000000 := by
  simp only [AQ.fine, Bool.and_eq_true] at h
  have := small_le h.1.1.1
  omega
theorem ok24 (x : AN) (hx : x.fine = true) : OwesN e10 24 S24 A24 noL noJ () x := by
  refine OwesN.mk ?_
  have hp : S38n.pre x = true := hx
  have hq : x.n = x.a.r.qs.length ∧ x.a.fine = true := by
    simp only [AN.fine, Bool.and_eq_true] at hx
    exact ⟨Nat.eq_of_beq_eq_true hx.1, hx.2⟩
  have hn := hq.1
  have hf := hq.2
  have hw : x.a.w.length ≤ 1000000 := len24 hf
  rw [v24]
  by_cases h0 : x.a.w.length = 0
  · exact brT (by simp [h0]) (brT (dT h0) ⟨rfl, ⟨⟨rfl, ⟨rfl, rfl, Nat.le_refl _⟩, rfl, trivial⟩, trivial⟩, rfl, trivial⟩)
  · have d0 : decide (x.a.w.length = 0) = false := dF h0
    refine brF (bF (by omega)) ?_
    have b0 : (decide ((0 : Int) < (x.a.w.length : Int)) && true && true) = true := by simp; omega
    cases hs : x.a.r.seen with
    | false =>
      refine brT rfl (brT b0 ?_)
      cases hl : (x.a.w.getD 0 [] == wLabels) with
      | true =>
        refine brT hl ?_
        by_cases h3 : 3 < x.a.w.length
        · exact brT (by simp; omega) (brF d0 (brT (by exact hl) (brT (dT h3) ⟨rfl, ⟨⟨rfl, ⟨rfl, rfl, Nat.le_refl _⟩, rfl, trivial⟩, trivial⟩, rfl, trivial⟩)))
        · refine brF (by simp; omega) (brT (by simp; omega) (brT (by simp; omega) (brT (by simp; omega) (brT (Nat.ble_eq_true_of_le (by simp; omega)) (brT ?_ ?_)))))
          · rw [Bool.and_true, Bool.and_true]
            refine Nat.ble_eq_true_of_le ?_
            rw [length_setRange _ _ _ (by simp; omega)]
            simp
          · refine brF d0 (brT (by exact hl) (brF (dF h3) ⟨rfl, ⟨⟨?_, ⟨rfl, rfl, Nat.le_refl _⟩, rfl, trivial⟩, trivial⟩, rfl, trivial⟩))
            rw [newL_set (by omega)]
      | false =>
        exact brF hl (brT rfl (brF d0 (brF (by exact hl) (brT rfl ⟨rfl, ⟨⟨rfl, ⟨rfl, rfl, Nat.le_refl _⟩, rfl, trivial⟩, trivial⟩, rfl, trivial⟩))))
    | true =>
      refine brF rfl (brF rfl (brT b0 ?_))
      cases hl : (x.a.w.getD 0 [] == wQueue) with
      | false =>
        have hl' : (x.a.w.getD 0 [] != wQueue) = true := by rw [bne, hl]; rfl
        exact brT (by exact hl') (brF d0 (brF rfl (brT (by exact hl') ⟨rfl, ⟨⟨rfl, ⟨rfl, rfl, Nat.le_refl _⟩, rfl, trivial⟩, trivial⟩, rfl, trivial⟩)))
      | true =>
        have hl' : (x.a.w.getD 0 [] != wQueue) = false := by rw [bne, hl]; rfl
        refine brF (by exact hl') (brT hp ?_)
        refine br (fun h16 => ?_) (fun h16 => ?_)
        · exact brF d0 (brF rfl (brF (by exact hl') (brT h16 ⟨rfl, ⟨⟨rfl, ⟨rfl, rfl, Nat.le_refl _⟩, rfl, trivial⟩, trivial⟩, rfl, trivial⟩)))
        · refine br (fun hc => ?_) (fun hc => ?_)
          · exact brF d0 (brF rfl (brF (by exact hl') (brF h16 (brT hc ⟨rfl, ⟨⟨rfl, ⟨rfl, rfl, Nat.le_refl _⟩, rfl, trivial⟩, trivial⟩, rfl, trivial⟩))))
          · exact brF d0 (brF rfl (brF (by exact hl') (brF h16 (brF hc ⟨rfl, ⟨⟨rfl, ⟨rfl, rfl, Nat.le_refl _⟩, rfl, trivial⟩, trivial⟩, rfl, trivial⟩))))
theorem k24 : SpecOk Tryd.prog 24 S24 := spec_loopN e10_sound (by kernel_rfl) (fun _ => A24) (fun _ => noL) (fun _ => noJ) (fun _ => ()) ok24
end Go.Proofs.YtaonjbojhikndaaDoor

namespace Go.Proofs.YtaonjbojhikndaaDoor
open Go Go.W
set_option maxRecDepth 100000

def qd : Qu := ⟨[], [], 0⟩
def ltQ (x y : Qu) : Bool := Op.bytesLess x.path y.path
def swapM (xs : List Qu) (j : Nat) : List Qu := (xs.set j (xs.getD (j - 1) qd)).set (j - 1) (xs.getD j qd)
def sinkM : Nat → List Qu → List Qu
  | 0, xs => xs
  | j + 1, xs => bif ltQ (xs.getD (j + 1) qd) (xs.getD j qd) then sinkM j (swapM xs (j + 1)) else xs
def orderM : Nat → List Qu → List Qu
  | 0, xs => xs
  | i + 1, xs => sinkM i (orderM i xs)
structure AO where
  xs : List Qu
  n : Nat
def AO.fine (a : AO) : Bool := Nat.beq a.n a.xs.length && small a.xs.length
def S53 : Go.W.Spec regK.T := ⟨AO, fun a => [.sl 0 0 a.n (.least 0), ki 0, ki a.n, .fn 28 [] []], fun a => [.trows 46 a.xs], AO.fine,
  fun a => .ret (.tup [], [some (.trows 46 (orderM a.n a.xs))])⟩
structure R53 where
  j : Nat
  ys : List Qu
structure P53 (a : AO) (i : Nat) (x : R53) : Prop where
  le : x.j ≤ i
  lt : i < a.n
  len : x.ys.length = a.xs.length
  at' : sinkM x.j x.ys = orderM (i + 1) a.xs
def L53 (a : AO) (g : Nat) (k : Nat) (_ : St regK.T) : Option (LoopI regK.T Nat) := match Nat.beq k 1 with
  | true => some ⟨{ i : Nat // 1 ≤ i ∧ (i ≤ a.n ∨ i = 1) }, fun i => ⟨[(0, .sl 0 0 a.n (.least 0)), (1, ki 0), (2, ki a.n), (3, .fn 28 [] []), (8, ki (i.1 : Nat))], [(0, .trows 46 (orderM i.1 a.xs))], 1⟩, fun i => a.n + 1 - i.1, fun i => i.1⟩
  | false => (match Nat.beq k 4 with
    | true => some ⟨{ x : R53 // P53 a g x }, fun x => ⟨[(0, .sl 0 0 a.n (.least 0)), (1, ki 0), (2, ki a.n), (3, .fn 28 [] []), (8, ki (g : Nat)), (9, ki (x.1.j : Nat))], [(0, .trows 46 x.1.ys)], 1⟩, fun x => x.1.j, fun _ => g⟩
    | false => none)
end Go.Proofs.YtaonjbojhikndaaDoor

namespace Go.Proofs.YtaonjbojhikndaaDoor
open Go Go.W Go.Proofs
set_option maxRecDepth 100000
theorem v53 (a : AO) : (OwesDN e0 (53 : Nat) S53 (fun (_ : Nat) => []) (L53 a) noJ (0 : Nat) a) = ( (∃ (x : { i : Nat // (1 : Nat) ≤ i ∧ (i ≤ a.n ∨ i = (1 : Nat)) }), (((0 : Nat) = (0 : Nat) ∧ a.n = a.n ∧ Nat.le (0 : Nat) (0 : Nat)) ∧ (0 : Int) = (0 : Int) ∧ (↑a.n : Int) = (↑a.n : Int) ∧ (True ∧ True) ∧ (↑x.val : Int) = IntKind.i64.wrap ((0 : Int) + (1 : Int)) ∧ True) ∧ o46 (orderM x.val a.xs) = o46 a.xs ∧ True) ∧ ∀ (x : { i : Nat // (1 : Nat) ≤ i ∧ (i ≤ a.n ∨ i = (1 : Nat)) }), branch (decide ((↑x.val : Int) < (↑a.n : Int))) ((∃ (x_1 : { x_1 : R53 // P53 a x.val x_1 }), (((0 : Nat) = (0 : Nat) ∧ a.n = a.n ∧ Nat.le (0 : Nat) (0 : Nat)) ∧ (0 : Int) = (0 : Int) ∧ (↑a.n : Int) = (↑a.n : Int) ∧ (True ∧ True) ∧ (↑x.val : Int) = (↑x.val : Int) ∧ (↑x_1.val.j : Int) = (↑x.val : Int) ∧ True) ∧ o46 x_1.val.ys = o46 (orderM x.val a.xs) ∧ True) ∧ ∀ (x_1 : { x_1 : R53 // P53 a x.val x_1 }), branch (decide ((↑x_1.val.j : Int) > (0 : Int))) (branch (decide ((↑x_1.val.j : Int) < (↑a.n : Int))) (branch (((0 : Nat) + (↑x_1.val.j : Int).toNat).blt x_1.val.ys.length) (branch (decide ((0 : Int) ≤ IntKind.i64.wrap ((↑x_1.val.j : Int) - (1 : Int))) && decide (IntKind.i64.wrap ((↑x_1.val.j : Int) - (1 : Int)) < (↑a.n : Int))) (branch (((0 : Nat) + (IntKind.i64.wrap ((↑x_1.val.j : Int) - (1 : Int))).toNat).blt x_1.val.ys.length) (branch (!(x_1.val.ys.getD ((0 : Nat) + (↑x_1.val.j : Int).toNat) (Qu.mk [] [] (0 : Int))).path == (x_1.val.ys.getD ((0 : Nat) + (↑x_1.val.j : Int).toNat) (Qu.mk [] [] (0 : Int))).path) (branch (!(x_1.val.ys.getD ((0 : Nat) + (IntKind.i64.wrap ((↑x_1.val.j : Int) - (1 : Int))).toNat) (Qu.mk [] [] (0 : Int))).path == (x_1.val.ys.getD ((0 : Nat) + (IntKind.i64.wrap ((↑x_1.val.j : Int) - (1 : Int))).toNat) (Qu.mk [] [] (0 : Int))).path) (∃ (x' : { i : Nat // (1 : Nat) ≤ i ∧ (i ≤ a.n ∨ i = (1 : Nat)) }), a.n + (1 : Nat) - x'.val < a.n + (1 : Nat) - x.val ∧ (((0 : Nat) = (0 : Nat) ∧ a.n = a.n ∧ Nat.le (0 : Nat) (0 : Nat)) ∧ (0 : Int) = (0 : Int) ∧ (↑a.n : Int) = (↑a.n : Int) ∧ (True ∧ True) ∧ (↑x'.val : Int) = IntKind.i64.wrap ((↑x.val : Int) + (1 : Int)) ∧ True) ∧ o46 (orderM x'.val a.xs) = o46 x_1.val.ys ∧ True) (branch (decide ((0 : Int) ≤ IntKind.i64.wrap ((↑x_1.val.j : Int) - (1 : Int))) && decide (IntKind.i64.wrap ((↑x_1.val.j : Int) - (1 : Int)) < (↑a.n : Int))) (branch (((0 : Nat) + (IntKind.i64.wrap ((↑x_1.val.j : Int) - (1 : Int))).toNat).blt x_1.val.ys.length) (branch (decide ((↑x_1.val.j : Int) < (↑a.n : Int))) (branch (((0 : Nat) + (↑x_1.val.j : Int).toNat).blt x_1.val.ys.length) (branch (decide ((↑x_1.val.j : Int) < (↑a.n : Int))) (branch (((0 : Nat) + (↑x_1.val.j : Int).toNat).blt x_1.val.ys.length && true) (branch (decide ((0 : Int) ≤ IntKind.i64.wrap ((↑x_1.val.j : Int) - (1 : Int))) && decide (IntKind.i64.wrap ((↑x_1.val.j : Int) - (1 : Int)) < (↑a.n : Int))) (branch (((0 : Nat) + (IntKind.i64.wrap ((↑x_1.val.j : Int) - (1 : Int))).toNat).blt (x_1.val.ys.set ((0 : Nat) + (↑x_1.val.j : Int).toNat) (x_1.val.ys.getD ((0 : Nat) +
 (IntKind.i64.wrap ((↑x_1.val.j : Int) - (1 : Int))).toNat) (Qu.mk [] [] (0 : Int)))).length && true) (∃ (x' : { x_2 : R53 // P53 a x.val x_2 }), x'.val.j < x_1.val.j ∧ (((0 : Nat) = (0 : Nat) ∧ a.n = a.n ∧ Nat.le (0 : Nat) (0 : Nat)) ∧ (0 : Int) = (0 : Int) ∧ (↑a.n : Int) = (↑a.n : Int) ∧ (True ∧ True) ∧ (↑x.val : Int) = (↑x.val : Int) ∧ (↑x'.val.j : Int) = IntKind.i64.wrap ((↑x_1.val.j : Int) - (1 : Int)) ∧ True) ∧ o46 x'.val.ys = o46 ((x_1.val.ys.set ((0 : Nat) + (↑x_1.val.j : Int).toNat) (x_1.val.ys.getD ((0 : Nat) + (IntKind.i64.wrap ((↑x_1.val.j : Int) - (1 : Int))).toNat) (Qu.mk [] [] (0 : Int)))).set ((0 : Nat) + (IntKind.i64.wrap ((↑x_1.val.j : Int) - (1 : Int))).toNat) (x_1.val.ys.getD ((0 : Nat) + (↑x_1.val.j : Int).toNat) (Qu.mk [] [] (0 : Int)))) ∧ True) False) False) False) False) False) False) False) False)) (branch (!(x_1.val.ys.getD ((0 : Nat) + (IntKind.i64.wrap ((↑x_1.val.j : Int) - (1 : Int))).toNat) (Qu.mk [] [] (0 : Int))).path == (x_1.val.ys.getD ((0 : Nat) + (IntKind.i64.wrap ((↑x_1.val.j : Int) - (1 : Int))).toNat) (Qu.mk [] [] (0 : Int))).path) (∃ (x' : { i : Nat // (1 : Nat) ≤ i ∧ (i ≤ a.n ∨ i = (1 : Nat)) }), a.n + (1 : Nat) - x'.val < a.n + (1 : Nat) - x.val ∧ (((0 : Nat) = (0 : Nat) ∧ a.n = a.n ∧ Nat.le (0 : Nat) (0 : Nat)) ∧ (0 : Int) = (0 : Int) ∧ (↑a.n : Int) = (↑a.n : Int) ∧ (True ∧ True) ∧ (↑x'.val : Int) = IntKind.i64.wrap ((↑x.val : Int) + (1 : Int)) ∧ True) ∧ o46 (orderM x'.val a.xs) = o46 x_1.val.ys ∧ True) (branch (Op.bytesLess (x_1.val.ys.getD ((0 : Nat) + (↑x_1.val.j : Int).toNat) (Qu.mk [] [] (0 : Int))).path (x_1.val.ys.getD ((0 : Nat) + (IntKind.i64.wrap ((↑x_1.val.j : Int) - (1 : Int))).toNat) (Qu.mk [] [] (0 : Int))).path) (branch (decide ((0 : Int) ≤ IntKind.i64.wrap ((↑x_1.val.j : Int) - (1 : Int))) && decide (IntKind.i64.wrap ((↑x_1.val.j : Int) - (1 : Int)) < (↑a.n : Int))) (branch (((0 : Nat) + (IntKind.i64.wrap ((↑x_1.val.j : Int) - (1 : Int))).toNat).blt x_1.val.ys.length) (branch (decide ((↑x_1.val.j : Int) < (↑a.n : Int))) (branch (((0 : Nat) + (↑x_1.val.j : Int).toNat).blt x_1.val.ys.length) (branch (decide ((↑x_1.val.j : Int) < (↑a.n : Int))) (branch (((0 : Nat) + (↑x_1.val.j : Int).toNat).blt x_1.val.ys.length && true) (branch (decide ((0 : Int) ≤ IntKind.i64.wrap ((↑x_1.val.j : Int) - (1 : Int))) && decide (IntKind.i64.wrap ((↑x_1.val.j : Int) - (1 : Int)) < (↑a.n : Int))) (branch (((0 : Nat) + (IntKind.i64.wrap ((↑x_1.val.j : Int) - (1 : Int))).toNat).blt (x_1.val.ys.set ((0 : Nat) + (↑x_1.val.j : Int).toNat) (x_1.val.ys.getD ((0 : Nat) + (IntKind.i64.wrap ((↑x_1.val.j : Int) - (1 : Int))).toNat) (Qu.mk [] [] (0 : Int)))).length && true) (∃ (x' : { x_2 : R53 // P53 a x.val x_2 }), x'.val.j < x_1.val.j ∧ (((0 : Nat) = (0 : Nat) ∧ a.n = a.n ∧ Nat.le (0 : Nat) (0 : Nat)) ∧ (0 : Int) = (0 : Int) ∧ (↑a.n : Int) = (↑a.n : Int) ∧ (True ∧ True) ∧ (↑x.val : Int) = (↑x.val : Int) ∧ (↑x'.val.j : Int) = IntKind.i64.wrap ((↑x_1.val.j : Int) - (1 : Int)) ∧ True) ∧ o46 x'.val.ys = o46 ((x_1.val.ys.set
 ((0 : Nat) + (↑x_1.val.j : Int).toNat) (x_1.val.ys.getD ((0 : Nat) + (IntKind.i64.wrap ((↑x_1.val.j : Int) - (1 : Int))).toNat) (Qu.mk [] [] (0 : Int)))).set ((0 : Nat) + (IntKind.i64.wrap ((↑x_1.val.j : Int) - (1 : Int))).toNat) (x_1.val.ys.getD ((0 : Nat) + (↑x_1.val.j : Int).toNat) (Qu.mk [] [] (0 : Int)))) ∧ True) False) False) False) False) False) False) False) False) (branch (!(Op.bytesLess (x_1.val.ys.getD ((0 : Nat) + (↑x_1.val.j : Int).toNat) (Qu.mk [] [] (0 : Int))).path (x_1.val.ys.getD ((0 : Nat) + (IntKind.i64.wrap ((↑x_1.val.j : Int) - (1 : Int))).toNat) (Qu.mk [] [] (0 : Int))).path || (x_1.val.ys.getD ((0 : Nat) + (↑x_1.val.j : Int).toNat) (Qu.mk [] [] (0 : Int))).path == (x_1.val.ys.getD ((0 : Nat) + (IntKind.i64.wrap ((↑x_1.val.j : Int) - (1 : Int))).toNat) (Qu.mk [] [] (0 : Int))).path)) (∃ (x' : { i : Nat // (1 : Nat) ≤ i ∧ (i ≤ a.n ∨ i = (1 : Nat)) }), a.n + (1 : Nat) - x'.val < a.n + (1 : Nat) - x.val ∧ (((0 : Nat) = (0 : Nat) ∧ a.n = a.n ∧ Nat.le (0 : Nat) (0 : Nat)) ∧ (0 : Int) = (0 : Int) ∧ (↑a.n : Int) = (↑a.n : Int) ∧ (True ∧ True) ∧ (↑x'.val : Int) = IntKind.i64.wrap ((↑x.val : Int) + (1 : Int)) ∧ True) ∧ o46 (orderM x'.val a.xs) = o46 x_1.val.ys ∧ True) (∃ (x' : { i : Nat // (1 : Nat) ≤ i ∧ (i ≤ a.n ∨ i = (1 : Nat)) }), a.n + (1 : Nat) - x'.val < a.n + (1 : Nat) - x.val ∧ (((0 : Nat) = (0 : Nat) ∧ a.n = a.n ∧ Nat.le (0 : Nat) (0 : Nat)) ∧ (0 : Int) = (0 : Int) ∧ (↑a.n : Int) = (↑a.n : Int) ∧ (True ∧ True) ∧ (↑x'.val : Int) = IntKind.i64.wrap ((↑x.val : Int) + (1 : Int)) ∧ True) ∧ o46 (orderM x'.val a.xs) = o46 x_1.val.ys ∧ True))))) False) False) False) False) (∃ (x' : { i : Nat // (1 : Nat) ≤ i ∧ (i ≤ a.n ∨ i = (1 : Nat)) }), a.n + (1 : Nat) - x'.val < a.n + (1 : Nat) - x.val ∧ (((0 : Nat) = (0 : Nat) ∧ a.n = a.n ∧ Nat.le (0 : Nat) (0 : Nat)) ∧ (0 : Int) = (0 : Int) ∧ (↑a.n : Int) = (↑a.n : Int) ∧ (True ∧ True) ∧ (↑x'.val : Int) = IntKind.i64.wrap ((↑x.val : Int) + (1 : Int)) ∧ True) ∧ o46 (orderM x'.val a.xs) = o46 x_1.val.ys ∧ True)) (True ∧ o46 (orderM a.n a.xs) = o46 (orderM x.val a.xs) ∧ True)) := by kernel_rfl

end Go.Proofs.YtaonjbojhikndaaDoor

namespace Go.Proofs.YtaonjbojhikndaaDoor
open Go Go.W
set_option maxRecDepth 100000
theorem swap_len (xs : List Qu) (j : Nat) : (swapM xs j).length = xs.length := by simp [swapM]
theorem sink_len : ∀ (j : Nat) (xs : List Qu), (sinkM j xs).length = xs.length
  | 0, _ => rfl
  | j + 1, xs => by
    unfold sinkM
    cases ltQ (xs.getD (j + 1) qd) (xs.getD j qd) with
    | true => exact (sink_len j _).trans (swap_len xs (j + 1))
    | false => rfl
theorem order_len : ∀ (i : Nat) (xs : List Qu), (orderM i xs).length = xs.length
  | 0, _ => rfl
  | i + 1, xs => by
    unfold orderM
    rw [sink_len, order_len i xs]
theorem beq_refl_B (s : B) : (!(s == s)) = false := by simp
theorem ok53 (a : AO) (hp : S53.pre a = true) : OwesN e0 53 S53 (fun _ => []) (L53 a) noJ 0 a := by
  refine OwesN.mk ?_
  rw [v53]
  have hq : a.n = a.xs.length ∧ a.xs.length ≤ 1000000 := by
    have hp : a.fine = true := hp
    simp only [AO.fine, Bool.and_eq_true] at hp
    exact ⟨Nat.eq_of_beq_eq_true hp.1, small_le hp.2⟩
  obtain ⟨hn, hs⟩ := hq
  refine ⟨⟨⟨1, Nat.le_refl _, .inr rfl⟩, ⟨⟨rfl, rfl, Nat.le_refl _⟩, rfl, rfl, ⟨trivial, trivial⟩, (by show ((1 : Nat) : Int) = _; rfl), trivial⟩, rfl, trivial⟩, fun x => ?_⟩
  have hx1 := x.2.1
  have hx2 := x.2.2
  refine br (fun hlt => ?_) (fun hge => ?_)
  · have hlt : x.1 < a.n := by simpa using hlt
    have wx : IntKind.i64.wrap ((x.1 : Int) + 1) = ((x.1 + 1 : Nat) : Int) := by rw [wrap_id] <;> omega
    refine ⟨⟨⟨⟨x.1, orderM x.1 a.xs⟩, Nat.le_refl _, hlt, order_len _ _, rfl⟩, ⟨⟨rfl, rfl, Nat.le_refl _⟩, rfl, rfl, ⟨trivial, trivial⟩, rfl, rfl, trivial⟩, rfl, trivial⟩, fun y => ?_⟩
    have hy := y.2
    have fin : y.1.ys = orderM (x.1 + 1) a.xs → (∃ (x' : { i : Nat // (1 : Nat) ≤ i ∧ (i ≤ a.n ∨ i = (1 : Nat)) }) , a.n + (1 : Nat) - x'.val < a.n + (1 : Nat) - x.val ∧ (((0 : Nat) = (0 : Nat) ∧ a.n = a.n ∧ Nat.le (0 : Nat) (0 : Nat)) ∧ (0 : Int) = (0 : Int) ∧ ((a.n : Nat) : Int) = ((a.n : Nat) : Int) ∧ (True ∧ True) ∧ ((x'.val : Nat) : Int) = IntKind.i64.wrap (((x.val : Nat) : Int) + (1 : Int)) ∧ True) ∧ o46 (orderM x'.val a.xs) = o46 y.1.ys ∧ True) := by
      intro h
      refine ⟨⟨x.1 + 1, by omega, .inl (by omega)⟩, ?_, ⟨⟨rfl, rfl, Nat.le_refl _⟩, rfl, rfl, ⟨trivial, trivial⟩, wx.symm, trivial⟩, by rw [h], trivial⟩
      show a.n + 1 - (x.1 + 1) < _
      omega
    refine br (fun hj => ?_) (fun hj => ?_)
    · have hj : 0 < y.1.j := by simpa using hj
      obtain ⟨k, hk⟩ : ∃ k, y.1.j = k + 1 := ⟨y.1.j - 1, by omega⟩
      have hle := hy.le
      have hlen := hy.len
      have hat := hy.at'
      have w1 : IntKind.i64.wrap ((y.1.j : Int) - 1) = ((k : Nat) : Int) := by rw [wrap_id] <;> omega
      have e1 : 0 + ((y.1.j : Int)).toNat = k + 1 := by omega
      have e2 : 0 + (((k : Nat) : Int)).toNat = k := by omega
      rw [w1, e1, e2]
      rw [hk] at hat
      have c1 : decide ((y.1.j : Int) < (a.n : Int)) = true := dT (by omega)
      have c2 : Nat.blt (k + 1) y.1.ys.length = true := Nat.ble_eq_true_of_le (by omega)
      have c3 : (decide ((0 : Int) ≤ ((k : Nat) : Int)) && decide (((k : Nat) : Int) < (a.n : Int))) = true := by simp; omega
      have c4 : Nat.blt k y.1.ys.length = true := Nat.ble_eq_true_of_le (by omega)
      refine brT c1 (brT c2 (brT c3 (brT c4 (brF (beq_refl_B _) (brF (beq_refl_B _) (br (fun h => ?_) (fun h => ?_)))))))
      · have hs2 : sinkM (k + 1) y.1.ys = sinkM k (swapM y.1.ys (k + 1)) := by
          show (bif ltQ (y.1.ys.getD (k + 1) qd) (y.1.ys.getD k qd) then _ else _) = _
          have h : ltQ (y.1.ys.getD (k + 1) qd) (y.1.ys.getD k qd) = true := h
          rw [h]; rfl
        refine brT c3 (brT c4 (brT c1 (brT c2 (brT c1 (brT (by rw [c2]; rfl) (brT c3 (brT (by rw [List.length_set, c4]; rfl) ?_)))))))
        refine ⟨⟨⟨k, swapM y.1.ys (k + 1)⟩, by show k ≤ _; omega, hlt, (swap_len _ _).trans hlen, hs2 ▸ hat⟩, ?_, ⟨⟨rfl, rfl, Nat.le_refl _⟩, rfl, rfl, ⟨trivial, trivial⟩, rfl, rfl, trivial⟩, rfl, trivial⟩
        show k < y.1.j
        omega
      · have hs2 : sinkM (k + 1) y.1.ys = y.1.ys := by
          show (bif ltQ (y.1.ys.getD (k + 1) qd) (y.1.ys.getD k qd) then _ else _) = _
          have h : ltQ (y.1.ys.getD (k + 1) qd) (y.1.ys.getD k qd) = false := h
          rw [h]; rfl
        have hf := fin (hs2 ▸ hat)
        exact br (fun _ => hf) (fun _ => hf)
    · have hj : y.1.j = 0 := by
        have : ¬ 0 < y.1.j := by simpa using hj
        omega
      have hat := hy.at'
      rw [hj] at hat
      exact fin hat
  · have hge : ¬ x.1 < a.n := by simpa using hge
    refine ⟨trivial, ?_, trivial⟩
    rcases hx2 with h | h
    · rw [show x.1 = a.n by omega]
    · have : a.n = 0 ∨ a.n = 1 := by omega
      rcases this with h0 | h0
      · rw [h, h0]; rfl
      · rw [h, h0]
theorem k53 : SpecOk Tryd.prog 53 S53 := spec_loopN e0_sound (by kernel_rfl) (fun _ _ => []) L53 (fun _ => noJ) (fun _ => 0) ok53
end Go.Proofs.YtaonjbojhikndaaDoor
