/- ConfOrder: forms. No conditions. -/
import Derived.Test.YtaonjbojhikndaaDoorGb
namespace Go.Proofs.YtaonjbojhikndaaDoor
open Go Go.W
set_option maxRecDepth 100000
/-- The number's class out of eight, by cases. -/
def by8 (r : Int → Out (VK × Hp regK.T)) (w : Int) : Out (VK × Hp regK.T) :=
  .br (decide (w = 0)) (r 0) (.br (decide (w = 1)) (r 1) (.br (decide (w = 2)) (r 2) (.br (decide (w = 3)) (r 3) (.br (decide (w = 4)) (r 4) (.br (decide (w = 5)) (r 5) (.br (decide (w = 6)) (r 6) (.need (decide (w = 7)) (r 7))))))))
theorem by8_K {r : Int → Out (VK × Hp regK.T)} {w : Int} {Q : VK × Hp regK.T → Prop} (h : (by8 r w).K Q) : (r w).K Q := by
  have go : ∀ {k : Int} {o : Out (VK × Hp regK.T)}, (Out.br (decide (w = k)) (r k) o).K Q → (r w).K Q ∨ o.K Q := by
    intro k o h
    have h : branch (decide (w = k)) ((r k).K Q) (o.K Q) := h
    by_cases hk : w = k
    · rw [decide_eq_true hk] at h; subst hk; exact .inl h
    · rw [decide_eq_false hk] at h; exact .inr h
  unfold by8 at h
  rcases go h with h | h
  · exact h
  rcases go h with h | h
  · exact h
  rcases go h with h | h
  · exact h
  rcases go h with h | h
  · exact h
  rcases go h with h | h
  · exact h
  rcases go h with h | h
  · exact h
  rcases go h with h | h
  · exact h
  obtain ⟨hk, h⟩ := Out.K_need.1 h
  have hk := of_decide_eq_true hk
  rw [hk]; exact h
def w15 : TB := fun args h => match args with | [.d (.int .i64 a), .d (.int .i64 b)] => .need (decide (0 < b)) (Out.ask (Tr.ok h.nx) (by8 (fun v => .ret (ki v, ⟨h.h, h.nx, h.wr⟩)) (wi a b))) | _ => .bad
theorem w15_ok : RowOK 15 w15 := by
  intro args h Q hq
  unfold w15 at hq
  split at hq
  · rename_i a b
    obtain ⟨hb, hq⟩ := Out.K_need.1 hq
    obtain ⟨hk, hq⟩ := Out.K_ask.1 hq
    have hq := by8_K hq
    refine a15 _ h Q ?_
    exact (must_iff _ _).2 ⟨hb, Out.K_ask.2 ⟨by rw [Bool.and_eq_true]; exact ⟨rfl, hk⟩, hq⟩⟩
  · exact hq.elim
def K17 : Con regK.T := fun f => lookN [(11, S11.con M11), (15, w15), (17, S17.con (MB sm _))] f
theorem K17_ok : ConOk Tryd.prog K17 := con_cons a11 (con_cons w15_ok (con_cons a17 con_nil))
noncomputable def e17 : Hd regK.T := hdT regK Tryd.prog K17 (fun _ => false) 1000 5
theorem e17_sound : HdSound Tryd.prog e17 := hdT_sound mixed hno K17_ok _ _ _
/-- What is known further in: a count, letters, a letter. -/
structure GO where
  i : Nat
  cs : List Nat
  c : Nat
structure PO (x : GO) : Prop where
  i : x.i ≤ 12
  l : x.cs.length ≤ x.i
  lt : ∀ c ∈ x.cs, c < 8
  ne : x.cs.Pairwise (· ≠ ·)
structure RO where
  k : Nat
  cs : List Nat
def ysOf (cs : List Nat) : List Qu := ordM (rdQ (qsOf cs))
def L4 (xs : List Int) (tw : Bool) (g : GO) (k : Nat) (_ : St regK.T) : Option (LoopI regK.T GO) := match Nat.beq k 5 with
  | true => some ⟨{ x : GO // PO x }, fun x => ⟨[(0, .d (.sl 3 xs)), (1, kb tw), (5, .sl 0 0 x.1.cs.length (.least 0)), (6, ki (x.1.i : Nat))], [(0, .trows 9 (x.1.cs.map pOf))], 1⟩, fun x => 12 - x.1.i, fun x => x.1⟩
  | false => (match Nat.beq k 10 with
    | true => some ⟨{ k : Nat // k ≤ g.cs.length }, fun k => ⟨[(0, .d (.sl 3 xs)), (1, kb tw), (5, .sl 0 0 g.cs.length (.least 0)), (6, ki (g.i : Nat)), (7, ks (pOf g.c)), (8, kb ((g.cs.take k.1).any fun d => pOf d == pOf g.c)), (9, ki (k.1 : Nat))], [(0, .trows 9 (g.cs.map pOf))], 1⟩, fun k => g.cs.length - k.1, fun _ => g⟩
    | false => (match Nat.beq k 19 with
      | true => some ⟨{ x : RO // PO ⟨12, x.cs, 0⟩ ∧ x.k ≤ x.cs.length ∧ 0 < x.cs.length }, fun x => ⟨[(1, kb tw), (5, .sl 0 0 x.1.cs.length (.least 0)), (10, ks (txtM (x.1.cs.map pOf) x.1.k)), (11, ki (x.1.k : Nat))], [(0, .trows 9 (x.1.cs.map pOf))], 1⟩, fun x => x.1.cs.length - x.1.k, fun _ => g⟩
      | false => (match Nat.beq k 30 with
        | true => some ⟨{ x : RO // PO ⟨12, x.cs, 0⟩ ∧ 1 ≤ x.k ∧ x.k ≤ x.cs.length ∧ 0 < x.cs.length }, fun x => ⟨[(12, .ptr 0 0 0), (14, ki (x.1.k : Nat))], [(0, .rows 2 [[.d (.sl 9 [[]]), .d (.sl 46 (ysOf x.1.cs))]])], 1⟩, fun x => x.1.cs.length - x.1.k, fun _ => g⟩
        | false => none)))
def J4 (xs : List Int) (tw : Bool) (g : GO) (k : Nat) : Option (LoopI regK.T GO) := match Nat.beq k 8 with
  | true => some ⟨{ c : Nat // c < 8 }, fun c => ⟨[(0, .d (.sl 3 xs)), (1, kb tw), (5, .sl 0 0 g.cs.length (.least 0)), (6, ki (g.i : Nat)), (7, ks (pOf c.1))], [(0, .trows 9 (g.cs.map pOf))], 1⟩, fun _ => 0, fun c => ⟨g.i, g.cs, c.1⟩⟩
  | false => none
def A4 (k : Nat) : List Tgt := (lookN [(3, [.nslot 5 9])] k).getD []
def YesO (xs : List Int) (tw : Bool) : Prop := awpFun regK Tryd.prog e17 1000 A4 (L4 xs tw) (J4 xs tw) ⟨0, [], 0⟩ Tryd.f4 [.d (.sl 3 xs), kb tw] (fun r => yes r.1)
end Go.Proofs.YtaonjbojhikndaaDoor
