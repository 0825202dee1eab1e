/- The reference's Parse and Same: forms. No conditions. -/
import Derived.Test.YtaonjbojhikndaaDoorHc
namespace Go.Proofs.YtaonjbojhikndaaDoor
open Go Go.W
set_option maxRecDepth 100000
def K24 : Con regK.T := fun f => lookN [(30, S30.con M30), (31, (SB sm s26).con (MB sm s26)), (32, S32.con M32)] f
theorem K24_ok : ConOk Tryd.prog K24 := con_cons a30 (con_cons a31 (con_cons a32 con_nil))
noncomputable def e24 : Hd regK.T := hdT regK Tryd.prog K24 (fun _ => false) 1000 5
theorem e24_sound : HdSound Tryd.prog e24 := hdT_sound mixed hno K24_ok _ _ _
def linesR (s : B) : List B := cutR 10 s
structure G18 where
  i : Nat
  r : Rd
  qs : List Qu
  tw : Bool
structure V18 (s : B) (x : G18) : Prop where
  i : x.i ≤ (linesR s).length
  l : x.r.labels.length ≤ 3
  q : x.r.qs.length ≤ 16
  seen : x.r.seen = !(x.r.labels == [])
  kept : Kept x.qs x.r.qs x.tw
  go : runM x.r ((linesR s).drop x.i) = runM rd0 (linesR s)
def lineQ (s : B) (g : G18) : Qu := (queueR (wordsM ((linesR s).getD g.i [])) (g.r.labels.length : Nat)).1
def L18 (s : B) (g : G18) (k : Nat) (_ : St regK.T) : Option (LoopI regK.T G18) := match Nat.beq k 7 with
  | true => some ⟨{ x : G18 // V18 s x }, fun x => ⟨[(2, .ptr 0 0 0), (4, .ptr 1 0 0), (5, kb x.1.tw), (6, .d (.sl 9 (linesR s))), (7, ki (x.1.i : Nat))],
      [(0, noRow), (1, .rows 2 [[.d (.sl 9 x.1.r.labels), .d (.sl 46 x.1.qs)]])], 2⟩, fun x => (linesR s).length - x.1.i, fun x => x.1⟩
  | false => (match Nat.beq k 23 with
    | true => some ⟨{ k : Nat // k ≤ g.qs.length ∧ ∀ j, j < k → ltQ (g.qs.getD j qd) (lineQ s g) = true }, fun k => ⟨[(2, .ptr 0 0 0), (4, .ptr 1 0 0), (5, kb g.tw), (6, .d (.sl 9 (linesR s))), (7, ki (g.i : Nat)), (9, .ptr 2 0 0), (11, ki (k.1 : Nat))],
      [(0, noRow), (1, .rows 2 [[.d (.sl 9 g.r.labels), .d (.sl 46 g.qs)]]), (2, .rows 3 [[ks (lineQ s g).path, .d (.sl 48 (lineQ s g).caps), ki (lineQ s g).user]])], 3⟩, fun k => g.qs.length - k.1, fun _ => g⟩
    | false => none)
def wOf (s : B) (g : G18) : List B := wordsM ((linesR s).getD g.i [])
structure OkL (s : B) (g : G18) : Prop where
  w : (wOf s g).length ≠ 0
  l : g.r.labels.length ≠ 0
  m : ¬ (g.qs.length = 16 ∧ ((wOf s g).getD 0 [] == wQueue) = true)
def J18 (s : B) (g : G18) (k : Nat) : Option (LoopI regK.T G18) := match Nat.beq k 19 with
  | true => some ⟨{ _u : Nat // OkL s g }, fun _ => ⟨[(2, .ptr 0 0 0), (4, .ptr 1 0 0), (5, kb g.tw), (6, .d (.sl 9 (linesR s))), (7, ki (g.i : Nat)), (8, .d (.sl 9 (wOf s g)))],
      [(0, noRow), (1, .rows 2 [[.d (.sl 9 g.r.labels), .d (.sl 46 g.qs)]])], 2⟩, fun _ => 0, fun _ => g⟩
  | false => (match Nat.beq k 25 with
  | true => some ⟨{ k : Nat // k ≤ g.qs.length ∧ (∀ j, j < k → ltQ (g.qs.getD j qd) (lineQ s g) = true) ∧ (k < g.qs.length → ltQ (g.qs.getD k qd) (lineQ s g) = false) }, fun k => ⟨[(2, .ptr 0 0 0), (4, .ptr 1 0 0), (5, kb g.tw), (6, .d (.sl 9 (linesR s))), (7, ki (g.i : Nat)), (9, .ptr 2 0 0), (11, ki (k.1 : Nat))],
      [(0, noRow), (1, .rows 2 [[.d (.sl 9 g.r.labels), .d (.sl 46 g.qs)]]), (2, .rows 3 [[ks (lineQ s g).path, .d (.sl 48 (lineQ s g).caps), ki (lineQ s g).user]])], 3⟩, fun _ => 0, fun _ => g⟩
  | false => (match Nat.beq k 26 with
    | true => some ⟨{ k : Nat // k ≤ g.qs.length ∧ insF g.qs (lineQ s g) = g.qs.take k ++ lineQ s g :: g.qs.drop k }, fun k => ⟨[(2, .ptr 0 0 0), (4, .ptr 1 0 0), (5, kb (g.tw || isF g.qs (lineQ s g))), (6, .d (.sl 9 (linesR s))), (7, ki (g.i : Nat)), (9, .ptr 2 0 0), (11, ki (k.1 : Nat))],
      [(0, noRow), (1, .rows 2 [[.d (.sl 9 g.r.labels), .d (.sl 46 g.qs)]]), (2, .rows 3 [[ks (lineQ s g).path, .d (.sl 48 (lineQ s g).caps), ki (lineQ s g).user]])], 3⟩, fun _ => 0, fun _ => g⟩
    | false => (match Nat.beq k 27 with
      | true => some ⟨{ k : Nat // k ≤ g.qs.length ∧ insF g.qs (lineQ s g) = g.qs.take k ++ lineQ s g :: g.qs.drop k }, fun k => ⟨[(2, .ptr 0 0 0), (4, .ptr 1 0 0), (5, kb (g.tw || isF g.qs (lineQ s g))), (6, .d (.sl 9 (linesR s))), (7, ki (g.i : Nat)), (9, .ptr 2 0 0), (11, ki (k.1 : Nat)), (12, .sl 3 0 k.1 (.least 0))],
        [(0, noRow), (1, .rows 2 [[.d (.sl 9 g.r.labels), .d (.sl 46 g.qs)]]), (2, .rows 3 [[ks (lineQ s g).path, .d (.sl 48 (lineQ s g).caps), ki (lineQ s g).user]]), (3, .trows 46 (g.qs.take k.1))], 4⟩, fun _ => 0, fun _ => g⟩
      | false => none)))
def A18 (k : Nat) : List Tgt := (lookN [(16, [.fcell 1 0 0]), (27, [.fcell 1 0 1])] k).getD []
def g18 : G18 := ⟨0, rd0, [], false⟩
def s17 (s : B) : QO := .ret (.tup [.agg [.d (.sl 9 (parseM s).labels), .d (.sl 46 (parseM s).qs)], ki (parseM s).err], [])
/-! ### Same -/
def allI (p : Nat → Bool) : Nat → Bool
  | 0 => true
  | n + 1 => allI p n && p n
def cd : Cp := ⟨0, 0⟩
def sameC (x y : Cp) : Bool := (x.least == y.least) && (x.most == y.most)
def sameQ (x y : Qu) : Bool := (x.path == y.path) && ((x.user == y.user) && (decide (x.caps.length = y.caps.length) && allI (fun k => sameC (x.caps.getD k cd) (y.caps.getD k cd)) x.caps.length))
structure ASm where
  la : List B
  qa : List Qu
  lb : List B
  qb : List Qu
def ASm.fine (a : ASm) : Bool := small a.la.length && small a.qa.length && a.qa.all fun q => small q.caps.length
def ASm.lp (a : ASm) (i : Nat) : Bool := a.la.getD i [] == a.lb.getD i []
def ASm.qp (a : ASm) (i : Nat) : Bool := sameQ (a.qa.getD i qd) (a.qb.getD i qd)
def sameM (a : ASm) : Bool := decide (a.la.length = a.lb.length) && (decide (a.qa.length = a.qb.length) && (allI a.lp a.la.length && allI a.qp a.qa.length))
def S19 : Go.W.Spec regK.T := ⟨ASm, fun a => [.agg [.d (.sl 9 a.la), .d (.sl 46 a.qa)], .agg [.d (.sl 9 a.lb), .d (.sl 46 a.qb)]], fun _ => [], ASm.fine, fun a => .ret (kb (sameM a), [])⟩
def qD : D TK → Option (List Qu)
  | .sl 46 xs => some xs
  | .nils => some []
  | _ => none
theorem qD_cov {x : D TK} {xs : List Qu} (h : qD x = some xs) : covD (.sl 46 xs) x := by
  unfold qD at h; split at h
  · cases h; exact rfl
  · cases h; exact rfl
  · cases h
def M19 : Meet S19 where
  find args _ := match args with
    | [.agg [.d l1, .d q1], .agg [.d l2, .d q2]] => (match lD l1, qD q1, lD l2, qD q2 with
      | some a, some b, some c, some d => some (⟨a, b, c, d⟩, [])
      | _, _, _, _ => none)
    | _ => none
  ok args g a ρ h := by
    split at h
    · split at h
      · rename_i h1 h2 h3 h4
        cases h
        exact ⟨⟨⟨lD_cov h1, qD_cov h2, trivial⟩, ⟨lD_cov h3, qD_cov h4, trivial⟩, trivial⟩, rfl, fun j o' hj => by simp [S19] at hj⟩
      · cases h
    · cases h
structure G19 where
  i : Nat
structure P19 (a : ASm) : Prop where
  l : a.la.length = a.lb.length
  q : a.qa.length = a.qb.length
def rowC (l : List B) (q : List Qu) : OK := .rows 2 [[.d (.sl 9 l), .d (.sl 46 q)]]
def rowQ (q : Qu) : OK := .rows 3 [[ks q.path, .d (.sl 48 q.caps), ki q.user]]
def L19 (a : ASm) (g : G19) (k : Nat) (_ : St regK.T) : Option (LoopI regK.T G19) := match Nat.beq k 4 with
  | true => some ⟨{ i : Nat // i ≤ a.la.length ∧ allI a.lp i = true ∧ P19 a }, fun i => ⟨[(2, .ptr 0 0 0), (3, .ptr 1 0 0), (5, ki (i.1 : Nat))], [(0, .rows 2 [[.d (.sl 9 a.la), .d (.sl 46 a.qa)]]), (1, .rows 2 [[.d (.sl 9 a.lb), .d (.sl 46 a.qb)]])], 2⟩, fun i => a.la.length - i.1, fun i => ⟨i.1⟩⟩
  | false => (match Nat.beq k 9 with
    | true => some ⟨{ i : Nat // i ≤ a.qa.length ∧ allI a.qp i = true ∧ allI a.lp a.la.length = true ∧ P19 a }, fun i => ⟨[(2, .ptr 0 0 0), (3, .ptr 1 0 0), (6, ki (i.1 : Nat))], [(0, .rows 2 [[.d (.sl 9 a.la), .d (.sl 46 a.qa)]]), (1, .rows 2 [[.d (.sl 9 a.lb), .d (.sl 46 a.qb)]])], 2⟩, fun i => a.qa.length - i.1, fun i => ⟨i.1⟩⟩
    | false => (match Nat.beq k 15 with
      | true => some ⟨{ k : Nat // k ≤ (a.qa.getD g.i qd).caps.length ∧ allI (fun k => sameC ((a.qa.getD g.i qd).caps.getD k cd) ((a.qb.getD g.i qd).caps.getD k cd)) k = true }, fun k => ⟨[(2, .ptr 0 0 0), (3, .ptr 1 0 0), (6, ki (g.i : Nat)), (7, .ptr 2 0 0), (8, .ptr 3 0 0), (9, ki (k.1 : Nat))],
          [(0, .rows 2 [[.d (.sl 9 a.la), .d (.sl 46 a.qa)]]), (1, .rows 2 [[.d (.sl 9 a.lb), .d (.sl 46 a.qb)]]), (2, .rows 3 [[ks (a.qa.getD g.i qd).path, .d (.sl 48 (a.qa.getD g.i qd).caps), ki (a.qa.getD g.i qd).user]]), (3, .rows 3 [[ks (a.qb.getD g.i qd).path, .d (.sl 48 (a.qb.getD g.i qd).caps), ki (a.qb.getD g.i qd).user]])], 4⟩, fun k => (a.qa.getD g.i qd).caps.length - k.1, fun _ => g⟩
      | false => none))
end Go.Proofs.YtaonjbojhikndaaDoor
