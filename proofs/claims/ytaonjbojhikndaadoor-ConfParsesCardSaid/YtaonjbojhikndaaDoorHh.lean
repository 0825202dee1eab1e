/- Configurations that are made, their texts: forms. No conditions. -/
import Derived.Test.YtaonjbojhikndaaDoorHg
namespace Go.Proofs.YtaonjbojhikndaaDoor
open Go Go.W
set_option maxRecDepth 100000
def K28 : Con regK.T := fun f => lookN [(15, S15.con M15), (23, S23.con M23)] f
theorem K28_ok : ConOk Tryd.prog K28 := con_cons a15 (con_cons a23 con_nil)
noncomputable def e28 : Hd regK.T := hdT regK Tryd.prog K28 (fun _ => false) 1000 5
theorem e28_sound : HdSound Tryd.prog e28 := hdT_sound mixed hno K28_ok _ _ _
def lab3 : List B := [[], [103, 112, 117], [115, 115, 100]]
def labM (l : Int) : List B := lab3.take (1 + (wi l 3).toNat)
def nameL : List B := [[97], [98], [99, 45, 49], [57]]
def pathM (ns : List Int) : Nat → B
  | 0 => [114, 111, 111, 116]
  | k + 1 => pathM ns k ++ [46] ++ nameL.getD (wi (ns.getD k 0) 4).toNat []
def capAt (cs : List Cp) (k : Nat) : Cp := bif decide (k < cs.length) then ⟨wi (cs.getD k cd).least 10001, wi (cs.getD k cd).most 10001⟩ else ⟨10000, 10000⟩
def mkCaps (cs : List Cp) : Nat → List Cp
  | 0 => []
  | k + 1 => mkCaps cs k ++ [capAt cs k]
def mkQ (n : Nat) (r : Rq) : Qu := ⟨pathM r.names (min r.names.length 4), mkCaps r.caps n, wi r.user 1000000⟩
def mkQs (n : Nat) (qs : List Rq) : Nat → List Qu
  | 0 => []
  | i + 1 => putM (mkQs n qs i) (mkQ n (qs.getD i rqd))
def makeQ (a : AR) : List Qu := mkQs (labM a.l).length a.qs (min a.qs.length 16)
def o14 (a : AR) : QO := .ret (.agg [.d (.sl 9 (labM a.l)), .d (.sl 46 (makeQ a))], [])
def S14 : Go.W.Spec regK.T := ⟨AR, fun a => [.agg [ki a.l, .d (.sl 58 a.qs)]], fun _ => [], fun _ => true, o14⟩
def M14 : Meet S14 := MR _ _
def L14 (a : AR) (lb : List B) (g : Nat) (k : Nat) (_ : St regK.T) : Option (LoopI regK.T Nat) := match Nat.beq k 3 with
  | true => some ⟨{ i : Nat // i ≤ a.qs.length ∧ i ≤ 16 }, fun i => ⟨[(1, .ptr 0 0 0), (2, .ptr 1 0 0), (3, .ptr 2 0 0), (4, ki (i.1 : Nat))], [(0, .rows 2 [[ki a.l, .d (.sl 58 a.qs)]]), (1, noRow), (2, .rows 2 [[.d (.sl 9 lb), .d (.sl 46 (mkQs lb.length a.qs i.1))]])], 3⟩, fun i => a.qs.length - i.1, fun i => i.1⟩
  | false => (match Nat.beq k 7 with
    | true => some ⟨{ k : Nat // k ≤ (a.qs.getD g rqd).names.length ∧ k ≤ 4 }, fun k => ⟨[(1, .ptr 0 0 0), (2, .ptr 1 0 0), (3, .ptr 2 0 0), (4, ki (g : Nat)), (5, .ptr 3 0 0), (6, ki (k.1 : Nat))],
        [(0, .rows 2 [[ki a.l, .d (.sl 58 a.qs)]]), (1, noRow), (2, .rows 2 [[.d (.sl 9 lb), .d (.sl 46 (mkQs lb.length a.qs g))]]), (3, .rows 3 [[ks (pathM (a.qs.getD g rqd).names k.1), .d .nils, ki (wi (a.qs.getD g rqd).user 1000000)]])], 4⟩, fun k => (a.qs.getD g rqd).names.length - k.1, fun _ => g⟩
    | false => (match Nat.beq k 11 with
      | true => some ⟨{ k : Nat // k ≤ lb.length }, fun k => ⟨[(1, .ptr 0 0 0), (2, .ptr 1 0 0), (3, .ptr 2 0 0), (4, ki (g : Nat)), (5, .ptr 3 0 0), (7, ki (k.1 : Nat))],
          [(0, .rows 2 [[ki a.l, .d (.sl 58 a.qs)]]), (1, noRow), (2, .rows 2 [[.d (.sl 9 lb), .d (.sl 46 (mkQs lb.length a.qs g))]]), (3, .rows 3 [[ks (pathM (a.qs.getD g rqd).names (min (a.qs.getD g rqd).names.length 4)), .sl 4 0 (mkCaps (a.qs.getD g rqd).caps k.1).length (.least 0), ki (wi (a.qs.getD g rqd).user 1000000)]]), (4, .trows 48 (mkCaps (a.qs.getD g rqd).caps k.1))], 5⟩, fun k => lb.length - k.1, fun _ => g⟩
      | false => none))
def J14 (a : AR) (lb : List B) (g : Nat) (k : Nat) : Option (LoopI regK.T Nat) := match Nat.beq k 10 with
  | true => some ⟨{ _u : Nat // g < a.qs.length ∧ g < 16 }, fun _ => ⟨[(1, .ptr 0 0 0), (2, .ptr 1 0 0), (3, .ptr 2 0 0), (4, ki (g : Nat)), (5, .ptr 3 0 0)],
        [(0, .rows 2 [[ki a.l, .d (.sl 58 a.qs)]]), (1, noRow), (2, .rows 2 [[.d (.sl 9 lb), .d (.sl 46 (mkQs lb.length a.qs g))]]), (3, .rows 3 [[ks (pathM (a.qs.getD g rqd).names (min (a.qs.getD g rqd).names.length 4)), .d .nils, ki (wi (a.qs.getD g rqd).user 1000000)]])], 4⟩, fun _ => 0, fun _ => g⟩
  | false => none
def A14 (k : Nat) : List Tgt := (lookN [(1, [.fcell 3 0 0]), (10, [.ncell 3 0 1 48])] k).getD []
/-! ### Text -/
def K29 : Con regK.T := fun f => lookN [(22, (SI (p22 7) (q22 7)).con (MI (p22 7) (q22 7)))] f
theorem K29_ok : ConOk Tryd.prog K29 := con_cons (a22 7 (by decide)) con_nil
noncomputable def e29 : Hd regK.T := hdT regK Tryd.prog K29 (fun _ => false) 1000 5
theorem e29_sound : HdSound Tryd.prog e29 := hdT_sound mixed hno K29_ok _ _ _
structure AT where
  la : List B
  qs : List Qu
def fitC (c : Cp) : Bool := p22 7 c.least && p22 7 c.most
def fitQ (q : Qu) : Bool := Nat.ble q.path.length 100 && Nat.ble q.caps.length 10 && p22 7 q.user && q.caps.all fitC
def AT.fine (a : AT) : Bool := Nat.ble a.la.length 10 && (a.la.all fun l => Nat.ble l.length 100) && Nat.ble a.qs.length 20 && a.qs.all fitQ
def txL (la : List B) : Nat → B
  | 0 => wLabels
  | k + 1 => txL la k ++ [32] ++ la.getD (k + 1) []
def txC (cs : List Cp) (a : B) : Nat → B
  | 0 => a
  | k + 1 => txC cs a k ++ [32] ++ decN 7 (cs.getD k cd).least ++ [47] ++ decN 7 (cs.getD k cd).most
def qHead (a : B) (q : Qu) : B := a ++ [113, 117, 101, 117, 101, 32] ++ q.path ++ [32] ++ decN 7 q.user
def txQ (qs : List Qu) (a : B) : Nat → B
  | 0 => a
  | k + 1 => txC (qs.getD k qd).caps (qHead (txQ qs a k) (qs.getD k qd)) (qs.getD k qd).caps.length ++ [10]
def txA (la : List B) : B := txL la (la.length - 1) ++ [10]
def textR (la : List B) (qs : List Qu) : B := txQ qs (txA la) qs.length
def S13 : Go.W.Spec regK.T := ⟨AT, fun a => [.agg [.d (.sl 9 a.la), .d (.sl 46 a.qs)]], fun _ => [], AT.fine, fun a => .ret (ks (textR a.la a.qs), [])⟩
def M13 : Meet S13 where
  find args _ := match args with
    | [.agg [.d l1, .d q1]] => (match lD l1, qD q1 with
      | some a, some b => some (⟨a, b⟩, [])
      | _, _ => none)
    | _ => none
  ok args g a ρ h := by
    split at h
    · split at h
      · rename_i h1 h2
        cases h
        exact ⟨⟨⟨lD_cov h1, qD_cov h2, trivial⟩, trivial⟩, rfl, fun j o' hj => by simp [S13] at hj⟩
      · cases h
    · cases h
def L13 (a : AT) (g : Nat) (k : Nat) (_ : St regK.T) : Option (LoopI regK.T Nat) := match Nat.beq k 3 with
  | true => some ⟨{ k : Nat // k + 1 ≤ a.la.length ∨ k = 0 }, fun k => ⟨[(1, .ptr 0 0 0), (3, ks (txL a.la k.1)), (4, ki (k.1 + 1 : Nat))], [(0, .rows 2 [[.d (.sl 9 a.la), .d (.sl 46 a.qs)]])], 1⟩, fun k => a.la.length - k.1, fun _ => 0⟩
  | false => (match Nat.beq k 8 with
    | true => some ⟨{ i : Nat // i ≤ a.qs.length }, fun i => ⟨[(1, .ptr 0 0 0), (3, ks (txQ a.qs (txA a.la) i.1)), (5, ki (i.1 : Nat))], [(0, .rows 2 [[.d (.sl 9 a.la), .d (.sl 46 a.qs)]])], 1⟩, fun i => a.qs.length - i.1, fun i => i.1⟩
    | false => (match Nat.beq k 13 with
      | true => some ⟨{ k : Nat // k ≤ (a.qs.getD g qd).caps.length }, fun k => ⟨[(1, .ptr 0 0 0), (3, ks (txC (a.qs.getD g qd).caps (qHead (txQ a.qs (txA a.la) g) (a.qs.getD g qd)) k.1)), (5, ki (g : Nat)), (6, .ptr 1 0 0), (7, ki (k.1 : Nat))],
          [(0, .rows 2 [[.d (.sl 9 a.la), .d (.sl 46 a.qs)]]), (1, .rows 3 [[ks (a.qs.getD g qd).path, .d (.sl 48 (a.qs.getD g qd).caps), ki (a.qs.getD g qd).user]])], 2⟩, fun k => (a.qs.getD g qd).caps.length - k.1, fun _ => g⟩
      | false => none))
end Go.Proofs.YtaonjbojhikndaaDoor
