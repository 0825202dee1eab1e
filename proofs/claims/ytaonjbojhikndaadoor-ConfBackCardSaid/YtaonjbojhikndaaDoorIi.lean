/- conf.Same; numbers and texts of any configuration; ConfBack: forms. No conditions. -/
import Derived.Test.YtaonjbojhikndaaDoorJg
namespace Go.Proofs.YtaonjbojhikndaaDoor
open Go Go.W
set_option maxRecDepth 100000
/-! ### conf.Same -/
structure A2L where
  a : List B
  b : List B
def A2L.p (x : A2L) (i : Nat) : Bool := x.a.getD i [] == x.b.getD i []
def A2L.eq (x : A2L) : Bool := decide (x.a.length = x.b.length) && allI x.p x.a.length
def S34 : Go.W.Spec regK.T := ⟨A2L, fun x => [.d (.sl 9 x.a), .d (.sl 9 x.b)], fun _ => [], fun x => small x.a.length, fun x => .ret (kb x.eq, [])⟩
def M34 : Meet S34 where
  find args _ := match args with
    | [.d l1, .d l2] => (match lD l1, lD l2 with
      | some a, some b => some (⟨a, b⟩, [])
      | _, _ => none)
    | _ => none
  ok args g a ρ h := by
    split at h
    · split at h
      · rename_i h1 h2
        cases h
        exact ⟨⟨lD_cov h1, lD_cov h2, trivial⟩, rfl, fun j o' hj => by simp [S34] at hj⟩
      · cases h
    · cases h
def L34 (x : A2L) (_ : Unit) (k : Nat) (_ : St regK.T) : Option (LoopI regK.T Unit) := match Nat.beq k 4 with
  | true => some ⟨{ i : Nat // i ≤ x.a.length ∧ allI x.p i = true ∧ x.a.length = x.b.length }, fun i => ⟨[(0, .d (.sl 9 x.a)), (1, .d (.sl 9 x.b)), (12, ki (x.a.length : Nat)), (13, ki (i.1 : Nat))], [], 0⟩, fun i => x.a.length - i.1, fun _ => ()⟩
  | false => none
structure A2C where
  a : List Cp
  b : List Cp
def A2C.p (x : A2C) (i : Nat) : Bool := sameC (x.a.getD i cd) (x.b.getD i cd)
def A2C.eq (x : A2C) : Bool := decide (x.a.length = x.b.length) && allI x.p x.a.length
def S37 : Go.W.Spec regK.T := ⟨A2C, fun x => [.d (.sl 48 x.a), .d (.sl 48 x.b)], fun _ => [], fun x => small x.a.length, fun x => .ret (kb x.eq, [])⟩
def cD : D TK → Option (List Cp)
  | .sl 48 xs => some xs
  | .nils => some []
  | _ => none
theorem cD_cov {x : D TK} {xs : List Cp} (h : cD x = some xs) : covD (.sl 48 xs) x := by
  unfold cD at h; split at h
  · cases h; exact rfl
  · cases h; exact rfl
  · cases h
def M37 : Meet S37 where
  find args _ := match args with
    | [.d l1, .d l2] => (match cD l1, cD l2 with
      | some a, some b => some (⟨a, b⟩, [])
      | _, _ => none)
    | _ => none
  ok args g a ρ h := by
    split at h
    · split at h
      · rename_i h1 h2
        cases h
        exact ⟨⟨cD_cov h1, cD_cov h2, trivial⟩, rfl, fun j o' hj => by simp [S37] at hj⟩
      · cases h
    · cases h
def L37 (x : A2C) (_ : Unit) (k : Nat) (_ : St regK.T) : Option (LoopI regK.T Unit) := match Nat.beq k 4 with
  | true => some ⟨{ i : Nat // i ≤ x.a.length ∧ allI x.p i = true ∧ x.a.length = x.b.length }, fun i => ⟨[(0, .d (.sl 48 x.a)), (1, .d (.sl 48 x.b)), (12, ki (x.a.length : Nat)), (13, ki (i.1 : Nat))], [], 0⟩, fun i => x.a.length - i.1, fun _ => ()⟩
  | false => none
def K36 : Con regK.T := fun f => lookN [(37, S37.con M37)] f
noncomputable def e36 : Hd regK.T := hdT regK Tryd.prog K36 (fun _ => false) 1000 5
structure A2Q where
  a : Qu
  b : Qu
def S36 : Go.W.Spec regK.T := ⟨A2Q, fun x => [.agg [ks x.a.path, .d (.sl 48 x.a.caps), ki x.a.user], .agg [ks x.b.path, .d (.sl 48 x.b.caps), ki x.b.user]], fun _ => [], fun x => small x.a.caps.length, fun x => .ret (kb (sameQ x.a x.b), [])⟩
def M36 : Meet S36 where
  find args _ := match args with
    | [.agg [.d (.str p), .d c, .d (.int .i64 u)], .agg [.d (.str p'), .d c', .d (.int .i64 u')]] => (match cD c, cD c' with
      | some a, some b => some (⟨⟨p, a, u⟩, ⟨p', b, u'⟩⟩, [])
      | _, _ => none)
    | _ => none
  ok args g a ρ h := by
    split at h
    · split at h
      · rename_i h1 h2
        cases h
        exact ⟨⟨⟨cov_s _ _, cD_cov h1, cov_i' _ _, trivial⟩, ⟨cov_s _ _, cD_cov h2, cov_i' _ _, trivial⟩, trivial⟩, rfl, fun j o' hj => by simp [S36] at hj⟩
      · cases h
    · cases h
def K37 : Con regK.T := fun f => lookN [(36, S36.con M36)] f
noncomputable def e37 : Hd regK.T := hdT regK Tryd.prog K37 (fun _ => false) 1000 5
structure A2S where
  a : List Qu
  b : List Qu
def A2S.p (x : A2S) (i : Nat) : Bool := sameQ (x.a.getD i qd) (x.b.getD i qd)
def A2S.eq (x : A2S) : Bool := decide (x.a.length = x.b.length) && allI x.p x.a.length
def S35 : Go.W.Spec regK.T := ⟨A2S, fun x => [.d (.sl 46 x.a), .d (.sl 46 x.b), .fn 36 [] []], fun _ => [], fun x => small x.a.length && x.a.all fun q => small q.caps.length, fun x => .ret (kb x.eq, [])⟩
def M35 : Meet S35 where
  find args _ := match args with
    | [.d l1, .d l2, .fn f [] []] => (match Nat.beq 36 f, qD l1, qD l2 with
      | true, some a, some b => some (⟨a, b⟩, [])
      | _, _, _ => none)
    | _ => none
  ok args g a ρ h := by
    split at h
    · split at h
      · rename_i hf h1 h2
        cases h
        have hf := Nat.eq_of_beq_eq_true hf
        subst hf
        exact ⟨⟨qD_cov h1, qD_cov h2, (must_iff _ _).2 ⟨rfl, trivial, trivial⟩, trivial⟩, rfl, fun j o' hj => by simp [S35] at hj⟩
      · cases h
    · cases h
def L35 (x : A2S) (_ : Unit) (k : Nat) (_ : St regK.T) : Option (LoopI regK.T Unit) := match Nat.beq k 4 with
  | true => some ⟨{ i : Nat // i ≤ x.a.length ∧ allI x.p i = true ∧ x.a.length = x.b.length }, fun i => ⟨[(1, .d (.sl 46 x.b)), (2, .fn 36 [] []), (15, .d (.sl 46 x.a)), (16, ki (x.a.length : Nat)), (17, ki (i.1 : Nat))], [], 0⟩, fun i => x.a.length - i.1, fun _ => ()⟩
  | false => none
def K38 : Con regK.T := fun f => lookN [(34, S34.con M34), (35, S35.con M35)] f
noncomputable def e38 : Hd regK.T := hdT regK Tryd.prog K38 (fun _ => false) 1000 5
/-! ### Decimal at every number; ref.Text -/
def S22 : Go.W.Spec regK.T := SI okI fun n => .ret (ks (numI n), [])
def K39 : Con regK.T := fun f => lookN [(22, S22.con (MI _ _))] f
noncomputable def e39 : Hd regK.T := hdT regK Tryd.prog K39 (fun _ => false) 1000 5
def AT.big (a : AT) : Bool := Nat.ble a.la.length 10 && (a.la.all fun l => Nat.ble l.length 140737488355328) && Nat.ble a.qs.length 20 && a.qs.all okQ
def uC (cs : List Cp) (a : B) : Nat → B
  | 0 => a
  | k + 1 => uC cs a k ++ [32] ++ numI (cs.getD k cd).least ++ [47] ++ numI (cs.getD k cd).most
def uH (a : B) (q : Qu) : B := a ++ [113, 117, 101, 117, 101, 32] ++ q.path ++ [32] ++ numI q.user
def uQ (qs : List Qu) (a : B) : Nat → B
  | 0 => a
  | k + 1 => uC (qs.getD k qd).caps (uH (uQ qs a k) (qs.getD k qd)) (qs.getD k qd).caps.length ++ [10]
def textU (la : List B) (qs : List Qu) : B := uQ qs (txA la) qs.length
def S13g : Go.W.Spec regK.T := ⟨AT, fun a => [.agg [.d (.sl 9 a.la), .d (.sl 46 a.qs)]], fun _ => [], AT.big, fun a => .ret (ks (textU a.la a.qs), [])⟩
def S20g : Go.W.Spec regK.T := ⟨AT, fun a => [.agg [.d (.sl 9 a.la), .d (.sl 46 a.qs)]], fun _ => [], AT.big, fun a => .ret (ks (textI a.la a.qs), [])⟩
def MT (pre : AT → Bool) (out : AT → QO) : Meet (⟨AT, fun a => [.agg [.d (.sl 9 a.la), .d (.sl 46 a.qs)]], fun _ => [], pre, out⟩ : Go.W.Spec regK.T) where
  find args _ := match args with
    | [.agg [.d l1, .d q1]] => (match lD l1, qD q1 with
      | some a, some b => some (⟨a, b⟩, [])
      | _, _ => none)
    | _ => none
  ok args g a ρ h := by
    split at h
    · split at h
      · rename_i h1 h2
        cases h
        exact ⟨⟨⟨lD_cov h1, qD_cov h2, trivial⟩, trivial⟩, rfl, fun j o' hj => by simp at hj⟩
      · cases h
    · cases h
def L13g (a : AT) (g : Nat) (k : Nat) (_ : St regK.T) : Option (LoopI regK.T Nat) := match Nat.beq k 3 with
  | true => some ⟨{ k : Nat // k + 1 ≤ a.la.length ∨ k = 0 }, fun k => ⟨[(1, .ptr 0 0 0), (3, ks (txL a.la k.1)), (4, ki (k.1 + 1 : Nat))], [(0, .rows 2 [[.d (.sl 9 a.la), .d (.sl 46 a.qs)]])], 1⟩, fun k => a.la.length - k.1, fun _ => 0⟩
  | false => (match Nat.beq k 8 with
    | true => some ⟨{ i : Nat // i ≤ a.qs.length }, fun i => ⟨[(1, .ptr 0 0 0), (3, ks (uQ a.qs (txA a.la) i.1)), (5, ki (i.1 : Nat))], [(0, .rows 2 [[.d (.sl 9 a.la), .d (.sl 46 a.qs)]])], 1⟩, fun i => a.qs.length - i.1, fun i => i.1⟩
    | false => (match Nat.beq k 13 with
      | true => some ⟨{ k : Nat // k ≤ (a.qs.getD g qd).caps.length }, fun k => ⟨[(1, .ptr 0 0 0), (3, ks (uC (a.qs.getD g qd).caps (uH (uQ a.qs (txA a.la) g) (a.qs.getD g qd)) k.1)), (5, ki (g : Nat)), (6, .ptr 1 0 0), (7, ki (k.1 : Nat))],
          [(0, .rows 2 [[.d (.sl 9 a.la), .d (.sl 46 a.qs)]]), (1, .rows 3 [[ks (a.qs.getD g qd).path, .d (.sl 48 (a.qs.getD g qd).caps), ki (a.qs.getD g qd).user]])], 2⟩, fun k => (a.qs.getD g qd).caps.length - k.1, fun _ => g⟩
      | false => none))
/-! ### ConfBack -/
def S21 : Go.W.Spec regK.T := ⟨ASm, fun a => [.agg [.d (.sl 9 a.la), .d (.sl 46 a.qa)], .agg [.d (.sl 9 a.lb), .d (.sl 46 a.qb)]], fun _ => [], ASm.fine, fun a => .ret (kb (sameM a), [])⟩
def M21 : Meet S21 where
  find args _ := match args with
    | [.agg [.d l1, .d q1], .agg [.d l2, .d q2]] => (match lD l1, qD q1, lD l2, qD q2 with
      | some a, some b, some c, some d => some (⟨a, b, c, d⟩, [])
      | _, _, _, _ => none)
    | _ => none
  ok args g a ρ h := by
    split at h
    · split at h
      · rename_i h1 h2 h3 h4
        cases h
        exact ⟨⟨⟨lD_cov h1, qD_cov h2, trivial⟩, ⟨lD_cov h3, qD_cov h4, trivial⟩, trivial⟩, rfl, fun j o' hj => by simp [S21] at hj⟩
      · cases h
    · cases h
def K40 : Con regK.T := fun f => lookN [(11, S11.con M11), (12, S12.con M12), (13, S13g.con (MT _ _)), (14, S14.con M14), (17, S17.con (MB sm _)), (19, S19.con M19), (20, S20g.con (MT _ _)), (21, S21.con M21)] f
noncomputable def e40 : Hd regK.T := hdT regK Tryd.prog K40 (fun _ => false) 1000 5
structure A10 where
  r : AR
  q : AR
  x : AT
def fit10 (q : Qu) : Bool := decide (q.caps.length ≤ 10) && decide (q.path.length ≤ 100)
def A10.p (a : A10) (i : Nat) : Bool := fit10 (a.x.qs.getD i qd)
structure P10 (a : A10) : Prop where
  l : a.x.la.length ≤ 10
  q : a.x.qs.length ≤ 20
def L10 (a : A10) (_ : Nat) (k : Nat) (_ : St regK.T) : Option (LoopI regK.T Nat) := match Nat.beq k 6 with
  | true => some ⟨{ i : Nat // i ≤ a.x.qs.length ∧ allI a.p i = true ∧ P10 a }, fun i => ⟨[(3, .ptr 0 0 0), (4, .ptr 1 0 0), (5, .ptr 2 0 0), (7, ki (i.1 : Nat))],
      [(0, .rows 2 [[ki a.r.l, .d (.sl 58 a.r.qs)]]), (1, .rows 2 [[ki a.q.l, .d (.sl 58 a.q.qs)]]), (2, .rows 2 [[.d (.sl 9 a.x.la), .d (.sl 46 a.x.qs)]])], 3⟩, fun i => a.x.qs.length - i.1, fun _ => 0⟩
  | false => none
def J10 (a : A10) (_ : Nat) (k : Nat) : Option (LoopI regK.T Nat) := match Nat.beq k 10 with
  | true => some ⟨{ _u : Nat // allI a.p a.x.qs.length = true ∧ P10 a }, fun _ => ⟨[(3, .ptr 0 0 0), (4, .ptr 1 0 0), (5, .ptr 2 0 0)],
      [(0, .rows 2 [[ki a.r.l, .d (.sl 58 a.r.qs)]]), (1, .rows 2 [[ki a.q.l, .d (.sl 58 a.q.qs)]]), (2, .rows 2 [[.d (.sl 9 a.x.la), .d (.sl 46 a.x.qs)]])], 3⟩, fun _ => 0, fun _ => 0⟩
  | false => none
def YesK (a : A10) : Prop := awpFun regK Tryd.prog e40 1000 (fun _ => []) (L10 a) (J10 a) (0 : Nat) Tryd.f10 [.agg [ki a.r.l, .d (.sl 58 a.r.qs)], .agg [ki a.q.l, .d (.sl 58 a.q.qs)], .agg [.d (.sl 9 a.x.la), .d (.sl 46 a.x.qs)]] (fun r => yes r.1)
end Go.Proofs.YtaonjbojhikndaaDoor
