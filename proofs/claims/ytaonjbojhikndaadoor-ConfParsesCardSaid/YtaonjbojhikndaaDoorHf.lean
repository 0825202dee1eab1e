/- The reference's Same; configurations that are made, their texts: forms. No conditions. -/
import Derived.Test.YtaonjbojhikndaaDoorHe
import Derived.Test.YtaonjbojhikndaaDoorFg
namespace Go.Proofs.YtaonjbojhikndaaDoor
open Go Go.W
set_option maxRecDepth 100000
theorem allI_not {p : Nat → Bool} : ∀ {n i : Nat}, i < n → p i = false → allI p n = false
  | 0, i, h, _ => by omega
  | n + 1, i, h, hp => by
    show (allI p n && p n) = false
    by_cases hi : i = n
    · subst hi; rw [hp, Bool.and_false]
    · rw [allI_not (n := n) (i := i) (by omega) hp]; rfl
theorem allI_all {p : Nat → Bool} : ∀ {n : Nat}, (∀ i, i < n → p i = true) → allI p n = true
  | 0, _ => rfl
  | n + 1, h => by
    show (allI p n && p n) = true
    rw [allI_all (n := n) (fun i hi => h i (by omega)), h n (by omega)]; rfl
theorem allI_get {p : Nat → Bool} {n i : Nat} (h : allI p n = true) (hi : i < n) : p i = true := by
  cases hp : p i with
  | true => rfl
  | false => rw [allI_not hi hp] at h; cases h
theorem dTT {p : Prop} [Decidable p] (h : p) : (decide p && true && true) = true := by rw [Bool.and_true, Bool.and_true]; exact dT h
theorem ok19 (a : ASm) (hp : S19.pre a = true) : OwesN e0 19 S19 (fun _ => []) (L19 a) noJ (G19.mk 0) a := by
  refine OwesN.mk ?_
  rw [v19]
  have hp : ASm.fine a = true := hp
  simp only [ASm.fine, Bool.and_eq_true] at hp
  have h1 := small_le hp.1.1
  have h2 := small_le hp.1.2
  have h3 : ∀ i, i < a.qa.length → (a.qa.getD i qd).caps.length ≤ 1000000 := fun i hi => small_le (List.all_eq_true.1 hp.2 _ (by simp [List.getD, hi]))
  have no : ∀ b : Bool, (sameM a = b) → sameM a = b ∧ True := fun b h => ⟨h, trivial⟩
  refine br (fun hl => no _ ?_) (fun hl => br (fun hq => no _ ?_) (fun hq => ?_))
  · have hl : ¬ a.la.length = a.lb.length := by
      have := bne_iff_ne.1 hl
      omega
    unfold sameM; rw [dF hl]; rfl
  · have hq : ¬ a.qa.length = a.qb.length := by
      have := bne_iff_ne.1 hq
      omega
    unfold sameM; rw [dF hq]; cases decide (a.la.length = a.lb.length) <;> rfl
  have hl : a.la.length = a.lb.length := by
    have : ¬ ((a.la.length : Int) ≠ (a.lb.length : Int)) := fun h => by rw [bne_iff_ne.2 h] at hl; cases hl
    omega
  have hq : a.qa.length = a.qb.length := by
    have : ¬ ((a.qa.length : Int) ≠ (a.qb.length : Int)) := fun h => by rw [bne_iff_ne.2 h] at hq; cases hq
    omega
  have hP : P19 a := ⟨hl, hq⟩
  have noL' : ∀ i, i < a.la.length → a.lp i = false → sameM a = false := fun i hi h => by
    unfold sameM; rw [allI_not hi h]
    cases decide (a.la.length = a.lb.length) <;> cases decide (a.qa.length = a.qb.length) <;> rfl
  have noQ : ∀ i, i < a.qa.length → a.qp i = false → sameM a = false := fun i hi h => by
    unfold sameM; rw [allI_not hi h, Bool.and_false, Bool.and_false, Bool.and_false]
  refine ⟨⟨⟨0, Nat.zero_le _, rfl, hP⟩, ⟨⟨rfl, rfl⟩, ⟨rfl, rfl⟩, rfl, trivial⟩, ⟨⟨rfl, rfl, trivial⟩, trivial⟩, ⟨⟨rfl, rfl, trivial⟩, trivial⟩, trivial⟩, fun x => ?_⟩
  have xi := x.2.1
  have xa := x.2.2.1
  have e1 : ((x.1 : Int)).toNat = x.1 := by simp
  have w1 : IntKind.i64.wrap ((x.1 : Int) + 1) = ((x.1 + 1 : Nat) : Int) := by rw [wrap_id] <;> omega
  rw [e1, w1]
  refine br (fun hlt => ?_) (fun hge => ?_)
  · have hlt : x.1 < a.la.length := by simpa using hlt
    refine brT (by simp; omega) (brT (by simp; omega) (br (fun hb => no _ (noL' x.1 hlt ?_)) (fun hb => ?_)))
    · have hb : (!(a.la.getD x.1 [] == a.lb.getD x.1 [])) = true := hb
      unfold ASm.lp; simpa using hb
    · have hb : (!(a.la.getD x.1 [] == a.lb.getD x.1 [])) = false := hb
      have hb : a.lp x.1 = true := by unfold ASm.lp; simpa using hb
      refine ⟨⟨x.1 + 1, hlt, by show (allI a.lp x.1 && a.lp x.1) = true; rw [xa, hb]; rfl, hP⟩, ?_, ⟨⟨rfl, rfl⟩, ⟨rfl, rfl⟩, rfl, trivial⟩, ⟨⟨rfl, rfl, trivial⟩, trivial⟩, ⟨⟨rfl, rfl, trivial⟩, trivial⟩, trivial⟩
      show a.la.length - (x.1 + 1) < _; omega
  have hge : ¬ x.1 < a.la.length := by simpa using hge
  have hx : x.1 = a.la.length := by omega
  rw [hx] at xa
  refine ⟨⟨⟨0, Nat.zero_le _, rfl, xa, hP⟩, ⟨⟨rfl, rfl⟩, ⟨rfl, rfl⟩, rfl, trivial⟩, ⟨⟨rfl, rfl, trivial⟩, trivial⟩, ⟨⟨rfl, rfl, trivial⟩, trivial⟩, trivial⟩, fun y => ?_⟩
  have yi := y.2.1
  have ya := y.2.2.1
  have e2 : ((y.1 : Int)).toNat = y.1 := by simp
  have w2 : IntKind.i64.wrap ((y.1 : Int) + 1) = ((y.1 + 1 : Nat) : Int) := by rw [wrap_id] <;> omega
  rw [e2, w2]
  refine br (fun hlt => ?_) (fun hge => ?_)
  · have hlt : y.1 < a.qa.length := by simpa using hlt
    have h3 := h3 y.1 hlt
    have bad : sameQ (a.qa.getD y.1 qd) (a.qb.getD y.1 qd) = false → sameM a = false := fun h => noQ y.1 hlt h
    refine brT (by simp; omega) (brT (by simp; omega) (br (fun b1 => no _ (bad ?_)) (fun b1 => br (fun b2 => no _ (bad ?_)) (fun b2 => br (fun b3 => no _ (bad ?_)) (fun b3 => ?_)))))
    · have b1 : (!((a.qa.getD y.1 qd).path == (a.qb.getD y.1 qd).path)) = true := b1
      have b1 : ((a.qa.getD y.1 qd).path == (a.qb.getD y.1 qd).path) = false := by simpa using b1
      unfold sameQ; rw [b1]; rfl
    · have b2 : ((a.qa.getD y.1 qd).user != (a.qb.getD y.1 qd).user) = true := b2
      have b2 : ((a.qa.getD y.1 qd).user == (a.qb.getD y.1 qd).user) = false := by simpa [bne] using b2
      unfold sameQ; rw [b2, Bool.false_and, Bool.and_false]
    · have b3 : (((a.qa.getD y.1 qd).caps.length : Int) != ((a.qb.getD y.1 qd).caps.length : Int)) = true := b3
      have b3 : ¬ (a.qa.getD y.1 qd).caps.length = (a.qb.getD y.1 qd).caps.length := by
        have := bne_iff_ne.1 b3
        omega
      unfold sameQ; rw [dF b3, Bool.false_and, Bool.and_false, Bool.and_false]
    have b1 : ((a.qa.getD y.1 qd).path == (a.qb.getD y.1 qd).path) = true := by
      have b1 : (!((a.qa.getD y.1 qd).path == (a.qb.getD y.1 qd).path)) = false := b1
      simpa using b1
    have b2 : ((a.qa.getD y.1 qd).user == (a.qb.getD y.1 qd).user) = true := by
      have b2 : ((a.qa.getD y.1 qd).user != (a.qb.getD y.1 qd).user) = false := b2
      simpa [bne] using b2
    have b3 : (a.qa.getD y.1 qd).caps.length = (a.qb.getD y.1 qd).caps.length := by
      have b3 : (((a.qa.getD y.1 qd).caps.length : Int) != ((a.qb.getD y.1 qd).caps.length : Int)) = false := b3
      have : ¬ (((a.qa.getD y.1 qd).caps.length : Int) ≠ ((a.qb.getD y.1 qd).caps.length : Int)) := fun h => by rw [bne_iff_ne.2 h] at b3; cases b3
      omega
    refine ⟨⟨⟨0, Nat.zero_le _, rfl⟩, ⟨⟨rfl, rfl⟩, ⟨rfl, rfl⟩, rfl, ⟨rfl, rfl⟩, ⟨rfl, rfl⟩, rfl, trivial⟩, ⟨⟨rfl, rfl, trivial⟩, trivial⟩, ⟨⟨rfl, rfl, trivial⟩, trivial⟩, ⟨⟨rfl, rfl, rfl, trivial⟩, trivial⟩, ⟨⟨rfl, rfl, rfl, trivial⟩, trivial⟩, trivial⟩, fun z => ?_⟩
    have zi := z.2.1
    have za := z.2.2
    have e3 : ((z.1 : Int)).toNat = z.1 := by simp
    have w3 : IntKind.i64.wrap ((z.1 : Int) + 1) = ((z.1 + 1 : Nat) : Int) := by rw [wrap_id] <;> omega
    rw [e3, w3]
    refine br (fun hl3 => ?_) (fun hg3 => ?_)
    · have hl3 : z.1 < (a.qa.getD y.1 qd).caps.length := by simpa using hl3
      refine brT (dTT (by omega)) (brT (dTT (by omega)) (br (fun hb => no _ (bad ?_)) (fun hb => ?_)))
      · have hb : (!(((a.qa.getD y.1 qd).caps.getD z.1 cd).least == ((a.qb.getD y.1 qd).caps.getD z.1 cd).least && (((a.qa.getD y.1 qd).caps.getD z.1 cd).most == ((a.qb.getD y.1 qd).caps.getD z.1 cd).most && true))) = true := hb
        have hb : sameC ((a.qa.getD y.1 qd).caps.getD z.1 cd) ((a.qb.getD y.1 qd).caps.getD z.1 cd) = false := by
          rw [Bool.and_true] at hb
          unfold sameC; exact Eq.mp (Bool.not_eq_true' _) hb
        unfold sameQ
        rw [allI_not (p := fun k => sameC ((a.qa.getD y.1 qd).caps.getD k cd) ((a.qb.getD y.1 qd).caps.getD k cd)) hl3 hb, Bool.and_false, Bool.and_false, Bool.and_false]
      · have hb : (!(((a.qa.getD y.1 qd).caps.getD z.1 cd).least == ((a.qb.getD y.1 qd).caps.getD z.1 cd).least && (((a.qa.getD y.1 qd).caps.getD z.1 cd).most == ((a.qb.getD y.1 qd).caps.getD z.1 cd).most && true))) = false := hb
        have hb : sameC ((a.qa.getD y.1 qd).caps.getD z.1 cd) ((a.qb.getD y.1 qd).caps.getD z.1 cd) = true := by
          rw [Bool.and_true] at hb
          unfold sameC; exact Eq.mp (Bool.not_eq_false' _) hb
        refine ⟨⟨z.1 + 1, hl3, ?_⟩, ?_, ⟨⟨rfl, rfl⟩, ⟨rfl, rfl⟩, rfl, ⟨rfl, rfl⟩, ⟨rfl, rfl⟩, rfl, trivial⟩, ⟨⟨rfl, rfl, trivial⟩, trivial⟩, ⟨⟨rfl, rfl, trivial⟩, trivial⟩, ⟨⟨rfl, rfl, rfl, trivial⟩, trivial⟩, ⟨⟨rfl, rfl, rfl, trivial⟩, trivial⟩, trivial⟩
        · show (allI _ z.1 && sameC ((a.qa.getD y.1 qd).caps.getD z.1 cd) ((a.qb.getD y.1 qd).caps.getD z.1 cd)) = true
          rw [za, hb]; rfl
        · show (a.qa.getD y.1 qd).caps.length - (z.1 + 1) < _; omega
    · have hg3 : ¬ z.1 < (a.qa.getD y.1 qd).caps.length := by simpa using hg3
      have hz : z.1 = (a.qa.getD y.1 qd).caps.length := by omega
      rw [hz] at za
      have hqp : a.qp y.1 = true := by
        unfold ASm.qp sameQ
        rw [b1, b2, dT b3, za]; rfl
      refine ⟨⟨y.1 + 1, hlt, by show (allI a.qp y.1 && a.qp y.1) = true; rw [ya, hqp]; rfl, xa, hP⟩, ?_, ⟨⟨rfl, rfl⟩, ⟨rfl, rfl⟩, rfl, trivial⟩, ⟨⟨rfl, rfl, trivial⟩, trivial⟩, ⟨⟨rfl, rfl, trivial⟩, trivial⟩, trivial⟩
      show a.qa.length - (y.1 + 1) < _; omega
  · have hge : ¬ y.1 < a.qa.length := by simpa using hge
    have hy : y.1 = a.qa.length := by omega
    rw [hy] at ya
    refine ⟨?_, trivial⟩
    unfold sameM
    rw [dT hl, dT hq, xa, ya]; rfl
theorem k19 : SpecOk Tryd.prog 19 S19 := spec_loopN e0_sound (by kernel_rfl) (fun _ _ => []) L19 (fun _ => noJ) (fun _ => G19.mk 0) ok19
theorem a19 : RowOK 19 (S19.con M19) := Spec.con_ok k19 M19 (fun _ => Nat.le_of_ble_eq_true rfl)
/-! ### few -/
structure AR where
  l : Int
  qs : List Rq
def rqd : Rq := ⟨[], [], 0⟩
def fewQ (r : Rq) : Bool := decide (r.names.length ≤ 8) && decide (r.caps.length ≤ 8)
def AR.fp (a : AR) (i : Nat) : Bool := fewQ (a.qs.getD i rqd)
def fewM (a : AR) : Bool := decide (a.qs.length ≤ 20) && allI a.fp a.qs.length
def S12 : Go.W.Spec regK.T := ⟨AR, fun a => [.agg [ki a.l, .d (.sl 58 a.qs)]], fun _ => [], fun _ => true, fun a => .ret (kb (fewM a), [])⟩
def MR (pre : AR → Bool) (out : AR → QO) : Meet (⟨AR, fun a => [.agg [ki a.l, .d (.sl 58 a.qs)]], fun _ => [], pre, out⟩ : Go.W.Spec regK.T) where
  find args _ := match args with | [.agg [.d (.int .i64 l), .d (.sl 58 qs)]] => some (⟨l, qs⟩, []) | _ => none
  ok args g a ρ h := by
    split at h
    · cases h
      exact ⟨⟨⟨cov_i' _ _, rfl, trivial⟩, trivial⟩, rfl, fun j o' hj => by simp at hj⟩
    · cases h
def L12 (a : AR) (_ : Unit) (k : Nat) (_ : St regK.T) : Option (LoopI regK.T Unit) := match Nat.beq k 2 with
  | true => some ⟨{ i : Nat // i ≤ a.qs.length ∧ i ≤ 20 ∧ allI a.fp i = true }, fun i => ⟨[(1, .ptr 0 0 0), (3, ki (i.1 : Nat))], [(0, .rows 2 [[ki a.l, .d (.sl 58 a.qs)]])], 1⟩, fun i => a.qs.length - i.1, fun _ => ()⟩
  | false => none
/-! ### put -/
structure AP where
  l : List Qu
  q : Qu
  n : Nat
def AP.fine (a : AP) : Bool := Nat.beq a.n a.q.caps.length && small a.l.length && small a.q.caps.length
def putM (l : List Qu) (q : Qu) : List Qu := bif isF l q then l else insF l q
def S23 : Go.W.Spec regK.T := ⟨AP, fun a => [.d (.sl 46 a.l), .agg [ks a.q.path, .sl 0 0 a.n (.least 0), ki a.q.user]], fun a => [.trows 48 a.q.caps], AP.fine, fun a => .ret (.d (.sl 46 (putM a.l a.q)), [none])⟩
def M23 : Meet S23 where
  find args g := match args with
    | [.d x, .agg [.d (.str p), .sl i 0 n _, .d (.int .i64 u)]] => (match qD x, g i with
      | some l, some (.trows 48 cs) => some (⟨l, ⟨p, cs, u⟩, n⟩, [i])
      | _, _ => none)
    | _ => none
  ok args g a ρ h := by
    split at h
    · split at h
      · rename_i hq hg
        cases h
        refine ⟨⟨qD_cov hq, ⟨cov_s _ _, (must_iff _ _).2 ⟨Nat.beq_refl _, rfl, rfl, cap0 _⟩, cov_i' _ _, trivial⟩, trivial⟩, rfl, fun j o' hj => ?_⟩
        match j, hj with
        | 0, hj =>
          simp only [S23, List.getElem?_cons_zero, Option.some.injEq] at hj; subst hj
          exact ⟨_, _, rfl, hg, rfl⟩
        | j + 1, hj => simp [S23] at hj
      · cases h
    · cases h
structure AP.Lt (a : AP) (k : Nat) : Prop where
  le : k ≤ a.l.length
  lt : ∀ j, j < k → ltQ (a.l.getD j qd) a.q = true
def rowP (a : AP) : OK := .rows 3 [[ks a.q.path, .d (.sl 48 a.q.caps), ki a.q.user]]
def L23 (a : AP) (_ : Unit) (k : Nat) (_ : St regK.T) : Option (LoopI regK.T Unit) := match Nat.beq k 2 with
  | true => some ⟨{ k : Nat // a.Lt k }, fun k => ⟨[(0, .d (.sl 46 a.l)), (3, .ptr 1 0 0), (5, ki (k.1 : Nat))], [(1, .rows 3 [[ks a.q.path, .d (.sl 48 a.q.caps), ki a.q.user]])], 2⟩, fun k => a.l.length - k.1, fun _ => ()⟩
  | false => none
def J23 (a : AP) (_ : Unit) (k : Nat) : Option (LoopI regK.T Unit) := match Nat.beq k 4 with
  | true => some ⟨{ k : Nat // a.Lt k ∧ (k < a.l.length → ltQ (a.l.getD k qd) a.q = false) }, fun k => ⟨[(0, .d (.sl 46 a.l)), (3, .ptr 1 0 0), (5, ki (k.1 : Nat))], [(1, .rows 3 [[ks a.q.path, .d (.sl 48 a.q.caps), ki a.q.user]])], 2⟩, fun _ => 0, fun _ => ()⟩
  | false => (match Nat.beq k 6 with
    | true => some ⟨{ k : Nat // k ≤ a.l.length ∧ putM a.l a.q = a.l.take k ++ a.q :: a.l.drop k }, fun k => ⟨[(0, .d (.sl 46 a.l)), (3, .ptr 1 0 0), (5, ki (k.1 : Nat))], [(1, .rows 3 [[ks a.q.path, .d (.sl 48 a.q.caps), ki a.q.user]])], 2⟩, fun _ => 0, fun _ => ()⟩
    | false => (match Nat.beq k 7 with
      | true => some ⟨{ k : Nat // k ≤ a.l.length ∧ putM a.l a.q = a.l.take k ++ a.q :: a.l.drop k }, fun k => ⟨[(0, .d (.sl 46 a.l)), (3, .ptr 1 0 0), (5, ki (k.1 : Nat)), (6, .sl 2 0 k.1 (.least 0))], [(1, .rows 3 [[ks a.q.path, .d (.sl 48 a.q.caps), ki a.q.user]]), (2, .trows 46 (a.l.take k.1))], 3⟩, fun _ => 0, fun _ => ()⟩
      | false => (match Nat.beq k 8 with
        | true => some ⟨{ k : Nat // k ≤ a.l.length ∧ putM a.l a.q = a.l.take k ++ a.q :: a.l.drop k }, fun k => ⟨[(0, .d (.sl 46 a.l)), (5, ki (k.1 : Nat)), (6, .sl 1 0 (k.1 + 1) (.least 0))], [(1, .trows 46 (a.l.take k.1 ++ [a.q]))], 2⟩, fun _ => 0, fun _ => ()⟩
        | false => none)))
def A23 (k : Nat) : List Tgt := (lookN [(0, [.fcell 1 0 1])] k).getD []
/-! ### mix -/
def K25 : Con regK.T := fun f => lookN [(15, S15.con M15)] f
theorem K25_ok : ConOk Tryd.prog K25 := con_cons a15 con_nil
noncomputable def e25 : Hd regK.T := hdT regK Tryd.prog K25 (fun _ => false) 1000 5
theorem e25_sound : HdSound Tryd.prog e25 := hdT_sound mixed hno K25_ok _ _ _
def someM : List B := [[108, 97, 98, 101, 108, 115], [113, 117, 101, 117, 101], [32], [32, 32], [10], [114, 111, 111, 116], [114, 111, 111, 116, 46, 97], [49, 48, 48, 48, 48], [48], [48, 49], [53, 47, 49, 48], [49, 48, 48, 48, 48, 47, 49, 48, 48, 48, 48], [47], [49, 47], [49, 50, 51, 52, 53, 54, 55, 56, 47, 49], [103, 112, 117], [120], [45, 49, 47, 50]]
def mixM (ns : List Int) : Nat → B
  | 0 => []
  | k + 1 => mixM ns k ++ someM.getD (wi (ns.getD k 0) 18).toNat []
def mixN (ns : List Int) : B := mixM ns (min ns.length 60)
def S16 : Go.W.Spec regK.T := ⟨List Int, fun a => [.d (.sl 3 a)], fun _ => [], fun _ => true, fun a => .ret (ks (mixN a), [])⟩
def M16 : Meet S16 where
  find args _ := match args with | [.d (.sl 3 xs)] => some (xs, []) | _ => none
  ok args g a ρ h := by
    split at h
    · cases h
      exact ⟨⟨rfl, trivial⟩, rfl, fun j o' hj => by simp [S16] at hj⟩
    · cases h
def L16 (ns : List Int) (ss : List B) (_ : Unit) (k : Nat) (_ : St regK.T) : Option (LoopI regK.T Unit) := match Nat.beq k 4 with
  | true => some ⟨{ i : Nat // i ≤ ns.length ∧ i ≤ 60 }, fun i => ⟨[(0, .d (.sl 3 ns)), (3, .sl 0 0 18 (.least 0)), (4, ks (mixM ns i.1)), (5, ki (i.1 : Nat))], [(0, .trows 9 ss)], 1⟩, fun i => ns.length - i.1, fun _ => ()⟩
  | false => none
/-! ### Decimal -/
def digB (n : Int) : B := [UInt8.ofNat (48 + n.toNat)]
def decN : Nat → Int → B
  | 0, n => digB n
  | k + 1, n => bif decide (10 ≤ n) then decN k (n.tdiv 10) ++ decN k (n.tmod 10) else digB n
def SI (pre : Int → Bool) (out : Int → QO) : Go.W.Spec regK.T := ⟨Int, fun n => [ki n], fun _ => [], pre, out⟩
def MI (pre : Int → Bool) (out : Int → QO) : Meet (SI pre out) where
  find args _ := match args with | [.d (.int .i64 n)] => some (n, []) | _ => none
  ok args g a ρ h := by
    split at h
    · cases h
      exact ⟨⟨cov_i' _ _, trivial⟩, rfl, fun j o' hj => by simp [SI] at hj⟩
    · cases h
def p22 (k : Nat) (n : Int) : Bool := decide (0 ≤ n) && decide (n < 10 ^ (k + 1))
def q22 (k : Nat) (n : Int) : QO := .ret (ks (decN k n), [])
def K26 (k : Nat) : Con regK.T := fun f => lookN [(22, (SI (p22 k) (q22 k)).con (MI (p22 k) (q22 k)))] f
noncomputable def e26 (k : Nat) : Hd regK.T := hdT regK Tryd.prog (K26 k) (fun _ => false) 1000 5
def K27 : Con regK.T := fun f => lookN [(22, uBad)] f
theorem K27_ok : ConOk Tryd.prog K27 := con_cons (aBad 22) con_nil
noncomputable def e27 : Hd regK.T := hdT regK Tryd.prog K27 (fun _ => false) 1000 5
theorem e27_sound : HdSound Tryd.prog e27 := hdT_sound mixed hno K27_ok _ _ _
def J22 (_ : Nat) (k : Nat) : Option (LoopI regK.T Nat) := match Nat.beq k 7 with
  | true => some ⟨{ _c : Nat // False }, fun _ => ⟨[(0, ki 5)], [], 0⟩, fun _ => 0, fun _ => 0⟩
  | false => none
end Go.Proofs.YtaonjbojhikndaaDoor
