/- Loops by invariants: a verification condition of a function over pure data, and that it is enough. No conditions. -/
import Derived.Test.YtmnkbfflpgmkmaaGreatDoorWT
namespace Go.W
open Go Go.RowKit

/-- The number of the first region. -/
def firstId : Code → Nat
  | .region id _ _ => id
  | .seq a _ => firstId a
  | .cond _ a _ => firstId a
  | .block _ c => firstId c
  | .loop c => firstId c
  | _ => 0

section
variable {T : Nat → Type}

/-- A state, written out. -/
structure CSt (T : Nat → Type) where
  env : List (Nat × V T)
  objs : List (Nat × O T)
  nx : Nat

def setAll {α : Type} : List (Nat × α) → Tr α → Tr α
  | [], t => t
  | (i, x) :: l, t => (setAll l t).set i (some x)

def CSt.st (s : CSt T) : St T := ⟨setAll s.env .e, ⟨setAll s.objs .e, s.nx, []⟩⟩

/-- 'g': what is known further in: a context of the user's own. -/
structure LoopI (T : Nat → Type) (G : Type) where
  α : Type
  I : α → CSt T
  μ : α → Nat
  g : α → G

/-! ### A state that stands for another one -/
def lookN {α : Type} : List (Nat × α) → Nat → Option α
  | [], _ => none
  | (i, x) :: l, j => (match Nat.beq i j with | true => some x | false => lookN l j)
def addP (i j : Nat) (l : List (Nat × Nat)) : List (Nat × Nat) := match lookN l i with | some _ => l | none => (i, j) :: l

/-- Which name stands for which. -/
def V.pairs : V T → V T → List (Nat × Nat) → List (Nat × Nat)
  | .ptr i _ _, .ptr j _ _, l => addP i j l
  | .sl i _ _ _, .sl j _ _ _, l => addP i j l
  | .agg vs, .agg us, l => goL vs us l
  | .tup vs, .tup us, l => goL vs us l
  | .fn _ vs vs', .fn _ us us', l => goL vs' us' (goL vs us l)
  | _, _, l => l
where goL : List (V T) → List (V T) → List (Nat × Nat) → List (Nat × Nat)
  | v :: vs, u :: us, l => goL vs us (V.pairs v u l)
  | _, _, l => l

def pairsR : List (List (V T)) → List (List (V T)) → List (Nat × Nat) → List (Nat × Nat)
  | r :: rs, s :: ss, l => pairsR rs ss (V.pairs.goL r s l)
  | _, _, l => l

def pairsE (env : Tr (V T)) : List (Nat × V T) → List (Nat × Nat) → List (Nat × Nat)
  | [], l => l
  | (t, v) :: r, l => pairsE env r (match env.get t with | some u => V.pairs v u l | none => l)

def pairsO (h : Tr (O T)) : List (Nat × O T) → List (Nat × Nat) → List (Nat × Nat)
  | [], l => l
  | (i, o) :: r, l => pairsO h r (match lookN l i with
    | some j => (match o, h.get j with | .rows _ xs, some (.rows _ ys) => pairsR xs ys l | _, _ => l)
    | none => l)

/-- The names that are old stand for themselves. -/
def selfN : Nat → List (Nat × Nat)
  | 0 => []
  | n + 1 => (n, n) :: selfN n
def findR (n0 : Nat) (r : St T) (s : CSt T) : List (Nat × Nat) := pairsO r.hp.h s.objs (pairsE r.env s.env (selfN n0))

def covD : D T → D T → Prop
  | .sl _ xs, .nils => xs = []
  | .usl _ xs, .nils => xs = []
  | .int k n, .int k' m => must (sameKind k k') (n = m)
  | .bool b, .bool c => b = c
  | .str s, .str t => s = t
  | x, y => x = y

def covCap : Cap → Cap → Prop
  | .exact c, .exact c' => c = c'
  | .least c, .exact c' => c ≤ c'
  | .least c, .least c' => c ≤ c'
  | .exact _, .least _ => False

def nameIs (ρ : List (Nat × Nat)) (i j : Nat) : Bool := match lookN ρ i with | some k => Nat.beq k j | none => false

/-- The first stands for the second. -/
def covV (ρ : List (Nat × Nat)) : V T → V T → Prop
  | .d x, .d y => covD x y
  | .ptr i r o, .ptr j r' o' => must (nameIs ρ i j) (r = r' ∧ o = o')
  | .sl i off len cap, .sl j off' len' cap' => must (nameIs ρ i j) (off = off' ∧ len = len' ∧ covCap cap cap')
  | .agg vs, .agg us => goL ρ vs us
  | .tup vs, .tup us => goL ρ vs us
  | .fn f vs vs', .fn g us us' => must (Nat.beq f g) (goL ρ vs us ∧ goL ρ vs' us')
  | .undef, .undef => True
  | _, _ => False
where goL (ρ : List (Nat × Nat)) : List (V T) → List (V T) → Prop
  | [], [] => True
  | v :: vs, u :: us => covV ρ v u ∧ goL ρ vs us
  | _, _ => False

def covR (ρ : List (Nat × Nat)) : List (List (V T)) → List (List (V T)) → Prop
  | [], [] => True
  | r :: rs, s :: ss => covV.goL ρ r s ∧ covR ρ rs ss
  | _, _ => False

def covO (ρ : List (Nat × Nat)) : O T → O T → Prop
  | .rows k xs, .rows k' ys => must (Nat.beq k k') (covR ρ xs ys)
  | .trows e xs, .trows e' ys => O.trows e xs = .trows e' ys
  | _, _ => False

def covE (ρ : List (Nat × Nat)) (env : Tr (V T)) : List (Nat × V T) → Prop
  | [] => True
  | (t, v) :: l => (match env.get t with | some u => covV ρ v u ∧ covE ρ env l | none => False)

def covH (ρ : List (Nat × Nat)) (h : Tr (O T)) : List (Nat × O T) → Prop
  | [] => True
  | (i, o) :: l => (match lookN ρ i with
    | some j => (match h.get j with | some o' => covO ρ o o' ∧ covH ρ h l | none => False)
    | none => False)

def nodupN : List Nat → Bool
  | [] => true
  | i :: l => !memN l i && nodupN l

def selfB (ρ : List (Nat × Nat)) : Nat → Bool
  | 0 => true
  | n + 1 => nameIs ρ n n && selfB ρ n
def covB (n0 : Nat) (ρ : List (Nat × Nat)) (s : CSt T) : Bool :=
  selfB ρ n0 && nodupN (ρ.map (·.2)) && (ρ.all fun p => Nat.blt p.1 s.nx) && Tr.ok s.nx && (s.env.all fun p => Tr.ok p.1) && s.objs.all fun p => Tr.ok p.1

def covW (n0 : Nat) (ρ : List (Nat × Nat)) (r : St T) (s : CSt T) : Prop := must (covB n0 ρ s) (covE ρ r.env s.env ∧ covH ρ r.hp.h s.objs)
def Cov (n0 : Nat) (r : St T) (s : CSt T) : Prop := covW n0 (findR n0 r s) r s
end

/-! ### A state, made whole before it is handed on (so that nothing is reckoned twice) -/
section
variable {T : Nat → Type}

def natF (n : Nat) (k : Nat → Prop) : Prop := match n with
  | 0 => k 0
  | m + 1 => k (m + 1)
theorem natF_eq (n : Nat) (k : Nat → Prop) : natF n k = k n := by cases n <;> rfl

def dF (x : D T) (k : D T → Prop) : Prop := match x with
  | .bool b => k (.bool b)
  | .int i n => k (.int i n)
  | .str s => k (.str s)
  | .nilp => k .nilp
  | .nilm => k .nilm
  | .nilf => k .nilf
  | .nili => k .nili
  | .nils => k .nils
  | .sl e xs => k (.sl e xs)
  | .usl i xs => k (.usl i xs)
theorem dF_eq (x : D T) (k : D T → Prop) : dF x k = k x := by cases x <;> rfl

def capF (c : Cap) (k : Cap → Prop) : Prop := match c with
  | .exact n => k (.exact n)
  | .least n => k (.least n)
theorem capF_eq (x : Cap) (k : Cap → Prop) : capF x k = k x := by cases x <;> rfl

def vF : V T → (V T → Prop) → Prop
  | .d x, k => dF x fun x => k (.d x)
  | .ptr i r o, k => natF i fun i => k (.ptr i r o)
  | .fp row o, k => k (.fp row o)
  | .sl i off len cap, k => natF i fun i => capF cap fun cap => k (.sl i off len cap)
  | .mp i, k => natF i fun i => k (.mp i)
  | .it i, k => natF i fun i => k (.it i)
  | .fn f vs us, k => goL vs fun vs => goL us fun us => k (.fn f vs us)
  | .ifc t v, k => vF v fun v => k (.ifc t v)
  | .agg vs, k => goL vs fun vs => k (.agg vs)
  | .tup vs, k => goL vs fun vs => k (.tup vs)
  | .undef, k => k .undef
  | .any, k => k .any
where goL : List (V T) → (List (V T) → Prop) → Prop
  | [], k => k []
  | v :: vs, k => vF v fun v => goL vs fun vs => k (v :: vs)

theorem vF_eq : ∀ (v : V T) (k : V T → Prop), vF v k = k v := by
  have key : ∀ (n : Nat) (v : V T), SizeOf.sizeOf v < n → ∀ k : V T → Prop, vF v k = k v := by
    intro n
    induction n with
    | zero => intro v h; omega
    | succ n ih =>
      have goL : ∀ vs : List (V T), SizeOf.sizeOf vs < n + 1 → ∀ k : List (V T) → Prop, vF.goL vs k = k vs := by
        intro vs
        induction vs with
        | nil => intro _ k; rfl
        | cons v vs ihv =>
          intro hs k
          simp only [List.cons.sizeOf_spec] at hs
          simp only [vF.goL]
          rw [ih v (by omega), ihv (by omega)]
      intro v hv k
      cases v <;> simp only [vF]
      case d x => rw [dF_eq]
      case ptr i r o => rw [natF_eq]
      case sl i off len cap => rw [natF_eq, capF_eq]
      case mp i => rw [natF_eq]
      case it i => rw [natF_eq]
      case fn f vs us => simp only [V.fn.sizeOf_spec] at hv; rw [goL vs (by omega), goL us (by omega)]
      case ifc t v => simp only [V.ifc.sizeOf_spec] at hv; rw [ih v (by omega)]
      case agg vs => simp only [V.agg.sizeOf_spec] at hv; rw [goL vs (by omega)]
      case tup vs => simp only [V.tup.sizeOf_spec] at hv; rw [goL vs (by omega)]
  intro v k
  exact key (SizeOf.sizeOf v + 1) v (by omega) k

theorem goLF_eq : ∀ (vs : List (V T)) (k : List (V T) → Prop), vF.goL vs k = k vs
  | [], k => rfl
  | v :: vs, k => by simp only [vF.goL]; rw [vF_eq, goLF_eq vs]

def rowsF : List (List (V T)) → (List (List (V T)) → Prop) → Prop
  | [], k => k []
  | r :: rs, k => vF.goL r fun r => rowsF rs fun rs => k (r :: rs)
theorem rowsF_eq : ∀ (rs : List (List (V T))) (k : List (List (V T)) → Prop), rowsF rs k = k rs
  | [], k => rfl
  | r :: rs, k => by simp only [rowsF]; rw [goLF_eq, rowsF_eq rs]

def oF : O T → (O T → Prop) → Prop
  | .rows n xs, k => rowsF xs fun xs => k (.rows n xs)
  | .trows e xs, k => k (.trows e xs)
  | .map c es, k => k (.map c es)
  | .sit s p, k => k (.sit s p)
theorem oF_eq (o : O T) (k : O T → Prop) : oF o k = k o := by cases o <;> simp only [oF]; rw [rowsF_eq]

def optF {α : Type} (f : α → (α → Prop) → Prop) : Option α → (Option α → Prop) → Prop
  | none, k => k none
  | some x, k => f x fun x => k (some x)
def trF {α : Type} (f : α → (α → Prop) → Prop) : Tr α → (Tr α → Prop) → Prop
  | .e, k => k .e
  | .n l v r, k => trF f l fun l => optF f v fun v => trF f r fun r => k (.n l v r)
theorem optF_eq {α : Type} {f : α → (α → Prop) → Prop} (hf : ∀ x k, f x k = k x) (x : Option α) (k : Option α → Prop) : optF f x k = k x := by cases x <;> simp only [optF]; rw [hf]
theorem trF_eq {α : Type} {f : α → (α → Prop) → Prop} (hf : ∀ x k, f x k = k x) : ∀ (t : Tr α) (k : Tr α → Prop), trF f t k = k t
  | .e, k => rfl
  | .n l v r, k => by simp only [trF]; rw [trF_eq hf l, optF_eq hf, trF_eq hf r]

def stF (st : St T) (k : St T → Prop) : Prop := trF vF st.env fun env => trF oF st.hp.h fun h => natF st.hp.nx fun n => k ⟨env, ⟨h, n, []⟩⟩
/-- The list of what was written is not looked at any more. -/
def St.bare (st : St T) : St T := ⟨st.env, ⟨st.hp.h, st.hp.nx, []⟩⟩
theorem stF_eq (st : St T) (k : St T → Prop) : stF st k = k st.bare := by
  unfold stF
  rw [trF_eq vF_eq, trF_eq oF_eq, natF_eq]
  rfl

/-! ### Data that get a name of their own -/
/-- Where they stand: a slot; a cell of an object's row. -/
inductive Tgt where
  | slot (t : Nat)
  | cell (i r j : Nat)
  | nslot (t e : Nat)
  | ncell (i r j e : Nat)
  | fslot (t : Nat)
  | fcell (i r j : Nat)

def absD (x : D T) (k : D T → Prop) : Prop := match x with
  | .bool b => ∀ y, y = b → k (.bool y)
  | .int i n => ∀ y, y = n → k (.int i y)
  | .str s => ∀ y, y = s → k (.str y)
  | .sl e xs => ∀ y, y = xs → k (.sl e y)
  | .usl i xs => ∀ y, y = xs → k (.usl i y)
  | x => k x
theorem absD_to {x : D T} {k : D T → Prop} (h : absD x k) : k x := by
  unfold absD at h
  split at h <;> first | exact h _ rfl | exact h

def abs1 (t : Tgt) (st : St T) (k : St T → Prop) : Prop := match t with
  | .slot t => (match Tr.ok t, st.env.get t with
    | true, some (.d x) => absD x fun x => k ⟨st.env.set t (some (.d x)), st.hp⟩
    | _, _ => k st)
  | .cell i r j => (match Tr.ok i, st.hp.h.get i with
    | true, some (.rows n xs) => (match xs[r]? with
      | some row => (match row[j]? with
        | some (.d x) => absD x fun x => k ⟨st.env, ⟨st.hp.h.set i (some (.rows n (xs.set r (row.set j (.d x))))), st.hp.nx, st.hp.wr⟩⟩
        | _ => k st)
      | none => k st)
    | _, _ => k st)
  | .nslot t e => (match Tr.ok t && Tr.ok st.hp.nx, st.env.get t with
    | true, some (.d .nils) => k ⟨st.env.set t (some (.sl st.hp.nx 0 0 (.least 0))), ⟨st.hp.h.set st.hp.nx (some (.trows e [])), st.hp.nx + 1, st.hp.wr⟩⟩
    | _, _ => k st)
  | .ncell i r j e => (match Tr.ok i && Tr.ok st.hp.nx, st.hp.h.get i with
    | true, some (.rows n xs) => (match xs[r]? with
      | some row => (match row[j]? with
        | some (.d .nils) => k ⟨st.env, ⟨(st.hp.h.set i (some (.rows n (xs.set r (row.set j (.sl st.hp.nx 0 0 (.least 0))))))).set st.hp.nx (some (.trows e [])), st.hp.nx + 1, st.hp.wr⟩⟩
        | _ => k st)
      | none => k st)
    | _, _ => k st)
  | .fslot _ => k st
  | .fcell _ _ _ => k st

def Alike (st st' : St T) : Prop := st'.env.get = st.env.get ∧ st'.hp.get = st.hp.get ∧ st'.hp.nx = st.hp.nx

theorem abs1_to {t : Tgt} {st : St T} {k : St T → Prop} (ht : (∃ s, t = .slot s) ∨ ∃ i r j, t = .cell i r j) (h : abs1 t st k) : ∃ st', k st' ∧ Alike st st' := by
  unfold abs1 at h
  split at h
  · rename_i t
    split at h
    · rename_i x hk hx
      refine ⟨_, absD_to h, ?_, rfl, rfl⟩
      funext j
      show (st.env.set t _).get j = _
      rw [Tr.get_set hk]
      by_cases hj : j = t
      · subst hj; rw [if_pos rfl, hx]
      · rw [if_neg hj]
    · exact ⟨st, h, rfl, rfl, rfl⟩
  · rename_i i r j
    split at h
    · rename_i n xs hk hx
      split at h
      · rename_i row hr
        split at h
        · rename_i x hj
          refine ⟨_, absD_to h, rfl, ?_, rfl⟩
          funext m
          show (st.hp.h.set i _).get m = st.hp.h.get m
          rw [Tr.get_set hk]
          by_cases hm : m = i
          · subst hm
            rw [if_pos rfl, hx]
            have e1 : row.set j (.d x) = row := by
              apply List.ext_getElem?
              intro q
              rw [List.getElem?_set]
              split
              · rename_i hq; subst hq; split
                · exact hj.symm
                · rw [List.getElem?_eq_none (by omega)]
              · rfl
            have e2 : xs.set r row = xs := by
              apply List.ext_getElem?
              intro q
              rw [List.getElem?_set]
              split
              · rename_i hq; subst hq; split
                · exact hr.symm
                · rw [List.getElem?_eq_none (by omega)]
              · rfl
            rw [e1, e2]
          · rw [if_neg hm]
        · exact ⟨st, h, rfl, rfl, rfl⟩
      · exact ⟨st, h, rfl, rfl, rfl⟩
    · exact ⟨st, h, rfl, rfl, rfl⟩
  · rcases ht with ⟨s, ht⟩ | ⟨i, r, j, ht⟩ <;> cases ht
  · rcases ht with ⟨s, ht⟩ | ⟨i, r, j, ht⟩ <;> cases ht
  · rcases ht with ⟨s, ht⟩ | ⟨i, r, j, ht⟩ <;> cases ht
  · rcases ht with ⟨s, ht⟩ | ⟨i, r, j, ht⟩ <;> cases ht

/-- Do the forms agree? -/
def shapeV : V T → V T → Bool
  | .d (.bool _), .d (.bool _) => true
  | .d (.int _ _), .d (.int _ _) => true
  | .d (.str _), .d (.str _) => true
  | .d (.sl _ _), .d (.sl _ _) => true
  | .d (.sl _ _), .d .nils => true
  | .d (.usl _ _), .d .nils => true
  | .d (.usl _ _), .d (.usl _ _) => true
  | .d .nilp, .d .nilp => true
  | .d .nils, .d .nils => true
  | .d .nilm, .d .nilm => true
  | .d .nilf, .d .nilf => true
  | .d .nili, .d .nili => true
  | .d _, .d _ => false
  | .ptr _ _ _, .ptr _ _ _ => true
  | .sl _ _ _ _, .sl _ _ _ _ => true
  | .agg _, .agg _ => true
  | .tup _, .tup _ => true
  | .fn _ _ _, .fn _ _ _ => true
  | .undef, .undef => true
  | _, _ => false
def shapeE (env : Tr (V T)) : List (Nat × V T) → Bool
  | [] => true
  | (t, v) :: l => (match env.get t with | some u => (match shapeV v u with | true => shapeE env l | false => false) | none => false)
end

section
variable (reg : Reg) (P : Program)

/-- The same, and slices that are made data for good. -/
def absR (t : Tgt) (st : St reg.T) (k : St reg.T → Prop) : Prop := match t with
  | .fslot t => (match Tr.ok t, st.env.get t with
    | true, some (.sl i off len cap) => (frz1 reg [] i (.sl i off len cap, st.hp)).K fun r => k ⟨st.env.set t (some r.1), r.2⟩
    | _, _ => k st)
  | .fcell i r j => (match st.hp.h.get i with
    | some (.rows _ xs) => (match xs[r]? with
      | some row => (match row[j]? with
        | some (.sl m _ _ _) => (frz1 reg [i] m (.undef, st.hp)).K fun q => k ⟨st.env, q.2⟩
        | _ => k st)
      | none => k st)
    | _ => k st)
  | t => abs1 t st k
def absL : List Tgt → St reg.T → (St reg.T → Prop) → Prop
  | [], st, k => k st
  | t :: l, st, k => absR reg t st fun st => absL l st k

def normQ {T : Nat → Type} (k : St T → Prop) (Q : AExit × St T → Prop) (r : AExit × St T) : Prop := match r.1 with
  | .normal => k r.2
  | _ => Q r
def blockQ {T : Nat → Type} (id : Nat) (Q : AExit × St T → Prop) (r : AExit × St T) : Prop := match r.1 with
  | .exit j => (match Nat.beq j id with | true => Q (.normal, r.2) | false => Q r)
  | _ => Q r

/-- A state like one of these. -/
def Like {G : Type} (n0 : Nat) (st : St reg.T) (l : LoopI reg.T G) : Prop := ∃ x, must (shapeE st.env (l.I x).env) (Cov n0 st (l.I x))

/-- What is left to be shown of code. 'n0': how many objects were there ahead of it; 'L': invariants of loops; 'J': states behind which the code goes on, ahead of a region. -/
def awp {G : Type} (hd : Hd reg.T) (nt fuel n0 : Nat) (A : Nat → List Tgt) (L : G → Nat → St reg.T → Option (LoopI reg.T G)) (J : G → Nat → Option (LoopI reg.T G)) : Code → G → (AExit × St reg.T → Prop) → St reg.T → Prop
  | .skip, _, Q, st => Q (.normal, st)
  | .region id ops draw, _, Q, st => (exReg P hd nt ops draw st).K fun st => stF st fun st => absL reg (A id) st fun st => Q (.normal, st)
  | .seq a b, g, Q, st => (match J g (firstId b) with
    | none => awp hd nt fuel n0 A L J a g (normQ (awp hd nt fuel n0 A L J b g Q) Q) st
    | some l => awp hd nt fuel n0 A L J a g (normQ (fun st => Like reg n0 st l) Q) st ∧ (∀ x, awp hd nt fuel n0 A L J b (l.g x) Q (l.I x).st))
  | .cond c a b, g, Q, st => (match c with
    | .tmp t => (match st.env.get t with
      | some (.d (.bool v)) => branch v (awp hd nt fuel n0 A L J a g Q (st.fix t true)) (awp hd nt fuel n0 A L J b g Q (st.fix t false))
      | _ => False)
    | _ => False)
  | .block id c, g, Q, st => awp hd nt fuel n0 A L J c g (blockQ id Q) st
  | .loop c, g, Q, st => (match L g (firstId c) st with
    | some l => Like reg n0 st l ∧ (∀ x, awp hd nt fuel n0 A L J c (l.g x) (normQ (fun st' => ∃ x', l.μ x' < l.μ x ∧ must (shapeE st'.env (l.I x').env) (Cov n0 st' (l.I x'))) Q) (l.I x).st)
    | none => (loopN (ex P hd nt fuel c) fuel st).K Q)
  | .exit id, _, Q, st => Q (.exit id, st)
  | .ret, _, Q, st => Q (.ret, st)
  | _, _, _, _ => False

def noJ {T : Nat → Type} {G : Type} (_ : G) (_ : Nat) : Option (LoopI T G) := none
def awpFun {G : Type} (hd : Hd reg.T) (fuel : Nat) (A : Nat → List Tgt) (L : G → Nat → St reg.T → Option (LoopI reg.T G)) (J : G → Nat → Option (LoopI reg.T G)) (g : G) (fn : Func) (args : List (V reg.T)) (Q : V reg.T × Hp reg.T → Prop) : Prop :=
  match fn.body with
  | none => False
  | some c => must (Nat.ble args.length fn.ntmps && Nat.ble fn.ntmps 1000000) (awp reg P hd fn.ntmps fuel 0 A L J c g (fun r => (finX P fn r).K Q) ⟨initEnv args 0 .e, ⟨.e, 0, []⟩⟩)

/-- The same, of a function that is handed objects. -/
def awpFunH {G : Type} (hd : Hd reg.T) (fuel : Nat) (A : Nat → List Tgt) (L : G → Nat → St reg.T → Option (LoopI reg.T G)) (J : G → Nat → Option (LoopI reg.T G)) (g : G) (fn : Func) (args : List (V reg.T)) (h : Hp reg.T) (Q : V reg.T × Hp reg.T → Prop) : Prop :=
  match fn.body with
  | none => False
  | some c => must (Nat.ble args.length fn.ntmps && Nat.ble fn.ntmps 1000000) (awp reg P hd fn.ntmps fuel h.nx A L J c g (fun r => (finX P fn r).K fun q => (tidyLeaf reg ⟨h.h, h.nx, []⟩ (q.1, ⟨q.2.h, q.2.nx, List.range h.nx⟩)).K Q) ⟨initEnv args 0 .e, h⟩)

/-- The same, its answer as it is: a slice stays an object. -/
def awpFunN {G : Type} (hd : Hd reg.T) (fuel : Nat) (A : Nat → List Tgt) (L : G → Nat → St reg.T → Option (LoopI reg.T G)) (J : G → Nat → Option (LoopI reg.T G)) (g : G) (fn : Func) (args : List (V reg.T)) (h : Hp reg.T) (Q : V reg.T × Hp reg.T → Prop) : Prop :=
  match fn.body with
  | none => False
  | some c => must (Nat.ble args.length fn.ntmps && Nat.ble fn.ntmps 1000000) (awp reg P hd fn.ntmps fuel h.nx A L J c g (fun r => (finX P fn r).K fun q => Q (q.1, ⟨q.2.h, q.2.nx, List.range h.nx⟩)) ⟨initEnv args 0 .e, h⟩)
end

section
variable {reg : Reg} {P : Program} {hd : Hd reg.T} {nt : Nat}

/-- A state at the machine, since the function's beginning. -/
def RA (n0 : Nat) (F0 : Nat → Prop) (φ0 : Phi) (H0 : Nat → Option (O reg.T)) (w0 : World) (nt : Nat) (st : St reg.T) (a : Act) (w : World) : Prop :=
  ∃ N F φ, (∀ i, N i → i < st.hp.nx) ∧ RS [] N F φ nt st a w ∧ Goes reg F0 φ0 (fun i => i < n0) H0 w0 F φ N st.hp.get w

theorem RA.go {n0 : Nat} {F0 : Nat → Prop} {φ0 : Phi} {H0 : Nat → Option (O reg.T)} {w0 : World} {st st' : St reg.T} {N F N' F' : Nat → Prop} {φ φ' : Phi} {a' : Act} {w w' : World} (hN : ∀ i, N i → i < st.hp.nx) (hg : Goes reg F0 φ0 (fun i => i < n0) H0 w0 F φ N st.hp.get w)
    (hR : RS [] N' F' φ' nt st' a' w') (hG : GO N F φ st.hp w N' F' φ' st'.hp w') : RA n0 F0 φ0 H0 w0 nt st' a' w' := by
  refine ⟨N', F', φ', fun i hi => ?_, hR, Goes.trans reg hg hG.goes⟩
  have := hG.grow.1
  rcases hG.names i hi with h | h
  · have := hN i h; omega
  · exact h.2

theorem RA.alike {n0 : Nat} {F0 : Nat → Prop} {φ0 : Phi} {H0 : Nat → Option (O reg.T)} {w0 : World} {st st' : St reg.T} {a : Act} {w : World} (h : RA n0 F0 φ0 H0 w0 nt st a w) (e : Alike st st') : RA n0 F0 φ0 H0 w0 nt st' a w := by
  obtain ⟨N, F, φ, h1, h2, h3⟩ := h
  obtain ⟨e1, e2, e3⟩ := e
  refine ⟨N, F, φ, by rw [e3]; exact h1, ?_, by rw [e2]; exact h3⟩
  show RF [] N F φ nt ⟨st'.env.get, st'.hp.get⟩ a w
  rw [e1, e2]
  exact h2

theorem RA.bare {n0 : Nat} {F0 : Nat → Prop} {φ0 : Phi} {H0 : Nat → Option (O reg.T)} {w0 : World} {st : St reg.T} {a : Act} {w : World} (h : RA n0 F0 φ0 H0 w0 nt st a w) : RA n0 F0 φ0 H0 w0 nt st.bare a w := h

/-- A slice that is nil as an object without rows. -/
theorem rows_nil {F : Nat → Prop} {w : World} {φ : Phi} {i n m r j : Nat} {xs : List (List (V reg.T))} {row : List (V reg.T)} (hr : xs[r]? = some row) (hj : row[j]? = some (.d .nils)) (ho : ORel reg F w φ i (.rows n xs)) : ORel reg F w φ i (.rows n (xs.set r (row.set j (.sl m 0 0 (.least 0))))) := by
  obtain ⟨h0, ho⟩ := ho.rows reg rfl
  refine .inl ⟨rfl, ?_⟩
  rcases ho with ⟨h1, h2⟩ | ⟨b, s, C, t, fz, h1, h2, h3, h4⟩
  · exact .inl ⟨by simpa only [O.len, List.length_set] using h1, h2⟩
  · have hrl : r < xs.length := (List.getElem?_eq_some_iff.1 hr).1
    have hrow : ∀ r', (xs.set r (row.set j (.sl m 0 0 (.least 0)))).getD r' [] = if r = r' then row.set j (.sl m 0 0 (.least 0)) else xs.getD r' [] := by
      intro r'
      rw [List.getD_eq_getElem?_getD, List.getElem?_set]
      by_cases e : r = r'
      · subst e; simp [hrl]
      · simp [e, List.getD_eq_getElem?_getD]
    have hrr : xs.getD r [] = row := by rw [List.getD_eq_getElem?_getD, hr]; rfl
    have hlen : (row.set j (.sl m 0 0 (.least 0) : V reg.T)).length = row.length := List.length_set
    have hcell : ∀ c, (row.set j (.sl m 0 0 (.least 0))).getD c .any = if j = c then (if c < row.length then .sl m 0 0 (.least 0) else .any) else row.getD c .any := by
      intro c
      rw [List.getD_eq_getElem?_getD, List.getElem?_set]
      by_cases e : j = c
      · subst e; by_cases hc : j < row.length <;> simp [hc]
      · simp [e, List.getD_eq_getElem?_getD]
    have hjl : j < row.length := (List.getElem?_eq_some_iff.1 hj).1
    have hjv : row.getD j .any = .d .nils := by rw [List.getD_eq_getElem?_getD, hj]; rfl
    refine .inr ⟨b, s, C, t, fz, h1, h2, h3, ⟨?_, ?_, ⟨fun r' hr' => ?_, fun r' c hr' hc => ?_, fun r' c hr' hc => ?_⟩⟩⟩
    · have := h4.size; simpa only [O.len, O.k, List.length_set] using this
    · have := h4.len; simpa only [O.len, List.length_set] using this
    · have hw := h4.at_.wid r' (by simpa only [O.len, List.length_set] using hr')
      simp only [O.row, O.k] at hw ⊢
      rw [hrow]
      by_cases e : r = r'
      · subst e; rw [if_pos rfl, hlen, ← hrr]; exact hw
      · rw [if_neg e]; exact hw
    · have hw := h4.at_.solid r' c (by simpa only [O.len, List.length_set] using hr') hc
      simp only [O.row, O.k] at hw hc ⊢
      rw [hrow]
      by_cases e : r = r'
      · subst e
        rw [if_pos rfl, hcell]
        by_cases e2 : j = c
        · subst e2; rw [if_pos rfl, if_pos hjl]; rfl
        · rw [if_neg e2, ← hrr]; exact hw
      · rw [if_neg e]; exact hw
    · have hw := h4.at_.rel r' c (by simpa only [O.len, List.length_set] using hr') hc
      simp only [O.row, O.k] at hw hc ⊢
      rw [hrow]
      by_cases e : r = r'
      · subst e
        rw [if_pos rfl, hcell]
        by_cases e2 : j = c
        · subst e2
          rw [if_pos rfl, if_pos hjl]
          rw [hrr, hjv] at hw
          obtain ⟨base, hb⟩ := hw.nils_inv
          rw [hb]
          exact .slz _ _ _ _ (Nat.zero_le _) (fun _ => rfl)
        · rw [if_neg e2, ← hrr]; exact hw
      · rw [if_neg e]; exact hw

/-- A name without a block. -/
theorem HRel.ghost {F : Nat → Prop} {φ : Phi} {N : Nat → Prop} {H : Nat → Option (O reg.T)} {w : World} {m e : Nat} (h : HRel reg F φ N H w) (hN : ∀ i, N i → i < m) (hm : Tr.ok m = true) : HRel reg F φ (fun i => N i ∨ i = m) (fun i => if i = m then some (.trows e []) else H i) w := by
  have hnone : φ m = none := by
    cases hφ : φ m with
    | none => rfl
    | some p => have := hN m (h.dom m p hφ); omega
  have hsome : ∀ {i o}, (if i = m then some (.trows e []) else H i) = some o → (i = m ∧ o = .trows e []) ∨ (i ≠ m ∧ H i = some o) := by
    intro i o hi
    by_cases e1 : i = m
    · rw [if_pos e1] at hi; cases hi; exact .inl ⟨e1, rfl⟩
    · rw [if_neg e1] at hi; exact .inr ⟨e1, hi⟩
  refine ⟨fun i o hi => ?_, fun i o b s k hi hp => ?_, fun i j oi oj b s k s' k' hi hj hpi hpj => ?_, fun i p hp => .inl (h.dom i p hp), fun i o hi => ?_, fun i hi => ?_, h.frz, h.lay⟩
  · rcases hsome hi with ⟨rfl, rfl⟩ | ⟨_, hi⟩
    · exact .inl ⟨rfl, .inl ⟨rfl, hnone⟩⟩
    · exact h.obj i o hi
  · rcases hsome hi with ⟨rfl, rfl⟩ | ⟨_, hi⟩
    · rw [hnone] at hp; cases hp
    · exact h.own i o b s k hi hp
  · rcases hsome hi with ⟨rfl, rfl⟩ | ⟨_, hi⟩
    · rw [hnone] at hpi; cases hpi
    · rcases hsome hj with ⟨rfl, rfl⟩ | ⟨_, hj⟩
      · rw [hnone] at hpj; cases hpj
      · exact h.inj i j oi oj b s k s' k' hi hj hpi hpj
  · rcases hsome hi with ⟨rfl, rfl⟩ | ⟨_, hi⟩
    · exact .inr rfl
    · exact .inl (h.lt i o hi)
  · rcases hi with hi | hi
    · exact h.ok i hi
    · rw [hi]; exact hm

/-- The same objects, one of them said otherwise. -/
theorem HRel.say {F : Nat → Prop} {φ : Phi} {N : Nat → Prop} {H : Nat → Option (O reg.T)} {w : World} {i : Nat} {o o' : O reg.T} (h : HRel reg F φ N H w) (hi : H i = some o) (ho : ORel reg F w φ i o → ORel reg F w φ i o') : HRel reg F φ N (fun j => if j = i then some o' else H j) w := by
  have hsome : ∀ {j u}, (if j = i then some o' else H j) = some u → (∃ u', H j = some u') ∧ (ORel reg F w φ j u) := by
    intro j u hj
    by_cases e1 : j = i
    · subst e1; rw [if_pos rfl] at hj; cases hj; exact ⟨⟨o, hi⟩, ho (h.obj _ _ hi)⟩
    · rw [if_neg e1] at hj; exact ⟨⟨u, hj⟩, h.obj _ _ hj⟩
  exact ⟨fun j u hj => (hsome hj).2, fun j u b s k hj hp => (hsome hj).1.elim fun u' hu => h.own j u' b s k hu hp,
    fun a c oa oc b s k s' k' ha hc => (hsome ha).1.elim fun ua hua => (hsome hc).1.elim fun uc huc => h.inj a c ua uc b s k s' k' hua huc, h.dom, fun j u hj => (hsome hj).1.elim fun u' hu => h.lt j u' hu, h.ok, h.frz, h.lay⟩

theorem Goes.ghost {F0 : Nat → Prop} {φ0 : Phi} {N0 : Nat → Prop} {H0 : Nat → Option (O reg.T)} {w0 : World} {F : Nat → Prop} {φ : Phi} {N N' : Nat → Prop} {H H' : Nat → Option (O reg.T)} {w : World} (h : Goes reg F0 φ0 N0 H0 w0 F φ N H w) (hN : ∀ i, N i → N' i) (hH : ∀ i o p, H' i = some o → φ i = some p → ∃ o', H i = some o') : Goes reg F0 φ0 N0 H0 w0 F φ N' H' w :=
  ⟨h.os, h.tape, h.output, h.size, h.block, h.fsub, h.fnew, h.phi, fun i hi => hN i (h.names i hi), fun b ⟨i, o, s, k, hi, hp⟩ => (hH i o _ hi hp).elim fun o' ho => h.dom b ⟨i, o', s, k, ho, hp⟩, h.new⟩

theorem RA.nslot {n0 : Nat} {F0 : Nat → Prop} {φ0 : Phi} {H0 : Nat → Option (O reg.T)} {w0 : World} {st : St reg.T} {a : Act} {w : World} {t e : Nat} (ht : Tr.ok t = true) (hm : Tr.ok st.hp.nx = true) (hx : st.env.get t = some (.d .nils)) (h : RA n0 F0 φ0 H0 w0 nt st a w) :
    RA n0 F0 φ0 H0 w0 nt ⟨st.env.set t (some (.sl st.hp.nx 0 0 (.least 0))), ⟨st.hp.h.set st.hp.nx (some (.trows e [])), st.hp.nx + 1, st.hp.wr⟩⟩ a w := by
  obtain ⟨N, F, φ, hN, hR, hG⟩ := h
  have hg : (st.hp.h.set st.hp.nx (some (.trows e []))).get = fun i => if i = st.hp.nx then some (.trows e []) else st.hp.get i := by
    funext i; rw [Tr.get_set hm]; rfl
  have hnone : φ st.hp.nx = none := by
    cases hφ : φ st.hp.nx with
    | none => rfl
    | some p => have := hN _ (hR.heap.dom _ p hφ); omega
  refine ⟨fun i => N i ∨ i = st.hp.nx, F, φ, fun i hi => ?_, ⟨fun t' v hv => ?_, hR.size, ?_, hR.dfs⟩, ?_⟩
  · show i < st.hp.nx + 1
    rcases hi with hi | hi
    · have := hN i hi; omega
    · omega
  · have hv : (st.env.set t (some (.sl st.hp.nx 0 0 (.least 0)))).get t' = some v := hv
    rw [Tr.get_set ht] at hv
    by_cases e1 : t' = t
    · subst e1
      rw [if_pos rfl] at hv
      cases hv
      obtain ⟨h1, h2⟩ := hR.env _ _ hx
      obtain ⟨base, hb⟩ := h2.nils_inv
      exact ⟨h1, by rw [hb]; exact .slz _ _ _ _ (Nat.zero_le _) (fun _ => rfl)⟩
    · rw [if_neg e1] at hv
      exact hR.env t' v hv
  · show HRel reg F φ _ (st.hp.h.set st.hp.nx (some (.trows e []))).get w
    rw [hg]
    exact hR.heap.ghost hN hm
  · show Goes reg F0 φ0 _ H0 w0 F φ _ (st.hp.h.set st.hp.nx (some (.trows e []))).get w
    rw [hg]
    refine hG.ghost (fun i hi => .inl hi) (fun i o p hi hp => ?_)
    by_cases e1 : i = st.hp.nx
    · subst e1; rw [hnone] at hp; cases hp
    · simp only [if_neg e1] at hi; exact ⟨o, hi⟩

theorem RA.ncell {n0 : Nat} {F0 : Nat → Prop} {φ0 : Phi} {H0 : Nat → Option (O reg.T)} {w0 : World} {st : St reg.T} {a : Act} {w : World} {i n r j e : Nat} {xs : List (List (V reg.T))} {row : List (V reg.T)} (ht : Tr.ok i = true) (hm : Tr.ok st.hp.nx = true) (hx : st.hp.h.get i = some (.rows n xs)) (hr : xs[r]? = some row) (hj : row[j]? = some (.d .nils)) (h : RA n0 F0 φ0 H0 w0 nt st a w) :
    RA n0 F0 φ0 H0 w0 nt ⟨st.env, ⟨(st.hp.h.set i (some (.rows n (xs.set r (row.set j (.sl st.hp.nx 0 0 (.least 0))))))).set st.hp.nx (some (.trows e [])), st.hp.nx + 1, st.hp.wr⟩⟩ a w := by
  obtain ⟨N, F, φ, hN, hR, hG⟩ := h
  have hg : ((st.hp.h.set i (some (.rows n (xs.set r (row.set j (.sl st.hp.nx 0 0 (.least 0))))))).set st.hp.nx (some (.trows e []))).get = fun q => if q = st.hp.nx then some (.trows e []) else (fun q => if q = i then some (.rows n (xs.set r (row.set j (.sl st.hp.nx 0 0 (.least 0))))) else st.hp.get q) q := by
    funext q; rw [Tr.get_set hm, Tr.get_set ht]; rfl
  have hnone : φ st.hp.nx = none := by
    cases hφ : φ st.hp.nx with
    | none => rfl
    | some p => have := hN _ (hR.heap.dom _ p hφ); omega
  refine ⟨fun i => N i ∨ i = st.hp.nx, F, φ, fun i hi => ?_, ⟨hR.env, hR.size, ?_, hR.dfs⟩, ?_⟩
  · show i < st.hp.nx + 1
    rcases hi with hi | hi
    · have := hN i hi; omega
    · omega
  · show HRel reg F φ _ ((st.hp.h.set i (some (.rows n (xs.set r (row.set j (.sl st.hp.nx 0 0 (.least 0))))))).set st.hp.nx (some (.trows e []))).get w
    rw [hg]
    exact (hR.heap.say hx (rows_nil hr hj)).ghost hN hm
  · show Goes reg F0 φ0 _ H0 w0 F φ _ ((st.hp.h.set i (some (.rows n (xs.set r (row.set j (.sl st.hp.nx 0 0 (.least 0))))))).set st.hp.nx (some (.trows e []))).get w
    rw [hg]
    refine hG.ghost (fun i hi => .inl hi) (fun q o p hi hp => ?_)
    by_cases e1 : q = st.hp.nx
    · subst e1; rw [hnone] at hp; cases hp
    · simp only [if_neg e1] at hi
      by_cases e2 : q = i
      · subst e2; exact ⟨_, hx⟩
      · rw [if_neg e2] at hi; exact ⟨o, hi⟩

/-- What is the same, or says the same, at the machine. -/
def Same (st st' : St reg.T) : Prop := ∀ {nt n0 : Nat} {F0 : Nat → Prop} {φ0 : Phi} {H0 : Nat → Option (O reg.T)} {w0 : World} {a : Act} {w : World}, RA n0 F0 φ0 H0 w0 nt st a w → RA n0 F0 φ0 H0 w0 nt st' a w

theorem RA.fslot {n0 : Nat} {F0 : Nat → Prop} {φ0 : Phi} {H0 : Nat → Option (O reg.T)} {w0 : World} {st : St reg.T} {a : Act} {w : World} {t i : Nat} {l : List Nat} {v : V reg.T} {r : V reg.T × Hp reg.T} (ht : Tr.ok t = true) (hx : st.env.get t = some v) (hK : (frz1 reg l i (v, st.hp)).K (· = r)) (h : RA n0 F0 φ0 H0 w0 nt st a w) :
    RA n0 F0 φ0 H0 w0 nt ⟨st.env.set t (some r.1), r.2⟩ a w := by
  obtain ⟨N, F, φ, hN, hR, hG⟩ := h
  obtain ⟨h1, h2⟩ := hR.env t v hx
  obtain ⟨v2, h2', N', F', φ', e, hv', hH', hGO⟩ := (frz1_ok (h0 := st.hp) hK).2 N F φ w _ w ⟨v, st.hp, N, F, φ, rfl, h2, hR.heap, GO.refl hR.heap⟩
  subst e
  refine RA.go hN hG (st' := ⟨st.env.set t (some v2), h2'⟩) ⟨fun t' u hu => ?_, hR.size, hH', hR.dfs⟩ hGO
  have hu : (st.env.set t (some v2)).get t' = some u := hu
  rw [Tr.get_set ht] at hu
  by_cases e1 : t' = t
  · subst e1
    rw [if_pos rfl] at hu
    cases hu
    exact ⟨h1, hv'⟩
  · rw [if_neg e1] at hu
    obtain ⟨h3, h4⟩ := hR.env t' u hu
    exact ⟨h3, hGO.goes.val hR.heap h4⟩
theorem RA.fcell {n0 : Nat} {F0 : Nat → Prop} {φ0 : Phi} {H0 : Nat → Option (O reg.T)} {w0 : World} {st : St reg.T} {a : Act} {w : World} {i : Nat} {l : List Nat} {r : V reg.T × Hp reg.T} (hK : (frz1 reg l i (.undef, st.hp)).K (· = r)) (h : RA n0 F0 φ0 H0 w0 nt st a w) :
    RA n0 F0 φ0 H0 w0 nt ⟨st.env, r.2⟩ a w := by
  obtain ⟨N, F, φ, hN, hR, hG⟩ := h
  obtain ⟨v2, h2', N', F', φ', e, hv', hH', hGO⟩ := (frz1_ok (h0 := st.hp) hK).2 N F φ w undef w ⟨.undef, st.hp, N, F, φ, rfl, .undef, hR.heap, GO.refl hR.heap⟩
  subst e
  refine RA.go hN hG (st' := ⟨st.env, h2'⟩) ⟨fun t' u hu => ?_, hR.size, hH', hR.dfs⟩ hGO
  obtain ⟨h3, h4⟩ := hR.env t' u hu
  exact ⟨h3, hGO.goes.val hR.heap h4⟩

theorem absR_same {t : Tgt} {st : St reg.T} {k : St reg.T → Prop} (h : absR reg t st k) : ∃ st', k st' ∧ Same st st' := by
  cases t with
  | slot t =>
    obtain ⟨st', h1, h2⟩ := abs1_to (Or.inl ⟨t, rfl⟩) h
    exact ⟨st', h1, fun hR => hR.alike h2⟩
  | cell i r j =>
    obtain ⟨st', h1, h2⟩ := abs1_to (Or.inr ⟨i, r, j, rfl⟩) h
    exact ⟨st', h1, fun hR => hR.alike h2⟩
  | nslot t e =>
    simp only [absR, abs1] at h
    split at h
    · rename_i hk hx
      simp only [Bool.and_eq_true] at hk
      exact ⟨_, h, fun hR => hR.nslot hk.1 hk.2 hx⟩
    · exact ⟨st, h, fun hR => hR⟩
  | ncell i r j e =>
    simp only [absR, abs1] at h
    split at h
    · rename_i n xs hk hx
      simp only [Bool.and_eq_true] at hk
      split at h
      · rename_i row hr
        split at h
        · rename_i hj
          exact ⟨_, h, fun hR => hR.ncell hk.1 hk.2 hx hr hj⟩
        · exact ⟨st, h, fun hR => hR⟩
      · exact ⟨st, h, fun hR => hR⟩
    · exact ⟨st, h, fun hR => hR⟩
  | fslot t =>
    simp only [absR] at h
    split at h
    · rename_i i off len cap hk hx
      obtain ⟨r, h1, h2⟩ := (Out.K_iff _ _).1 h
      exact ⟨_, h2, fun hR => hR.fslot hk hx h1⟩
    · exact ⟨st, h, fun hR => hR⟩
  | fcell i r j =>
    simp only [absR] at h
    split at h
    · split at h
      · split at h
        · obtain ⟨q, h1, h2⟩ := (Out.K_iff _ _).1 h
          exact ⟨_, h2, fun hR => hR.fcell h1⟩
        · exact ⟨st, h, fun hR => hR⟩
      · exact ⟨st, h, fun hR => hR⟩
    · exact ⟨st, h, fun hR => hR⟩

theorem absL_to : ∀ {l : List Tgt} {st : St reg.T} {k : St reg.T → Prop}, absL reg l st k → ∃ st', k st' ∧ Same st st'
  | [], st, k, h => ⟨st, h, fun hR => hR⟩
  | t :: l, st, k, h => by
    obtain ⟨st1, h1, a1⟩ := absR_same h
    obtain ⟨st2, h2, b1⟩ := absL_to h1
    exact ⟨st2, h2, fun hR => b1 (a1 hR)⟩

def APost (n0 : Nat) (F0 : Nat → Prop) (φ0 : Phi) (H0 : Nat → Option (O reg.T)) (w0 : World) (nt : Nat) (Q : AExit × St reg.T → Prop) : Exit → Act → World → Prop
  | .normal, a, w => ∃ st, Q (.normal, st) ∧ RA n0 F0 φ0 H0 w0 nt st a w
  | .exit id, a, w => ∃ st, Q (.exit id, st) ∧ RA n0 F0 φ0 H0 w0 nt st a w
  | .ret, a, w => ∃ st, Q (.ret, st) ∧ RA n0 F0 φ0 H0 w0 nt st a w
  | _, _, _ => False

theorem fresh_top {N : Nat → Prop} {n : Nat} (h : ∀ i, N i → i < n) (m : Nat) : Fresh N n m := fun i h1 _ h3 => by have := h i h3; omega

/-! #### Cover -/
theorem lookN_mem {α : Type} : ∀ {l : List (Nat × α)} {i : Nat} {x : α}, lookN l i = some x → (i, x) ∈ l
  | (k, y) :: l, i, x, h => by
    simp only [lookN] at h
    cases hb : Nat.beq k i with
    | true => rw [hb] at h; cases h; rw [Nat.eq_of_beq_eq_true hb]; simp
    | false => rw [hb] at h; exact List.mem_cons_of_mem _ (lookN_mem h)

theorem setAll_get {α : Type} : ∀ {l : List (Nat × α)} {t : Tr α}, (∀ p ∈ l, Tr.ok p.1 = true) → ∀ {j : Nat} {x : α}, (setAll l t).get j = some x → (j, x) ∈ l ∨ t.get j = some x
  | [], t, _, j, x, h => .inr h
  | (i, y) :: l, t, hk, j, x, h => by
    simp only [setAll] at h
    rw [Tr.get_set (hk (i, y) (by simp))] at h
    by_cases hji : j = i
    · subst hji
      rw [if_pos rfl] at h
      cases h
      exact .inl (by simp)
    · rw [if_neg hji] at h
      rcases setAll_get (fun p hp => hk p (by simp [hp])) h with h | h
      · exact .inl (by simp [h])
      · exact .inr h

/-- What names stand for. -/
def phiC (ρ : List (Nat × Nat)) (φ : Phi) : Phi := fun i => match lookN ρ i with | some j => φ j | none => none

theorem phiC_is {ρ : List (Nat × Nat)} {φ : Phi} {i j : Nat} (h : nameIs ρ i j = true) : phiC ρ φ i = φ j := by
  unfold nameIs at h
  unfold phiC
  split at h
  · rename_i k hk
    simp only [Nat.eq_of_beq_eq_true h]
  · cases h

theorem covD_rel {F : Nat → Prop} {w : World} {x y : D reg.T} (h : covD x y) {cv : Value} (hd : DRel reg F w y cv) : DRel reg F w x cv := by
  unfold covD at h
  split at h
  · subst h; exact nils_to rfl rfl F w cv hd
  · subst h; exact nils_to rfl rfl F w cv hd
  · obtain ⟨h1, h2⟩ := (must_iff _ _).1 h
    rw [sameKind_eq h1, h2]; exact hd
  · subst h; exact hd
  · subst h; exact hd
  · subst h; exact hd

theorem covV_rel {F : Nat → Prop} {w : World} {φ : Phi} {ρ : List (Nat × Nat)} {u : V reg.T} {cv : Value} (hu : VRel reg F w φ u cv) : ∀ {v}, covV ρ v u → VRel reg F w (phiC ρ φ) v cv ∧ (u.solid = true → v.solid = true) := by
  have lists : ∀ {us : List (V reg.T)} {cs : Array Value}, (∀ j, j < us.length → ∀ {v}, covV ρ v (us.getD j .any) → VRel reg F w (phiC ρ φ) v (cs.getD j undef) ∧ ((us.getD j .any).solid = true → v.solid = true)) →
      ∀ {vs}, covV.goL ρ vs us → vs.length = us.length ∧ ∀ j, j < vs.length → VRel reg F w (phiC ρ φ) (vs.getD j .any) (cs.getD j undef) := by
    intro us cs ih vs hvs
    have key : ∀ (us vs : List (V reg.T)), covV.goL ρ vs us → vs.length = us.length ∧ ∀ j, j < vs.length → covV ρ (vs.getD j .any) (us.getD j .any) := by
      intro us
      induction us with
      | nil =>
        intro vs h
        cases vs with
        | nil => exact ⟨rfl, fun j hj => by simp at hj⟩
        | cons v vs => exact h.elim
      | cons u us ihu =>
        intro vs h
        cases vs with
        | nil => exact h.elim
        | cons v vs =>
          obtain ⟨h1, h2⟩ := h
          obtain ⟨h3, h4⟩ := ihu vs h2
          refine ⟨by simp [h3], fun j hj => ?_⟩
          cases j with
          | zero => exact h1
          | succ j => exact h4 j (by simpa using hj)
    obtain ⟨h1, h2⟩ := key us vs hvs
    exact ⟨h1, fun j hj => (ih j (by omega) (h2 j hj)).1⟩
  induction hu with
  | d y cv hd =>
    intro v h
    cases v <;> simp only [covV] at h <;> first | exact h.elim | exact ⟨.d _ _ (covD_rel h hd), fun _ => rfl⟩
  | ptr j r o b s k z hp =>
    intro v h
    cases v <;> simp only [covV] at h <;> (try exact h.elim)
    obtain ⟨h1, h2, h3⟩ := (must_iff _ _).1 h
    subst h2 h3
    exact ⟨.ptr _ _ _ b s k z ((phiC_is h1).trans hp), fun _ => rfl⟩
  | fp row o a C t fz hF hb hz hr => intro v h; cases v <;> simp only [covV] at h
  | sl j off len cap b s k z cap' hp hc hl hm hz =>
    intro v h
    cases v <;> simp only [covV] at h <;> (try exact h.elim)
    obtain ⟨h1, h2, h3, h4⟩ := (must_iff _ _).1 h
    subst h2 h3
    refine ⟨.sl _ _ _ _ b s k z cap' ((phiC_is h1).trans hp) ?_ hl hm hz, fun _ => rfl⟩
    rename_i cap0
    cases cap0 <;> cases cap <;> simp only [covCap] at h4 <;> simp only [CapRel] at hc ⊢ <;> omega
  | slz j off cap base hc hnb =>
    intro v h
    cases v <;> simp only [covV] at h <;> (try exact h.elim)
    obtain ⟨h1, h2, h3, h4⟩ := (must_iff _ _).1 h
    subst h2 h3
    rename_i cap0
    refine ⟨.slz _ _ _ base ?_ (fun e => ?_), fun _ => rfl⟩
    · cases cap0 <;> cases cap <;> simp only [covCap] at h4 <;> simp only [CapRel] at hc ⊢ <;> omega
    · have := hnb e
      cases cap0 <;> cases cap <;> simp only [covCap] at h4 <;> first | rfl | cases this
  | mp j b s hp => intro v h; cases v <;> simp only [covV] at h
  | it j b s hp => intro v h; cases v <;> simp only [covV] at h
  | fn f caps fst cs fs hz _ hz' _ ih ih' =>
    intro v h
    cases v <;> simp only [covV] at h <;> (try exact h.elim)
    obtain ⟨h1, h2, h3⟩ := (must_iff _ _).1 h
    have := Nat.eq_of_beq_eq_true h1
    subst this
    obtain ⟨a1, a2⟩ := lists ih h2
    obtain ⟨b1, b2⟩ := lists ih' h3
    exact ⟨.fn _ _ _ cs fs (by omega) a2 (by omega) b2, fun _ => rfl⟩
  | agg us cs hz _ ih =>
    intro v h
    cases v <;> simp only [covV] at h <;> (try exact h.elim)
    obtain ⟨a1, a2⟩ := lists ih h
    exact ⟨.agg _ cs (by omega) a2, fun h => by simp [V.solid] at h⟩
  | tup us cs hz _ ih =>
    intro v h
    cases v <;> simp only [covV] at h <;> (try exact h.elim)
    obtain ⟨a1, a2⟩ := lists ih h
    exact ⟨.tup _ cs (by omega) a2, fun h => by simp [V.solid] at h⟩
  | ifc t v cv _ _ => intro v h; cases v <;> simp only [covV] at h
  | undef => intro v h; cases v <;> simp only [covV] at h <;> first | exact h.elim | exact ⟨.undef, fun h => h⟩
  | any cv => intro v h; cases v <;> simp only [covV] at h

theorem covL_get {ρ : List (Nat × Nat)} : ∀ {us vs : List (V reg.T)}, covV.goL ρ vs us → vs.length = us.length ∧ ∀ j, j < vs.length → covV ρ (vs.getD j .any) (us.getD j .any)
  | [], [], _ => ⟨rfl, fun j hj => by simp at hj⟩
  | [], v :: vs, h => h.elim
  | u :: us, [], h => h.elim
  | u :: us, v :: vs, ⟨h1, h2⟩ => by
    obtain ⟨h3, h4⟩ := covL_get h2
    refine ⟨by simp [h3], fun j hj => ?_⟩
    cases j with
    | zero => exact h1
    | succ j => exact h4 j (by simpa using hj)

theorem covR_get {ρ : List (Nat × Nat)} : ∀ {ss rs : List (List (V reg.T))}, covR ρ rs ss → rs.length = ss.length ∧ ∀ r, r < rs.length → covV.goL ρ (rs.getD r []) (ss.getD r [])
  | [], [], _ => ⟨rfl, fun j hj => by simp at hj⟩
  | [], v :: vs, h => h.elim
  | u :: us, [], h => h.elim
  | u :: us, v :: vs, ⟨h1, h2⟩ => by
    obtain ⟨h3, h4⟩ := covR_get h2
    refine ⟨by simp [h3], fun j hj => ?_⟩
    cases j with
    | zero => exact h1
    | succ j => exact h4 j (by simpa using hj)

theorem covO_rel {F : Nat → Prop} {w : World} {φ : Phi} {ρ : List (Nat × Nat)} {i j : Nat} {o u : O reg.T} (hij : lookN ρ i = some j) (h : covO ρ o u) (hu : ORel reg F w φ j u) : ORel reg F w (phiC ρ φ) i o := by
  have hp : phiC ρ φ i = φ j := by unfold phiC; rw [hij]
  cases o with
  | rows k xs =>
    cases u with
    | rows k' ys =>
      obtain ⟨hk, hR⟩ := (must_iff _ _).1 h
      have := Nat.eq_of_beq_eq_true hk
      subst this
      obtain ⟨hl, hr⟩ := covR_get hR
      obtain ⟨_, hu⟩ := hu.rows reg rfl
      refine .inl ⟨rfl, ?_⟩
      rcases hu with ⟨h1, h2⟩ | ⟨b, s, C, t, fz, h1, h2, h3, h4⟩
      · exact .inl ⟨by simp only [O.len] at h1 ⊢; omega, hp.trans h2⟩
      · have hlist : ∀ r, r < xs.length → ((xs.getD r []).length = (ys.getD r []).length) ∧ ∀ c, c < (xs.getD r []).length → covV ρ ((xs.getD r []).getD c .any) ((ys.getD r []).getD c .any) := fun r hr' => covL_get (hr r hr')
        refine .inr ⟨b, s, C, t, fz, hp.trans h1, h2, h3, ⟨?_, ?_, ⟨fun r hr => ?_, fun r c hr hc => ?_, fun r c hr hc => ?_⟩⟩⟩
        · have := h4.size; simp only [O.len, O.k, hl] at this ⊢; exact this
        · have := h4.len; simp only [O.len, hl] at this ⊢; exact this
        · simp only [O.len] at hr
          have := h4.at_.wid r (by simp only [O.len]; omega)
          simp only [O.row, O.k] at this ⊢
          rw [(hlist r hr).1, this]
        · simp only [O.len, O.k] at hr hc
          have hw := h4.at_.wid r (by simp only [O.len]; omega)
          simp only [O.row, O.k] at hw ⊢
          exact (covV_rel (h4.at_.rel r c (by simp only [O.len]; omega) hc) ((hlist r hr).2 c (by rw [(hlist r hr).1, hw]; exact hc))).2 (h4.at_.solid r c (by simp only [O.len]; omega) hc)
        · simp only [O.len, O.k] at hr hc
          have hw := h4.at_.wid r (by simp only [O.len]; omega)
          simp only [O.row, O.k] at hw ⊢
          exact (covV_rel (h4.at_.rel r c (by simp only [O.len]; omega) hc) ((hlist r hr).2 c (by rw [(hlist r hr).1, hw]; exact hc))).1
    | trows e ys => exact h.elim
    | map c es => exact h.elim
    | sit s p => exact h.elim
  | trows e xs =>
    cases u with
    | rows k' ys => exact h.elim
    | map c es => exact h.elim
    | sit s p => exact h.elim
    | trows e' ys =>
      have h : O.trows e xs = .trows e' ys := h
      rw [h]
      obtain ⟨h0, hu⟩ := hu.rows reg rfl
      refine .inl ⟨h0, ?_⟩
      rcases hu with ⟨h1, h2⟩ | ⟨b, s, C, t, fz, h1, h2, h3, h4⟩
      · exact .inl ⟨h1, hp.trans h2⟩
      · refine .inr ⟨b, s, C, t, fz, hp.trans h1, h2, h3, ⟨h4.size, h4.len, ⟨h4.at_.wid, h4.at_.solid, fun r c hr hc => ?_⟩⟩⟩
        have h5 := h4.at_.rel r c hr hc
        have hw := h4.at_.wid r hr
        -- the cells are data
        have hd : ∃ x, ((O.trows e' ys).row reg r).getD c .any = .d x := by
          simp only [O.row, O.k] at hw hc ⊢
          rw [List.length_map] at hw
          exact ⟨_, getD_map_d _ _ (by omega)⟩
        obtain ⟨x, hx⟩ := hd
        rw [hx] at h5 ⊢
        exact .d _ _ h5.d_inv
  | map c es => exact h.elim
  | sit s p => exact h.elim

theorem covE_get {ρ : List (Nat × Nat)} {env : Tr (V reg.T)} : ∀ {l : List (Nat × V reg.T)}, covE ρ env l → ∀ {t v}, (t, v) ∈ l → ∃ u, env.get t = some u ∧ covV ρ v u
  | (k, x) :: l, h, t, v, hm => by
    simp only [covE] at h
    split at h
    · rename_i u hu
      rcases List.mem_cons.1 hm with hm | hm
      · cases hm; exact ⟨u, hu, h.1⟩
      · exact covE_get h.2 hm
    · exact h.elim
theorem covH_get {ρ : List (Nat × Nat)} {h : Tr (O reg.T)} : ∀ {l : List (Nat × O reg.T)}, covH ρ h l → ∀ {i o}, (i, o) ∈ l → ∃ j u, lookN ρ i = some j ∧ h.get j = some u ∧ covO ρ o u
  | (k, x) :: l, hc, i, o, hm => by
    simp only [covH] at hc
    split at hc
    · rename_i j hj
      split at hc
      · rename_i u hu
        rcases List.mem_cons.1 hm with hm | hm
        · cases hm; exact ⟨j, u, hj, hu, hc.1⟩
        · exact covH_get hc.2 hm
      · exact hc.elim
    · exact hc.elim

theorem nodupN_spec : ∀ {l : List (Nat × Nat)}, nodupN (l.map (·.2)) = true → ∀ {i j k : Nat}, (i, k) ∈ l → (j, k) ∈ l → i = j
  | (a, b) :: l, h, i, j, k, hi, hj => by
    simp only [List.map_cons, nodupN, Bool.and_eq_true, Bool.not_eq_true'] at h
    have hn : ∀ x, (x, b) ∉ l := fun x hx => by
      have : memN (l.map (·.2)) b = true := memN_iff.2 (List.mem_map.2 ⟨(x, b), hx, rfl⟩)
      rw [h.1] at this; cases this
    rcases List.mem_cons.1 hi with hi | hi <;> rcases List.mem_cons.1 hj with hj | hj
    · cases hi; cases hj; rfl
    · cases hi; exact (hn _ hj).elim
    · cases hj; exact (hn _ hi).elim
    · exact nodupN_spec h.2 hi hj

theorem selfB_get {ρ : List (Nat × Nat)} : ∀ {n : Nat}, selfB ρ n = true → ∀ {j}, j < n → lookN ρ j = some j
  | n + 1, h, j, hj => by
    simp only [selfB, Bool.and_eq_true] at h
    by_cases e : j = n
    · subst e
      have h1 := h.1
      unfold nameIs at h1
      split at h1
      · rename_i k hk; rw [hk, Nat.eq_of_beq_eq_true h1]
      · cases h1
    · exact selfB_get h.2 (by omega)

/-- A state that is stood for. -/
theorem Cov.ra {n0 : Nat} {F0 : Nat → Prop} {φ0 : Phi} {H0 : Nat → Option (O reg.T)} {w0 : World} {st : St reg.T} {s : CSt reg.T} {a : Act} {w : World} (h : Cov n0 st s) (hR : RA n0 F0 φ0 H0 w0 nt st a w) : RA n0 F0 φ0 H0 w0 nt s.st a w := by
  obtain ⟨N, F, φ, hN, hR, hG⟩ := hR
  obtain ⟨hb, he, hh⟩ := (must_iff _ _).1 h
  generalize findR n0 st s = ρ at hb he hh
  unfold covB at hb
  simp only [Bool.and_eq_true, List.all_eq_true] at hb
  obtain ⟨⟨⟨⟨⟨hb0, hb1⟩, hb2⟩, hb3⟩, hb4⟩, hb5⟩ := hb
  have hself : ∀ {i}, i < n0 → lookN ρ i = some i := fun hi => selfB_get hb0 hi
  have hobj : ∀ i o, s.st.hp.get i = some o → ∃ j u, lookN ρ i = some j ∧ st.hp.get j = some u ∧ covO ρ o u := by
    intro i o hi
    rcases setAll_get (fun p hp => hb5 p hp) (show (setAll s.objs .e).get i = some o from hi) with h | h
    · exact covH_get hh h
    · rw [Tr.get_e] at h; cases h
  have hφ : ∀ i p, phiC ρ φ i = some p → ∃ j, lookN ρ i = some j ∧ φ j = some p := by
    intro i p hp
    unfold phiC at hp
    split at hp
    · rename_i j hj; exact ⟨j, hj, hp⟩
    · cases hp
  have hlt : ∀ i j, lookN ρ i = some j → i < s.nx := fun i j hij => by simpa using hb2 (i, j) (lookN_mem hij)
  refine ⟨fun i => ∃ j, lookN ρ i = some j, F, phiC ρ φ, fun i ⟨j, hj⟩ => hlt i j hj, ⟨fun t v hv => ?_, hR.size, ⟨fun i o hi => ?_, fun i o b s' k hi hp => ?_, fun i j oi oj b s1 k1 s2 k2 hi hj hpi hpj => ?_, fun i p hp => ?_, fun i o hi => ?_, fun i ⟨j, hj⟩ => ok_lt hb3 (hlt i j hj), hR.heap.frz, hR.heap.lay⟩, hR.dfs⟩, ?_⟩
  · rcases setAll_get (fun p hp => hb4 p hp) (show (setAll s.env .e).get t = some v from hv) with h | h
    · obtain ⟨u, hu, hc⟩ := covE_get he h
      obtain ⟨h1, h2⟩ := hR.env t u hu
      exact ⟨h1, (covV_rel h2 hc).1⟩
    · rw [Tr.get_e] at h; cases h
  · obtain ⟨j, u, hij, hu, hc⟩ := hobj i o hi
    exact covO_rel hij hc (hR.heap.obj j u hu)
  · obtain ⟨j, u, hij, hu, hc⟩ := hobj i o hi
    obtain ⟨j', hij', hp'⟩ := hφ i _ hp
    rw [hij] at hij'
    cases hij'
    exact hR.heap.own j u b s' k hu hp'
  · obtain ⟨i', u, h1, h2, _⟩ := hobj i oi hi
    obtain ⟨j', u', h3, h4, _⟩ := hobj j oj hj
    obtain ⟨i2, h5, h6⟩ := hφ i _ hpi
    obtain ⟨j2, h7, h8⟩ := hφ j _ hpj
    rw [h1] at h5; cases h5
    rw [h3] at h7; cases h7
    have := hR.heap.inj i' j' u u' b s1 k1 s2 k2 h2 h4 h6 h8
    subst this
    exact nodupN_spec hb1 (lookN_mem h1) (lookN_mem h3)
  · obtain ⟨j, h1, _⟩ := hφ i p hp; exact ⟨j, h1⟩
  · obtain ⟨j, u, hij, _⟩ := hobj i o hi; exact ⟨j, hij⟩
  · refine ⟨hG.os, hG.tape, hG.output, hG.size, hG.block, hG.fsub, hG.fnew, fun i hi => ?_, fun i hi => ⟨i, hself hi⟩, fun b ⟨i, o, s', k, hi, hp⟩ => ?_, fun i p hp => ?_⟩
    · rw [← hG.phi i hi]
      unfold phiC
      rw [hself hi]
    · obtain ⟨j, u, hij, hu, _⟩ := hobj i o hi
      obtain ⟨j', hij', hp'⟩ := hφ i _ hp
      rw [hij] at hij'
      cases hij'
      exact hG.dom b ⟨j, u, s', k, hu, hp'⟩
    · obtain ⟨j, hj, hp'⟩ := hφ i _ hp
      rcases hG.new j p hp' with h | h
      · left
        have : i = j := nodupN_spec hb1 (lookN_mem hj) (lookN_mem (hself h))
        subst this
        exact h
      · exact .inr h

theorem xpost_apost {Q : AExit × St reg.T → Prop} {n0 : Nat} {F0 : Nat → Prop} {φ0 : Phi} {H0 : Nat → Option (O reg.T)} {w0 : World} {st : St reg.T} {N F : Nat → Prop} {φ : Phi} {w : World} (hN : ∀ i, N i → i < st.hp.nx) (hg : Goes reg F0 φ0 (fun i => i < n0) H0 w0 F φ N st.hp.get w) {e : Exit} {a' : Act} {w' : World}
    (h : XPost [] Q nt N F φ st.hp w e a' w') : APost n0 F0 φ0 H0 w0 nt Q e a' w' := by
  cases e with
  | normal => obtain ⟨st', N', F', φ', h1, h2, h3⟩ := h; exact ⟨st', h1, RA.go hN hg h2 h3⟩
  | exit id => obtain ⟨st', N', F', φ', h1, h2, h3⟩ := h; exact ⟨st', h1, RA.go hN hg h2 h3⟩
  | ret => obtain ⟨st', N', F', φ', h1, h2, h3⟩ := h; exact ⟨st', h1, RA.go hN hg h2 h3⟩
  | goto l => exact h.elim
  | panic ch => exact h.elim
  | outgrown => exact h.elim

theorem awp_sound (hm : P.follows .mixedOrders = true) (hHd : HdSound P hd) (hnt : nt ≤ 1000000) {fuel : Nat} {A : Nat → List Tgt} {G : Type} {L : G → Nat → St reg.T → Option (LoopI reg.T G)} {J : G → Nat → Option (LoopI reg.T G)} {n0 : Nat} {F0 : Nat → Prop} {φ0 : Phi} {H0 : Nat → Option (O reg.T)} {w0 : World} : ∀ (c : Code) (g : G) (Q : AExit × St reg.T → Prop) (st : St reg.T), awp reg P hd nt fuel n0 A L J c g Q st →
    ∀ {a : Act} {w : World}, RA n0 F0 φ0 H0 w0 nt st a w → c.wp P (APost n0 F0 φ0 H0 w0 nt Q) a w := by
  intro c
  induction c with
  | skip => intro g Q st h a w hR; exact wp_skip ⟨st, h, hR⟩
  | region id ops draw =>
    intro g Q st h a w hR
    obtain ⟨N, F, φ, hN, hR, hG⟩ := hR
    exact exReg_sound hm hHd hnt h hR (fun st' _ => fresh_top hN _) (fun st' N' F' φ' a' w' hq hR' hG' => (by
      have hq := (stF_eq st' (fun st => absL reg (A id) st fun st => Q (.normal, st))).mp hq
      obtain ⟨st2, h2, h3⟩ := absL_to hq
      exact ⟨st2, h2, h3 (RA.go hN hG hR' hG').bare⟩))
  | seq x y ihx ihy =>
    intro g Q st h a w hR
    simp only [awp] at h
    split at h
    · refine wp_seq (wp_mono (ihx g _ st h hR) fun e a' w' he => ?_)
      cases e with
      | normal => obtain ⟨st', hq, hR'⟩ := he; exact ihy g Q st' hq hR'
      | exit id => exact he
      | ret => exact he
      | goto l => exact he
      | panic c => exact he
      | outgrown => exact he
    · refine wp_seq (wp_mono (ihx g _ st h.1 hR) fun e a' w' he => ?_)
      cases e with
      | normal =>
        obtain ⟨st', ⟨x0, hq⟩, hR'⟩ := he
        exact ihy _ Q _ (h.2 x0) (((must_iff _ _).1 hq).2.ra hR')
      | exit id => exact he
      | ret => exact he
      | goto l => exact he
      | panic c => exact he
      | outgrown => exact he
  | cond o x y ihx ihy =>
    intro g Q st h a w hR
    simp only [awp] at h
    split at h
    · rename_i t
      split at h
      · rename_i v hv
        have hR' := hR
        obtain ⟨N, F, φ, hN, hR', hG⟩ := hR'
        have he : a.eval (.tmp t) = .bool v := (valOf_rel hR' (x := .tmp t) hv).bool_inv
        cases v with
        | true => simp only [branch, St.fix_same hv] at h; exact wp_cond_true he (ihx g Q st h hR)
        | false => simp only [branch, St.fix_same hv] at h; exact wp_cond_false he (ihy g Q st h hR)
      · exact h.elim
    · exact h.elim
  | block id c ih =>
    intro g Q st h a w hR
    refine wp_block (wp_mono (ih g _ st h hR) fun e a' w' he => ?_)
    cases e with
    | normal => exact he
    | exit j =>
      obtain ⟨st', hq, hR'⟩ := he
      simp only [blockQ] at hq
      cases hb : Nat.beq j id with
      | true =>
        rw [hb] at hq
        have : j = id := Nat.eq_of_beq_eq_true hb
        simp only [Exit.inBlock, this, if_true]
        exact ⟨st', hq, hR'⟩
      | false =>
        rw [hb] at hq
        have : j ≠ id := fun e => by subst e; simp [Nat.beq_refl] at hb
        simp only [Exit.inBlock, this, if_false]
        exact ⟨st', hq, hR'⟩
    | ret => exact he
    | goto l => exact he
    | panic c => exact he
    | outgrown => exact he
  | exit id => intro g Q st h a w hR; exact wp_exit ⟨st, h, hR⟩
  | ret => intro g Q st h a w hR; exact wp_ret ⟨st, h, hR⟩
  | loop c ih =>
    intro g Q st h a w hR
    simp only [awp] at h
    split at h
    · rename_i l _
      obtain ⟨⟨x0, h0⟩, hround⟩ := h
      have h0 := ((must_iff _ _).1 h0).2
      refine wp_loop_ghost (fun n a w => ∃ x, l.μ x = n ∧ RA n0 F0 φ0 H0 w0 nt (l.I x).st a w) (l.μ x0) ⟨x0, rfl, h0.ra hR⟩ ?_
      rintro n a w ⟨x, rfl, hR⟩
      refine wp_mono (ih _ _ _ (hround x) hR) fun e a' w' he => ?_
      cases e with
      | normal =>
        obtain ⟨st', hq, hR'⟩ := he
        obtain ⟨x', h1, h2⟩ := hq
        exact ⟨l.μ x', h1, x', rfl, ((must_iff _ _).1 h2).2.ra hR'⟩
      | exit id => exact he
      | ret => exact he
      | goto l => exact he
      | panic c => exact he
      | outgrown => exact he
    · obtain ⟨N, F, φ, hN, hR, hG⟩ := hR
      exact wp_mono ((wpIn_wide (n := 0)).1 (loop_sound (ex_mono hnt c) (ex_in hm hHd hnt c) fuel st Q h hR (fun r _ => fresh_top hN _) none 0)) fun e a' w' he => xpost_apost hN hG he
  | rangeFunc f ps c1 c2 _ _ => intro g Q st h; exact h.elim
  | scope c _ => intro g Q st h; exact h.elim
  | label l => intro g Q st h; exact h.elim
  | goto l => intro g Q st h; exact h.elim
  | refuse s => intro g Q st h; exact h.elim

/-- A function that is handed objects. -/
theorem awpFunH_sound (hm : P.follows .mixedOrders = true) (hHd : HdSound P hd) {fuel : Nat} {A : Nat → List Tgt} {G : Type} {L : G → Nat → St reg.T → Option (LoopI reg.T G)} {J : G → Nat → Option (LoopI reg.T G)} {g : G} {f : FuncId} {fn : Func} (hfn : P.funcs[f]? = some fn) {args : List (V reg.T)} {h : Hp reg.T} (hwr : h.wr = []) {Q : V reg.T × Hp reg.T → Prop}
    (hq : awpFunH reg P hd fuel A L J g fn args h Q) {F : Nat → Prop} {φ : Phi} {w : World} {cargs : Array Value} (hH : HR (fun i => i < h.nx) F φ h w) (hl : LRel F w φ args cargs) :
    Calls P f cargs w (CallPost (fun i => i < h.nx) F φ h w Q) := by
  unfold awpFunH at hq
  split at hq
  · exact hq.elim
  rename_i c hb
  obtain ⟨hc, hq⟩ := (must_iff _ _).1 hq
  simp only [Bool.and_eq_true] at hc
  have hle : args.length ≤ fn.ntmps := by simpa using hc.1
  have hnt : fn.ntmps ≤ 1000000 := Nat.le_of_ble_eq_true hc.2
  have hR0 := enter_ok (nt := fn.ntmps) hH hl hle hnt
  have hh : (⟨h.h, h.nx, []⟩ : Hp reg.T) = h := by cases h; simp only at hwr; rw [hwr]
  rw [hh] at hq
  refine calls_of_wp hfn hb (wp_mono (awp_sound (n0 := h.nx) (F0 := F) (φ0 := φ) (H0 := h.get) (w0 := w) hm hHd hnt c _ _ _ hq ⟨_, F, φ, fun i hi => hi, hR0, Goes.refl reg hH⟩) fun e a' w' he => ?_)
  have hfin : ∀ (r : AExit × St reg.T) (Q : V reg.T × Hp reg.T → Prop), (finX P fn r).K Q → ∃ v, retV P fn r.2 = some v ∧ Q (v, r.2.hp) ∧ ∀ id, r.1 ≠ .exit id := by
    intro r Q hr
    obtain ⟨e, st⟩ := r
    cases e with
    | normal => obtain ⟨v, h1, h2⟩ := K_oneO hr; exact ⟨v, h1, h2, fun id => by simp⟩
    | ret => obtain ⟨v, h1, h2⟩ := K_oneO hr; exact ⟨v, h1, h2, fun id => by simp⟩
    | exit id => exact hr.elim
  have fin : ∀ (e' : AExit) st, (finX P fn (e', st)).K (fun q => (tidyLeaf reg h (q.1, ⟨q.2.h, q.2.nx, List.range h.nx⟩)).K Q) → RA h.nx F φ h.get w fn.ntmps st a' w' → a'.defers = [] ∧ ∃ cv, (results fn a'.tmps).run P w' = .ok cv w' ∧ CallPost (fun i => i < h.nx) F φ h w Q (.returned cv) w' := by
    rintro e' st hk ⟨N, F', φ', hN, hR, hG⟩
    obtain ⟨v, h4, h5, _⟩ := hfin _ _ hk
    obtain ⟨cv, h6, h7⟩ := ret_sound hR h4
    obtain ⟨r, h8, h9⟩ := (Out.K_iff _ _).1 h5
    have hnx : h.nx ≤ st.hp.nx := by
      rcases Nat.eq_zero_or_pos h.nx with h0 | h0
      · omega
      · have := hN (h.nx - 1) (hG.names _ (show h.nx - 1 < h.nx by omega)); omega
    have hres : Res (fun i => i < h.nx) F φ h w (· = (v, ⟨st.hp.h, st.hp.nx, List.range h.nx⟩)) cv w' := by
      refine ⟨v, ⟨st.hp.h, st.hp.nx, List.range h.nx⟩, N, F', φ', rfl, h7, hR.heap, ⟨hG, ⟨hnx, List.range h.nx, by rw [hwr, List.append_nil], fun i hi1 hi2 => ?_⟩, fun i hi => ?_⟩⟩
      · simp only [List.mem_range, Nat.not_lt] at hi1
        have h1 : ∀ (H : Nat → Option (O reg.T)) (N : Nat → Prop) (F : Nat → Prop) (φ : Phi) (w : World) (n : Nat), HRel reg F φ N H w → (∀ i, N i → i < n) → n ≤ i → H i = none := by
          intro H N F φ w n hH hN hi
          cases hHi : H i with
          | none => rfl
          | some o => have := hN i (hH.lt i o hHi); omega
        have hi2 : st.hp.nx ≤ i := by
          have hi2 : ¬(h.nx ≤ i ∧ i < st.hp.nx) := hi2
          omega
        have e1 := h1 h.get _ F φ w h.nx hH (fun i hi => hi) hi1
        have e2 : st.hp.get i = none := h1 st.hp.get N F' φ' w' st.hp.nx hR.heap hN hi2
        rw [e1]; exact e2
      · by_cases h1 : i < h.nx
        · exact .inl h1
        · exact .inr ⟨by omega, hN i hi⟩
    obtain ⟨v2, h2', N2, F2, φ2, e2, a, b, c⟩ := (tidyLeaf_ok h8).2 _ F φ w cv w' hres
    exact ⟨hR.dfs, cv, h6, cv, rfl, v2, h2', N2, F2, φ2, e2 ▸ h9, a, b, c⟩
  cases e with
  | normal => obtain ⟨st, hq, hR⟩ := he; exact fin _ st hq hR
  | ret => obtain ⟨st, hq, hR⟩ := he; exact fin _ st hq hR
  | exit id =>
    obtain ⟨st, hq, hR⟩ := he
    obtain ⟨_, _, _, h6⟩ := hfin _ _ hq
    exact (h6 id rfl).elim
  | goto l => exact he.elim
  | panic ch => exact he.elim
  | outgrown => exact he.elim

/-- A function that is handed objects, its answer as it is. -/
theorem awpFunN_sound (hm : P.follows .mixedOrders = true) (hHd : HdSound P hd) {fuel : Nat} {A : Nat → List Tgt} {G : Type} {L : G → Nat → St reg.T → Option (LoopI reg.T G)} {J : G → Nat → Option (LoopI reg.T G)} {g : G} {f : FuncId} {fn : Func} (hfn : P.funcs[f]? = some fn) {args : List (V reg.T)} {h : Hp reg.T} (hwr : h.wr = []) {Q : V reg.T × Hp reg.T → Prop}
    (hq : awpFunN reg P hd fuel A L J g fn args h Q) {F : Nat → Prop} {φ : Phi} {w : World} {cargs : Array Value} (hH : HR (fun i => i < h.nx) F φ h w) (hl : LRel F w φ args cargs) :
    Calls P f cargs w (CallPost (fun i => i < h.nx) F φ h w Q) := by
  unfold awpFunN at hq
  split at hq
  · exact hq.elim
  rename_i c hb
  obtain ⟨hc, hq⟩ := (must_iff _ _).1 hq
  simp only [Bool.and_eq_true] at hc
  have hle : args.length ≤ fn.ntmps := by simpa using hc.1
  have hnt : fn.ntmps ≤ 1000000 := Nat.le_of_ble_eq_true hc.2
  have hR0 := enter_ok (nt := fn.ntmps) hH hl hle hnt
  refine calls_of_wp hfn hb (wp_mono (awp_sound (n0 := h.nx) (F0 := F) (φ0 := φ) (H0 := h.get) (w0 := w) hm hHd hnt c _ _ _ hq ⟨_, F, φ, fun i hi => hi, hR0, Goes.refl reg hH⟩) fun e a' w' he => ?_)
  have hfin : ∀ (r : AExit × St reg.T) (Q : V reg.T × Hp reg.T → Prop), (finX P fn r).K Q → ∃ v, retV P fn r.2 = some v ∧ Q (v, r.2.hp) ∧ ∀ id, r.1 ≠ .exit id := by
    intro r Q hr
    obtain ⟨e, st⟩ := r
    cases e with
    | normal => obtain ⟨v, h1, h2⟩ := K_oneO hr; exact ⟨v, h1, h2, fun id => by simp⟩
    | ret => obtain ⟨v, h1, h2⟩ := K_oneO hr; exact ⟨v, h1, h2, fun id => by simp⟩
    | exit id => exact hr.elim
  have fin : ∀ (e' : AExit) st, (finX P fn (e', st)).K (fun q => Q (q.1, ⟨q.2.h, q.2.nx, List.range h.nx⟩)) → RA h.nx F φ h.get w fn.ntmps st a' w' → a'.defers = [] ∧ ∃ cv, (results fn a'.tmps).run P w' = .ok cv w' ∧ CallPost (fun i => i < h.nx) F φ h w Q (.returned cv) w' := by
    rintro e' st hk ⟨N, F', φ', hN, hR, hG⟩
    obtain ⟨v, h4, h5, _⟩ := hfin _ _ hk
    obtain ⟨cv, h6, h7⟩ := ret_sound hR h4
    have hnx : h.nx ≤ st.hp.nx := by
      rcases Nat.eq_zero_or_pos h.nx with h0 | h0
      · omega
      · have := hN (h.nx - 1) (hG.names _ (show h.nx - 1 < h.nx by omega)); omega
    have hres : Res (fun i => i < h.nx) F φ h w (· = (v, ⟨st.hp.h, st.hp.nx, List.range h.nx⟩)) cv w' := by
      refine ⟨v, ⟨st.hp.h, st.hp.nx, List.range h.nx⟩, N, F', φ', rfl, h7, hR.heap, ⟨hG, ⟨hnx, List.range h.nx, by rw [hwr, List.append_nil], fun i hi1 hi2 => ?_⟩, fun i hi => ?_⟩⟩
      · simp only [List.mem_range, Nat.not_lt] at hi1
        have h1 : ∀ (H : Nat → Option (O reg.T)) (N : Nat → Prop) (F : Nat → Prop) (φ : Phi) (w : World) (n : Nat), HRel reg F φ N H w → (∀ i, N i → i < n) → n ≤ i → H i = none := by
          intro H N F φ w n hH hN hi
          cases hHi : H i with
          | none => rfl
          | some o => have := hN i (hH.lt i o hHi); omega
        have hi2 : st.hp.nx ≤ i := by
          have hi2 : ¬(h.nx ≤ i ∧ i < st.hp.nx) := hi2
          omega
        have e1 := h1 h.get _ F φ w h.nx hH (fun i hi => hi) hi1
        have e2 : st.hp.get i = none := h1 st.hp.get N F' φ' w' st.hp.nx hR.heap hN hi2
        rw [e1]; exact e2
      · by_cases h1 : i < h.nx
        · exact .inl h1
        · exact .inr ⟨by omega, hN i hi⟩
    obtain ⟨v2, h2', N2, F2, φ2, e2, a, b, c⟩ := hres
    cases e2
    exact ⟨hR.dfs, cv, h6, cv, rfl, _, _, N2, F2, φ2, h5, a, b, c⟩
  cases e with
  | normal => obtain ⟨st, hq, hR⟩ := he; exact fin _ st hq hR
  | ret => obtain ⟨st, hq, hR⟩ := he; exact fin _ st hq hR
  | exit id =>
    obtain ⟨st, hq, hR⟩ := he
    obtain ⟨_, _, _, h6⟩ := hfin _ _ hq
    exact (h6 id rfl).elim
  | goto l => exact he.elim
  | panic ch => exact he.elim
  | outgrown => exact he.elim

/-- A function over pure data. -/
theorem awpFun_sound (hm : P.follows .mixedOrders = true) (hHd : HdSound P hd) {fuel : Nat} {A : Nat → List Tgt} {G : Type} {L : G → Nat → St reg.T → Option (LoopI reg.T G)} {J : G → Nat → Option (LoopI reg.T G)} {g : G} {f : FuncId} {fn : Func} (hfn : P.funcs[f]? = some fn) {args : List (V reg.T)} {Q : V reg.T × Hp reg.T → Prop}
    (h : awpFun reg P hd fuel A L J g fn args Q) {F : Nat → Prop} {w : World} {cargs : Array Value} (hF : ∀ b, F b → b < w.heap.size) (hlay : LayOk reg F w) (hl : LRel F w (fun _ => none) args cargs) :
    Calls P f cargs w fun e w' => ∃ v h' F' φ' cv, Q (v, h') ∧ e = .returned cv ∧ VRel reg F' w' φ' v cv ∧ (∀ b, F b → F' b) ∧ (∀ b, F' b → F b ∨ w.heap.size ≤ b) ∧ w'.os = w.os ∧ w'.tape = w.tape ∧ w'.output = w.output ∧ w.heap.size ≤ w'.heap.size ∧
      ∀ b, b < w.heap.size → w'.heap[b]? = w.heap[b]? := by
  unfold awpFun at h
  split at h
  · exact h.elim
  rename_i c hb
  obtain ⟨hc, h⟩ := (must_iff _ _).1 h
  simp only [Bool.and_eq_true] at hc
  have hle : args.length ≤ fn.ntmps := by simpa using hc.1
  have hnt : fn.ntmps ≤ 1000000 := Nat.le_of_ble_eq_true hc.2
  have hH : HR (reg := reg) (fun _ => False) F (fun _ => none) ⟨.e, 0, []⟩ w :=
    ⟨fun i o hi => by simp [Hp.get, Tr.get_e] at hi, fun i o b s k hi => by simp [Hp.get, Tr.get_e] at hi, fun i j oi oj b s k s' k' hi => by simp [Hp.get, Tr.get_e] at hi, fun i p hp => by simp at hp, fun i o hi => by simp [Hp.get, Tr.get_e] at hi, fun i hi => hi.elim, hF, hlay⟩
  have hR0 := enter_ok (nt := fn.ntmps) hH hl hle hnt
  have e0 : (Hp.get (⟨.e, 0, []⟩ : Hp reg.T)) = fun _ => none := by funext i; rfl
  have eN : (fun i : Nat => i < 0) = fun _ => False := by funext i; simp
  have hG0 : Goes reg F (fun _ => none) (fun i => i < 0) (fun _ => none) w F (fun _ => none) (fun _ => False) (Hp.get (⟨.e, 0, []⟩ : Hp reg.T)) w := by rw [eN]; exact e0 ▸ Goes.refl reg hH
  refine calls_of_wp hfn hb (wp_mono (awp_sound (n0 := 0) (F0 := F) (φ0 := fun _ => none) (H0 := fun _ => none) (w0 := w) hm hHd hnt c _ _ _ h ⟨fun _ => False, F, fun _ => none, fun i hi => hi.elim, hR0, hG0⟩) fun e a' w' he => ?_)
  have hfin : ∀ r : AExit × St reg.T, (finX P fn r).K Q → ∃ v, retV P fn r.2 = some v ∧ Q (v, r.2.hp) ∧ ∀ id, r.1 ≠ .exit id := by
    intro r hr
    obtain ⟨e, st⟩ := r
    cases e with
    | normal => obtain ⟨v, h1, h2⟩ := K_oneO hr; exact ⟨v, h1, h2, fun id => by simp⟩
    | ret => obtain ⟨v, h1, h2⟩ := K_oneO hr; exact ⟨v, h1, h2, fun id => by simp⟩
    | exit id => exact hr.elim
  have own0 : ∀ b, ¬Owned reg (fun _ => none) (fun _ => none) b := fun b ⟨i, o, s, k, hi, _⟩ => by simp at hi
  have fin : ∀ (e' : AExit) st, (finX P fn (e', st)).K Q → RA 0 F (fun _ => none) (fun _ => none) w fn.ntmps st a' w' → a'.defers = [] ∧ ∃ cv, (results fn a'.tmps).run P w' = .ok cv w' ∧ ∃ v h' F' φ' cv', Q (v, h') ∧ Ending.returned cv = .returned cv' ∧ VRel reg F' w' φ' v cv' ∧ (∀ b, F b → F' b) ∧ (∀ b, F' b → F b ∨ w.heap.size ≤ b) ∧
      w'.os = w.os ∧ w'.tape = w.tape ∧ w'.output = w.output ∧ w.heap.size ≤ w'.heap.size ∧ ∀ b, b < w.heap.size → w'.heap[b]? = w.heap[b]? := by
    rintro e' st hq ⟨N, F', φ', hN, hR, hG⟩
    obtain ⟨v, h4, h5, _⟩ := hfin _ hq
    obtain ⟨cv, h6, h7⟩ := ret_sound hR h4
    refine ⟨hR.dfs, cv, h6, v, st.hp, F', φ', cv, h5, rfl, h7, hG.fsub, fun b hb => ?_, hG.os, hG.tape, hG.output, hG.size, fun b hb => hG.block b hb (own0 b)⟩
    rcases hG.fnew b hb with h | h | h
    · exact .inl h
    · exact .inr h
    · exact (own0 b h).elim
  cases e with
  | normal => obtain ⟨st, hq, hR⟩ := he; exact fin _ st hq hR
  | ret => obtain ⟨st, hq, hR⟩ := he; exact fin _ st hq hR
  | exit id =>
    obtain ⟨st, hq, hR⟩ := he
    obtain ⟨_, _, _, h6⟩ := hfin _ hq
    exact (h6 id rfl).elim
  | goto l => exact he.elim
  | panic ch => exact he.elim
  | outgrown => exact he.elim
end
end Go.W
