/- Closed calls, kept in a table: what a function answers to given arguments. No conditions. -/
import Derived.Test.YtmnkbfflpgmkmaaGreatDoorWK
namespace Go.W
open Go Go.RowKit

section
variable {T : Nat → Type}
/-- The same data, untyped. -/
def D.same : D T → D T → Bool
  | .bool a, .bool b => a == b
  | .int k a, .int k' b => (match sameKind k k' with | true => a == b | false => false)
  | .str s, .str t => s == t
  | .nilp, .nilp => true
  | .nilm, .nilm => true
  | .nilf, .nilf => true
  | .nili, .nili => true
  | .nils, .nils => true
  | .usl k xs, .usl k' ys => (match Nat.beq k k' with | true => goR xs ys | false => false)
  | _, _ => false
where
  goL : List (D T) → List (D T) → Bool
  | [], [] => true
  | x :: xs, y :: ys => (match D.same x y with | true => goL xs ys | false => false)
  | _, _ => false
  goR : List (List (D T)) → List (List (D T)) → Bool
  | [], [] => true
  | x :: xs, y :: ys => (match goL x y with | true => goR xs ys | false => false)
  | _, _ => false


mutual
theorem D.same_eq : ∀ (x y : D T), D.same x y = true → x = y
  | .bool a, y, h => by
    cases y <;> simp only [D.same, Bool.false_eq_true] at h
    rw [eq_of_beq h]
  | .int k a, y, h => by
    cases y <;> simp only [D.same, Bool.false_eq_true] at h
    split at h
    · rename_i h1; rw [sameKind_eq h1, eq_of_beq h]
    · cases h
  | .str s, y, h => by
    cases y <;> simp only [D.same, Bool.false_eq_true] at h
    rw [eq_of_beq h]
  | .nilp, y, h => by cases y <;> simp only [D.same, Bool.false_eq_true] at h <;> rfl
  | .nilm, y, h => by cases y <;> simp only [D.same, Bool.false_eq_true] at h <;> rfl
  | .nilf, y, h => by cases y <;> simp only [D.same, Bool.false_eq_true] at h <;> rfl
  | .nili, y, h => by cases y <;> simp only [D.same, Bool.false_eq_true] at h <;> rfl
  | .nils, y, h => by cases y <;> simp only [D.same, Bool.false_eq_true] at h <;> rfl
  | .sl e xs, y, h => by cases y <;> simp only [D.same, Bool.false_eq_true] at h
  | .usl k xs, .usl k' ys, h => by
    simp only [D.same] at h
    split at h
    · rename_i h1; rw [Nat.eq_of_beq_eq_true h1, goR_eq xs ys h]
    · cases h
  | .usl k xs, .bool _, h => by simp only [D.same, Bool.false_eq_true] at h
  | .usl k xs, .int _ _, h => by simp only [D.same, Bool.false_eq_true] at h
  | .usl k xs, .str _, h => by simp only [D.same, Bool.false_eq_true] at h
  | .usl k xs, .nilp, h => by simp only [D.same, Bool.false_eq_true] at h
  | .usl k xs, .nilm, h => by simp only [D.same, Bool.false_eq_true] at h
  | .usl k xs, .nilf, h => by simp only [D.same, Bool.false_eq_true] at h
  | .usl k xs, .nili, h => by simp only [D.same, Bool.false_eq_true] at h
  | .usl k xs, .nils, h => by simp only [D.same, Bool.false_eq_true] at h
  | .usl k xs, .sl _ _, h => by simp only [D.same, Bool.false_eq_true] at h
theorem goL_eq : ∀ (x y : List (D T)), D.same.goL x y = true → x = y
  | [], [], _ => rfl
  | [], _ :: _, h => by simp only [D.same.goL, Bool.false_eq_true] at h
  | _ :: _, [], h => by simp only [D.same.goL, Bool.false_eq_true] at h
  | x :: xs, y :: ys, h => by
    simp only [D.same.goL] at h
    split at h
    · rename_i h1; rw [D.same_eq x y h1, goL_eq xs ys h]
    · cases h
theorem goR_eq : ∀ (x y : List (List (D T))), D.same.goR x y = true → x = y
  | [], [], _ => rfl
  | [], _ :: _, h => by simp only [D.same.goR, Bool.false_eq_true] at h
  | _ :: _, [], h => by simp only [D.same.goR, Bool.false_eq_true] at h
  | x :: xs, y :: ys, h => by
    simp only [D.same.goR] at h
    split at h
    · rename_i h1; rw [goL_eq x y h1, goR_eq xs ys h]
    · cases h
end

def covDb : D T → D T → Bool
  | .usl _ xs, .nils => xs.isEmpty
  | x, y => D.same x y
theorem covD_self (x : D T) : covD x x := by
  cases x with
  | int k n =>
    show must (sameKind k k) (n = n)
    exact (must_iff _ _).2 ⟨by cases k <;> rfl, rfl⟩
  | bool b => rfl
  | str s => rfl
  | nilp => rfl
  | nilm => rfl
  | nilf => rfl
  | nili => rfl
  | nils => rfl
  | sl e xs => rfl
  | usl k xs => rfl
theorem covDb_ok {x y : D T} (h : covDb x y = true) : covD x y := by
  unfold covDb at h
  split at h
  · simpa [covD] using h
  · have e := D.same_eq _ _ h
    subst e
    exact covD_self x

def covCapb : Cap → Cap → Bool
  | .exact c, .exact c' => Nat.beq c c'
  | .least c, .exact c' => Nat.ble c c'
  | .least c, .least c' => Nat.ble c c'
  | .exact _, .least _ => false
theorem covCapb_ok {x y : Cap} (h : covCapb x y = true) : covCap x y := by
  cases x <;> cases y <;> simp only [covCapb, Bool.false_eq_true] at h <;> simp only [covCap] <;> first | exact Nat.eq_of_beq_eq_true h | exact Nat.le_of_ble_eq_true h

def covVb (ρ : List (Nat × Nat)) : V T → V T → Bool
  | .d x, .d y => covDb x y
  | .ptr i r o, .ptr j r' o' => nameIs ρ i j && Nat.beq r r' && Nat.beq o o'
  | .sl i off len cap, .sl j off' len' cap' => nameIs ρ i j && Nat.beq off off' && Nat.beq len len' && covCapb cap cap'
  | .agg vs, .agg us => goL ρ vs us
  | .tup vs, .tup us => goL ρ vs us
  | .fn f vs vs', .fn g us us' => Nat.beq f g && goL ρ vs us && goL ρ vs' us'
  | .undef, .undef => true
  | _, _ => false
where goL (ρ : List (Nat × Nat)) : List (V T) → List (V T) → Bool
  | [], [] => true
  | v :: vs, u :: us => (match covVb ρ v u with | true => goL ρ vs us | false => false)
  | _, _ => false

mutual
theorem covVb_ok (ρ : List (Nat × Nat)) : ∀ (v u : V T), covVb ρ v u = true → covV ρ v u
  | .d x, u, h => by cases u <;> simp only [covVb, Bool.false_eq_true] at h; exact covDb_ok h
  | .ptr i r o, u, h => by
    cases u <;> simp only [covVb, Bool.false_eq_true, Bool.and_eq_true] at h
    exact (must_iff _ _).2 ⟨h.1.1, Nat.eq_of_beq_eq_true h.1.2, Nat.eq_of_beq_eq_true h.2⟩
  | .sl i off len cap, u, h => by
    cases u <;> simp only [covVb, Bool.false_eq_true, Bool.and_eq_true] at h
    exact (must_iff _ _).2 ⟨h.1.1.1, Nat.eq_of_beq_eq_true h.1.1.2, Nat.eq_of_beq_eq_true h.1.2, covCapb_ok h.2⟩
  | .agg vs, .agg us, h => by simp only [covVb] at h; exact covVbL_ok ρ vs us h
  | .tup vs, .tup us, h => by simp only [covVb] at h; exact covVbL_ok ρ vs us h
  | .fn f vs vs', .fn g us us', h => by
    simp only [covVb, Bool.and_eq_true] at h
    exact (must_iff _ _).2 ⟨h.1.1, covVbL_ok ρ vs us h.1.2, covVbL_ok ρ vs' us' h.2⟩
  | .undef, u, h => by cases u <;> simp only [covVb, Bool.false_eq_true] at h; trivial
  | .fp _ _, u, h => by cases u <;> simp only [covVb, Bool.false_eq_true] at h
  | .mp _, u, h => by cases u <;> simp only [covVb, Bool.false_eq_true] at h
  | .it _, u, h => by cases u <;> simp only [covVb, Bool.false_eq_true] at h
  | .ifc _ _, u, h => by cases u <;> simp only [covVb, Bool.false_eq_true] at h
  | .any, u, h => by cases u <;> simp only [covVb, Bool.false_eq_true] at h
  | .agg _, .d _, h => by simp only [covVb, Bool.false_eq_true] at h
  | .agg _, .ptr _ _ _, h => by simp only [covVb, Bool.false_eq_true] at h
  | .agg _, .fp _ _, h => by simp only [covVb, Bool.false_eq_true] at h
  | .agg _, .sl _ _ _ _, h => by simp only [covVb, Bool.false_eq_true] at h
  | .agg _, .mp _, h => by simp only [covVb, Bool.false_eq_true] at h
  | .agg _, .it _, h => by simp only [covVb, Bool.false_eq_true] at h
  | .agg _, .fn _ _ _, h => by simp only [covVb, Bool.false_eq_true] at h
  | .agg _, .ifc _ _, h => by simp only [covVb, Bool.false_eq_true] at h
  | .agg _, .tup _, h => by simp only [covVb, Bool.false_eq_true] at h
  | .agg _, .undef, h => by simp only [covVb, Bool.false_eq_true] at h
  | .agg _, .any, h => by simp only [covVb, Bool.false_eq_true] at h
  | .tup _, .d _, h => by simp only [covVb, Bool.false_eq_true] at h
  | .tup _, .ptr _ _ _, h => by simp only [covVb, Bool.false_eq_true] at h
  | .tup _, .fp _ _, h => by simp only [covVb, Bool.false_eq_true] at h
  | .tup _, .sl _ _ _ _, h => by simp only [covVb, Bool.false_eq_true] at h
  | .tup _, .mp _, h => by simp only [covVb, Bool.false_eq_true] at h
  | .tup _, .it _, h => by simp only [covVb, Bool.false_eq_true] at h
  | .tup _, .fn _ _ _, h => by simp only [covVb, Bool.false_eq_true] at h
  | .tup _, .ifc _ _, h => by simp only [covVb, Bool.false_eq_true] at h
  | .tup _, .agg _, h => by simp only [covVb, Bool.false_eq_true] at h
  | .tup _, .undef, h => by simp only [covVb, Bool.false_eq_true] at h
  | .tup _, .any, h => by simp only [covVb, Bool.false_eq_true] at h
  | .fn _ _ _, .d _, h => by simp only [covVb, Bool.false_eq_true] at h
  | .fn _ _ _, .ptr _ _ _, h => by simp only [covVb, Bool.false_eq_true] at h
  | .fn _ _ _, .fp _ _, h => by simp only [covVb, Bool.false_eq_true] at h
  | .fn _ _ _, .sl _ _ _ _, h => by simp only [covVb, Bool.false_eq_true] at h
  | .fn _ _ _, .mp _, h => by simp only [covVb, Bool.false_eq_true] at h
  | .fn _ _ _, .it _, h => by simp only [covVb, Bool.false_eq_true] at h
  | .fn _ _ _, .agg _, h => by simp only [covVb, Bool.false_eq_true] at h
  | .fn _ _ _, .ifc _ _, h => by simp only [covVb, Bool.false_eq_true] at h
  | .fn _ _ _, .tup _, h => by simp only [covVb, Bool.false_eq_true] at h
  | .fn _ _ _, .undef, h => by simp only [covVb, Bool.false_eq_true] at h
  | .fn _ _ _, .any, h => by simp only [covVb, Bool.false_eq_true] at h
theorem covVbL_ok (ρ : List (Nat × Nat)) : ∀ (vs us : List (V T)), covVb.goL ρ vs us = true → covV.goL ρ vs us
  | [], [], _ => by simp only [covV.goL]
  | [], _ :: _, h => by simp only [covVb.goL, Bool.false_eq_true] at h
  | _ :: _, [], h => by simp only [covVb.goL, Bool.false_eq_true] at h
  | v :: vs, u :: us, h => by
    simp only [covVb.goL] at h
    split at h
    · rename_i h1
      simp only [covV.goL]
      exact ⟨covVb_ok ρ v u h1, covVbL_ok ρ vs us h⟩
    · cases h
end

def covRb (ρ : List (Nat × Nat)) : List (List (V T)) → List (List (V T)) → Bool
  | [], [] => true
  | r :: rs, s :: ss => (match covVb.goL ρ r s with | true => covRb ρ rs ss | false => false)
  | _, _ => false
theorem covRb_ok (ρ : List (Nat × Nat)) : ∀ (xs ys : List (List (V T))), covRb ρ xs ys = true → covR ρ xs ys
  | [], [], _ => by simp only [covR]
  | [], _ :: _, h => by simp only [covRb, Bool.false_eq_true] at h
  | _ :: _, [], h => by simp only [covRb, Bool.false_eq_true] at h
  | v :: vs, u :: us, h => by
    simp only [covRb] at h
    split at h
    · rename_i h1
      simp only [covR]
      exact ⟨covVbL_ok ρ v u h1, covRb_ok ρ vs us h⟩
    · cases h
def covOb (ρ : List (Nat × Nat)) : O T → O T → Bool
  | .rows k xs, .rows k' ys => (match Nat.beq k k' with | true => covRb ρ xs ys | false => false)
  | _, _ => false
theorem covOb_ok {ρ : List (Nat × Nat)} {x y : O T} (h : covOb ρ x y = true) : covO ρ x y := by
  unfold covOb at h
  split at h
  · split at h
    · rename_i h1; exact (must_iff _ _).2 ⟨h1, covRb_ok ρ _ _ h⟩
    · cases h
  · cases h

def covOutsb (ρ : List (Nat × Nat)) (h : Tr (O T)) : List (Nat × Option (O T)) → Bool
  | [] => true
  | (_, none) :: l => covOutsb ρ h l
  | (i, some o) :: l => (match lookN ρ i with
    | some j => (match h.get j with | some o' => (match covOb ρ o o' with | true => covOutsb ρ h l | false => false) | none => false)
    | none => false)
theorem covOutsb_ok {ρ : List (Nat × Nat)} {h : Tr (O T)} : ∀ {l : List (Nat × Option (O T))}, covOutsb ρ h l = true → covOuts ρ h l
  | [], _ => by simp only [covOuts]
  | (_, none) :: l, h' => by simp only [covOutsb] at h'; simp only [covOuts]; exact covOutsb_ok h'
  | (i, some o) :: l, h' => by
    simp only [covOutsb] at h'
    split at h'
    · rename_i j hj
      split at h'
      · rename_i o' ho
        split at h'
        · rename_i h1
          simp only [covOuts, hj, ho]
          exact ⟨covOb_ok h1, covOutsb_ok h'⟩
        · cases h'
      · cases h'
    · cases h'

def CovRb (n : Nat) (r : V T × Hp T) (u : V T) (os : List (Option (O T))) : Bool :=
  let ρ := findOuts n r.2.h r.1 u os
  (selfB ρ n && nodupN (ρ.map (·.2)) && (ρ.all fun p => Nat.blt p.1 os.length) && Nat.ble n os.length) && (covVb ρ u r.1 && covOutsb ρ r.2.h (at0 0 os))
theorem CovRb_ok {n : Nat} {r : V T × Hp T} {u : V T} {os : List (Option (O T))} (h : CovRb n r u os = true) : CovR n r u os := by
  unfold CovRb at h
  obtain ⟨h1, h2⟩ := Bool.and_eq_true_iff.1 h
  obtain ⟨h2, h3⟩ := Bool.and_eq_true_iff.1 h2
  exact (must_iff _ _).2 ⟨h1, covVb_ok _ _ _ h2, covOutsb_ok h3⟩

/-- A closed run: the one way that it takes. -/
def Out.goB {α : Type} : Out α → (α → Bool) → Bool
  | .ret a, f => f a
  | .need b o, f => (match b with | true => o.goB f | false => false)
  | .br b x y, f => (match b with | true => x.goB f | false => y.goB f)
  | .bad, _ => false
theorem Out.goB_ok {α : Type} {f : α → Bool} {Q : α → Prop} (hf : ∀ r, f r = true → Q r) : ∀ {o : Out α}, o.goB f = true → o.K Q
  | .ret a, h => hf a h
  | .need b o, h => by
    cases b with
    | true => exact (must_iff _ _).2 ⟨rfl, Out.goB_ok hf (o := o) h⟩
    | false => cases h
  | .br b x y, h => by
    cases b with
    | true => exact Out.goB_ok hf (o := x) h
    | false => exact Out.goB_ok hf (o := y) h
  | .bad, h => by cases h

/-- A call: its arguments, the objects that they name, the answer, what became of the objects. -/
structure Memo (T : Nat → Type) where
  args : List (V T)
  objs : List (O T)
  ans : V T
  outs : List (Option (O T))

def memoSpec (tab : List (Memo T)) : Spec T where
  α := Nat
  args n := (match tab[n]? with | some m => m.args | none => [])
  objs n := (match tab[n]? with | some m => m.objs | none => [])
  pre n := Nat.blt n tab.length
  out n := (match tab[n]? with | some m => .ret (m.ans, m.outs) | none => .bad)
end

section
variable {reg : Reg} {P : Program}
def covAll (ρ : List (Nat × Nat)) (g : Nat → Option (O reg.T)) : List (O reg.T) → List Nat → Bool
  | [], [] => true
  | o :: os, i :: is => (match g i with | some u => (match covOb ρ o u with | true => covAll ρ g os is | false => false) | none => false)
  | _, _ => false
def memoIs (args : List (V reg.T)) (g : Nat → Option (O reg.T)) (ρ : List Nat) (m : Memo reg.T) : Bool :=
  match covVb.goL (at0 0 ρ) (m.args.take 1) (args.take 1) with
  | true => (match covAll (at0 0 ρ) g m.objs ρ with
    | true => covVb.goL (at0 0 ρ) m.args args
    | false => false)
  | false => false
def memoAt (args : List (V reg.T)) (g : Nat → Option (O reg.T)) (ρ : List Nat) : List (Memo reg.T) → Nat → Option Nat
  | [], _ => none
  | m :: l, n => (match memoIs args g ρ m with | true => some n | false => memoAt args g ρ l (n + 1))
def memoFind (tab : List (Memo reg.T)) (args : List (V reg.T)) (g : Nat → Option (O reg.T)) : Option (Nat × List Nat) :=
  let ρ := reach g 1000 0 (V.names.goL args [])
  match memoAt args g ρ tab 0 with | some n => some (n, ρ) | none => none

theorem memoAt_ok {args : List (V reg.T)} {g : Nat → Option (O reg.T)} {ρ : List Nat} : ∀ {l : List (Memo reg.T)} {n k : Nat}, memoAt args g ρ l n = some k → ∃ m, n ≤ k ∧ l[k - n]? = some m ∧ memoIs args g ρ m = true
  | m :: l, n, k, h => by
    simp only [memoAt] at h
    split at h
    · rename_i h1
      cases h
      exact ⟨m, Nat.le_refl _, by simp, h1⟩
    · obtain ⟨m', h2, h3, h4⟩ := memoAt_ok h
      refine ⟨m', by omega, ?_, h4⟩
      rw [show k - n = (k - (n + 1)) + 1 by omega]
      simpa using h3
theorem covAll_ok {ρ' : List (Nat × Nat)} {g : Nat → Option (O reg.T)} : ∀ {os : List (O reg.T)} {is : List Nat}, covAll ρ' g os is = true → is.length = os.length ∧ ∀ (j : Nat) (o : O reg.T), os[j]? = some o → ∃ (i : Nat) (u : O reg.T), is[j]? = some i ∧ g i = some u ∧ covO ρ' o u
  | [], [], _ => ⟨rfl, fun j o h => by simp at h⟩
  | [], _ :: _, h => by simp only [covAll, Bool.false_eq_true] at h
  | _ :: _, [], h => by simp only [covAll, Bool.false_eq_true] at h
  | o :: os, i :: is, h => by
    simp only [covAll] at h
    split at h
    · rename_i u hu
      split at h
      · rename_i h1
        obtain ⟨h2, h3⟩ := covAll_ok h
        refine ⟨by simp [h2], fun j o' ho => ?_⟩
        cases j with
        | zero => simp at ho; subst ho; exact ⟨i, u, by simp, hu, covOb_ok h1⟩
        | succ j => simpa using h3 j o' (by simpa using ho)
      · cases h
    · cases h

theorem memoFind_ok {tab : List (Memo reg.T)} {args : List (V reg.T)} {g : Nat → Option (O reg.T)} {n : Nat} {ρ : List Nat} (h : memoFind tab args g = some (n, ρ)) : ∃ m, tab[n]? = some m ∧ memoIs args g ρ m = true := by
  have h : (match memoAt args g (reach g 1000 0 (V.names.goL args [])) tab 0 with | some n => some (n, reach g 1000 0 (V.names.goL args [])) | none => none) = some (n, ρ) := h
  split at h
  · rename_i k hk
    cases h
    obtain ⟨m, _, h2, h3⟩ := memoAt_ok hk
    exact ⟨m, h2, h3⟩
  · cases h
def memoMeet (tab : List (Memo reg.T)) : Meet (memoSpec tab) where
  find := memoFind tab
  ok := by
    intro args g a ρ h
    obtain ⟨m, h2, h3⟩ := memoFind_ok h
    unfold memoIs at h3
    split at h3
    · split at h3
      · rename_i h4
        obtain ⟨h5, h6⟩ := covAll_ok h4
        simp only [memoSpec, h2]
        exact ⟨covVbL_ok _ _ _ h3, h5, h6⟩
      · cases h3
    · cases h3

/-- A row of the table holds: the closed run says so. -/
def memoRow (P : Program) (hd : Hd reg.T) (fuel : Nat) (f : FuncId) (m : Memo reg.T) : Bool :=
  ((exFun P hd fuel f m.args (canH m.objs)).bind (tidyLeaf reg (canH m.objs))).goB fun r => CovRb m.objs.length r m.ans m.outs
structure MemoRow (P : Program) (hd : Hd reg.T) (fuel : Nat) (f : FuncId) (m : Memo reg.T) : Prop where
  mk ::
  is : memoRow P hd fuel f m = true

theorem memoSpec_ok (hm : P.follows .mixedOrders = true) {hd : Hd reg.T} (hHd : HdSound P hd) (hno : ∀ (f : FuncId) fn, P.funcs[f]? = some fn → fn.body.isNone = false → (fn.name == "runtime.NumGoroutine") = false) {fuel : Nat} {f : FuncId} {tab : List (Memo reg.T)}
    (ht : There P f) (h : ∀ m ∈ tab, MemoRow P hd fuel f m) : SpecOk P f (memoSpec tab) := by
  refine specOk_of_leaf hm hHd hno (fuel := fuel) ht fun (a : Nat) hp => ?_
  have hp : Nat.blt a tab.length = true := hp
  have hp : a < tab.length := by simpa using hp
  have e : tab[a]? = some tab[a] := List.getElem?_eq_getElem hp
  have h1 := (h tab[a] (List.getElem_mem hp)).is
  simp only [memoSpec, e]
  exact Out.goB_ok (fun r hr => (CovRb_ok hr : CovR _ _ _ _)) h1
end
end Go.W
