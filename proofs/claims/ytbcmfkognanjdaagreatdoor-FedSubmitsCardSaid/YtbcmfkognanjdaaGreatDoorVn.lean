/- Tables looked up by trees. No conditions. -/
import Derived.Test.YtbcmfkognanjdaaGreatDoorVm
namespace Go.W
open Go Go.RowKit
section
variable {T : Nat → Type}
/-- The i-th name of a row stands for j: new when i is the next. -/
def pushW {β : Type} (i j c : Nat) (b a : List Nat) (k : Nat → List Nat → List Nat → β) : β :=
  match Nat.beq i c with
  | true => k (Nat.add c 1) (j :: b) (j :: a)
  | false => k c b a
def V.walk {β : Type} : V T → V T → Nat → List Nat → List Nat → (Nat → List Nat → List Nat → β) → β
  | .ptr i _ _, .ptr j _ _, c, b, a, k => pushW i j c b a k
  | .sl i _ _ _, .sl j _ _ _, c, b, a, k => pushW i j c b a k
  | .mp i, .mp j, c, b, a, k => pushW i j c b a k
  | .agg vs, .agg us, c, b, a, k => goL vs us c b a k
  | .tup vs, .tup us, c, b, a, k => goL vs us c b a k
  | .fn _ vs vs', .fn _ us us', c, b, a, k => goL vs us c b a fun c b a => goL vs' us' c b a k
  | _, _, c, b, a, k => k c b a
where goL {β : Type} : List (V T) → List (V T) → Nat → List Nat → List Nat → (Nat → List Nat → List Nat → β) → β
  | v :: vs, u :: us, c, b, a, k => V.walk v u c b a fun c b a => goL vs us c b a k
  | _, _, c, b, a, k => k c b a
def walkR {β : Type} : List (List (V T)) → List (List (V T)) → Nat → List Nat → List Nat → (Nat → List Nat → List Nat → β) → β
  | r :: rs, s :: ss, c, b, a, k => V.walk.goL r s c b a fun c b a => walkR rs ss c b a k
  | _, _, c, b, a, k => k c b a
def walkM {β : Type} : List ((V T × V T) × Nat) → List ((V T × V T) × Nat) → Nat → List Nat → List Nat → (Nat → List Nat → List Nat → β) → β
  | e :: es, u :: us, c, b, a, k => V.walk e.1.1 u.1.1 c b a fun c b a => V.walk e.1.2 u.1.2 c b a fun c b a => walkM es us c b a k
  | _, _, c, b, a, k => k c b a
def O.walk {β : Type} : O T → O T → Nat → List Nat → List Nat → (Nat → List Nat → List Nat → β) → β
  | .rows _ xs, .rows _ ys, c, b, a, k => walkR xs ys c b a k
  | .map _ es, .map _ us, c, b, a, k => walkM es us c b a k
  | _, _, c, b, a, k => k c b a
/-- What the objects of a row stand for, one after another (behind c, b, a: how many names, those not walked, all, last first). -/
def walkAll (g : Nat → Option (O T)) : List (O T) → List Nat → Nat → List Nat → List Nat → Option (List Nat)
  | [], _, _, _, a => some a.reverse
  | o :: os, f, c, b, a => (match f with
    | i :: f => (match g i with | some u => O.walk o u c b a (walkAll g os f) | none => none)
    | [] => (match b.reverse with
      | i :: f => (match g i with | some u => O.walk o u c [] a (walkAll g os f) | none => none)
      | [] => none))

/-- The first stands for the second, names by a test. -/
def covVg (is : Nat → Nat → Bool) : V T → V T → Bool
  | .d x, .d y => covDb x y
  | .ptr i r o, .ptr j r' o' => is i j && Nat.beq r r' && Nat.beq o o'
  | .sl i off len cap, .sl j off' len' cap' => is i j && Nat.beq off off' && Nat.beq len len' && covCapb cap cap'
  | .mp i, .mp j => is i j
  | .agg vs, .agg us => goL is vs us
  | .tup vs, .tup us => goL is vs us
  | .fn f vs vs', .fn g us us' => Nat.beq f g && goL is vs us && goL is vs' us'
  | .undef, .undef => true
  | _, _ => false
where goL (is : Nat → Nat → Bool) : List (V T) → List (V T) → Bool
  | [], [] => true
  | v :: vs, u :: us => (match covVg is v u with | true => goL is vs us | false => false)
  | _, _ => false
theorem covVg_ok {is : Nat → Nat → Bool} {ρ : List (Nat × Nat)} (hi : ∀ i j, is i j = true → nameIs ρ i j = true) : ∀ (n : Nat), (∀ (v u : V T), SizeOf.sizeOf v < n → covVg is v u = true → covVb ρ v u = true) ∧ ∀ (vs us : List (V T)), SizeOf.sizeOf vs < n → covVg.goL is vs us = true → covVb.goL ρ vs us = true := by
  intro n
  induction n with
  | zero => exact ⟨fun _ _ h => by omega, fun _ _ h => by omega⟩
  | succ n ih =>
    refine ⟨fun v u hs h => ?_, fun vs us hs h => ?_⟩
    · cases v <;> cases u <;> simp only [covVg, Bool.false_eq_true, Bool.and_eq_true] at h <;> simp only [covVb, Bool.and_eq_true]
      case d.d => exact h
      case ptr.ptr => exact ⟨⟨hi _ _ h.1.1, h.1.2⟩, h.2⟩
      case sl.sl => exact ⟨⟨⟨hi _ _ h.1.1.1, h.1.1.2⟩, h.1.2⟩, h.2⟩
      case mp.mp => exact hi _ _ h
      case agg.agg => simp only [V.agg.sizeOf_spec] at hs; exact ih.2 _ _ (by omega) h
      case tup.tup => simp only [V.tup.sizeOf_spec] at hs; exact ih.2 _ _ (by omega) h
      case fn.fn => simp only [V.fn.sizeOf_spec] at hs; exact ⟨⟨h.1.1, ih.2 _ _ (by omega) h.1.2⟩, ih.2 _ _ (by omega) h.2⟩
    · cases vs <;> cases us <;> simp only [covVg.goL, Bool.false_eq_true] at h <;> simp only [covVb.goL]
      split at h
      · rename_i h1
        simp only [List.cons.sizeOf_spec] at hs
        rw [ih.1 _ _ (by omega) h1]
        exact ih.2 _ _ (by omega) h
      · cases h
def covRg (is : Nat → Nat → Bool) : List (List (V T)) → List (List (V T)) → Bool
  | [], [] => true
  | r :: rs, s :: ss => (match covVg.goL is r s with | true => covRg is rs ss | false => false)
  | _, _ => false
def covMg (is : Nat → Nat → Bool) : List ((V T × V T) × Nat) → List ((V T × V T) × Nat) → Bool
  | [], [] => true
  | ((k, v), n) :: es, ((k', v'), n') :: us => (match Nat.beq n n' && covVg is k k' && covVg is v v' with | true => covMg is es us | false => false)
  | _, _ => false
def covOg (is : Nat → Nat → Bool) : O T → O T → Bool
  | .map c es, .map c' us => (match Nat.beq c c' with | true => covMg is es us | false => false)
  | .rows k xs, .rows k' ys => (match Nat.beq k k' with | true => covRg is xs ys | false => false)
  | _, _ => false
theorem covOg_ok {is : Nat → Nat → Bool} {ρ : List (Nat × Nat)} (hi : ∀ i j, is i j = true → nameIs ρ i j = true) {x y : O T} (h : covOg is x y = true) : covOb ρ x y = true := by
  have hR : ∀ (xs ys : List (List (V T))), covRg is xs ys = true → covRb ρ xs ys = true := by
    intro xs
    induction xs with
    | nil => intro ys h; cases ys <;> simp only [covRg, Bool.false_eq_true] at h ⊢ <;> simp only [covRb]
    | cons x xs ih =>
      intro ys h
      cases ys with
      | nil => simp only [covRg, Bool.false_eq_true] at h
      | cons y ys =>
        simp only [covRg] at h
        split at h
        · rename_i h1
          simp only [covRb, (covVg_ok hi _).2 _ _ (Nat.lt_succ_self _) h1]
          exact ih _ h
        · cases h
  have hM : ∀ (xs ys : List ((V T × V T) × Nat)), covMg is xs ys = true → covMb ρ xs ys = true := by
    intro xs
    induction xs with
    | nil => intro ys h; cases ys <;> simp only [covMg, Bool.false_eq_true] at h ⊢ <;> simp only [covMb]
    | cons x xs ih =>
      intro ys h
      cases ys with
      | nil => simp only [covMg, Bool.false_eq_true] at h
      | cons y ys =>
        simp only [covMg] at h
        split at h
        · rename_i h1
          simp only [Bool.and_eq_true] at h1
          simp only [covMb, h1.1.1, (covVg_ok hi _).1 _ _ (Nat.lt_succ_self _) h1.1.2, (covVg_ok hi _).1 _ _ (Nat.lt_succ_self _) h1.2, Bool.and_self]
          exact ih _ h
        · cases h
  cases x <;> cases y <;> simp only [covOg, Bool.false_eq_true] at h <;> simp only [covOb]
  · split at h
    · rename_i h1; rw [h1]; exact hR _ _ h
    · cases h
  · split at h
    · rename_i h1; rw [h1]; exact hM _ _ h
    · cases h
/-- A list as a tree. -/
def trL {α : Type} (l : List α) : Tr α := setAll (at0 0 l) .e
theorem trL_get {α : Type} {l : List α} (h : l.length ≤ 1000000000) (j : Nat) : (trL l).get j = l[j]? := by
  have key : ∀ (l : List α) (n : Nat), n + l.length ≤ 1000000000 → (setAll (at0 n l) .e).get j = if n ≤ j then l[j - n]? else none := by
    intro l
    induction l with
    | nil => intro n _; simp [at0, setAll, Tr.get_e]
    | cons o l ih =>
      intro n hn
      simp only [List.length_cons] at hn
      simp only [at0, setAll]
      rw [Tr.get_set (by unfold Tr.ok; simp; omega), ih (n + 1) (by omega)]
      by_cases hj : j = n
      · subst hj; simp
      · rw [if_neg hj]
        by_cases h1 : n ≤ j
        · rw [if_pos h1, if_pos (by omega), show j - n = (j - (n + 1)) + 1 by omega]; simp
        · rw [if_neg h1, if_neg (by omega)]
  simpa [trL] using key l 0 (by omega)
def isT (τ : Tr Nat) (i j : Nat) : Bool := match τ.get i with | some k => Nat.beq k j | none => false
theorem isT_ok {l : List Nat} (h : l.length ≤ 1000000000) {i j : Nat} (hi : isT (trL l) i j = true) : nameIs (at0 0 l) i j = true := by
  unfold isT at hi
  rw [trL_get h] at hi
  unfold nameIs
  rw [lookN_at0, if_pos (Nat.zero_le _), Nat.sub_zero]
  cases hl : l[i]? with
  | none => rw [hl] at hi; cases hi
  | some k => rw [hl] at hi; exact hi
def nodupT : List Nat → Tr Bool → Bool
  | [], _ => true
  | i :: l, t => (match t.get i with | some _ => false | none => (match Tr.ok i with | true => nodupT l (t.set i (some true)) | false => false))
theorem nodupT_ok : ∀ {l : List Nat} {t : Tr Bool}, nodupT l t = true → nodupN l = true ∧ (∀ i ∈ l, t.get i = none) ∧ ∀ i ∈ l, Tr.ok i = true
  | [], t, _ => ⟨rfl, fun _ h => by simp at h, fun _ h => by simp at h⟩
  | i :: l, t, h => by
    simp only [nodupT] at h
    split at h
    · cases h
    · rename_i hg
      split at h
      · rename_i hk
        obtain ⟨h1, h2, h3⟩ := nodupT_ok h
        have hn : i ∉ l := fun hm => by
          have := h2 i hm
          rw [Tr.get_set hk, if_pos rfl] at this
          cases this
        refine ⟨?_, fun j hj => ?_, fun j hj => ?_⟩
        · simp only [nodupN, h1, Bool.and_true, Bool.not_eq_true']
          cases hb : memN l i with
          | false => rfl
          | true => exact (hn (memN_iff.1 hb)).elim
        · rcases List.mem_cons.1 hj with rfl | hj'
          · exact hg
          · have := h2 j hj'
            have hne : j ≠ i := fun e => hn (by rw [← e]; exact hj')
            rw [Tr.get_set hk, if_neg hne] at this
            exact this
        · rcases List.mem_cons.1 hj with rfl | hj
          · exact hk
          · exact h3 j hj
      · cases h
end
section
variable {reg : Reg} {P : Program}
def covAllT (is : Nat → Nat → Bool) (g : Nat → Option (O reg.T)) : List (O reg.T) → List Nat → Bool
  | [], [] => true
  | o :: os, i :: js => (match g i with | some u => (match covOg is o u with | true => covAllT is g os js | false => false) | none => false)
  | _, _ => false
theorem covAllT_ok {is : Nat → Nat → Bool} {ρ : List (Nat × Nat)} (hi : ∀ i j, is i j = true → nameIs ρ i j = true) {g : Nat → Option (O reg.T)} : ∀ {os : List (O reg.T)} {js : List Nat}, covAllT is g os js = true → covAll ρ g os js = true
  | [], [], _ => rfl
  | [], _ :: _, h => by simp only [covAllT, Bool.false_eq_true] at h
  | _ :: _, [], h => by simp only [covAllT, Bool.false_eq_true] at h
  | o :: os, i :: js, h => by
    simp only [covAllT] at h
    split at h
    · rename_i u hu
      split at h
      · rename_i h1
        simp only [covAll, hu, covOg_ok hi h1]
        exact covAllT_ok hi h
      · cases h
    · cases h
/-- The names of a row. -/
def walkT (args : List (V reg.T)) (g : Nat → Option (O reg.T)) (m : Memo reg.T) : Option (List Nat) :=
  V.walk.goL m.args args 0 [] [] (walkAll g m.objs [])
def memoIsT (args : List (V reg.T)) (g : Nat → Option (O reg.T)) (m : Memo reg.T) : Option (List Nat) :=
  match covVg.goL (fun _ _ => true) m.args args with
  | false => none
  | true => (match walkT args g m with
    | none => none
    | some ρ => (match Nat.ble ρ.length 1000000 && covAllT (isT (trL ρ)) g m.objs ρ && covVg.goL (isT (trL ρ)) m.args args with
      | true => some ρ
      | false => none))
def memoAtT (args : List (V reg.T)) (g : Nat → Option (O reg.T)) : List (Memo reg.T) → Nat → Option (Nat × List Nat)
  | [], _ => none
  | m :: l, n => (match memoIsT args g m with | some ρ => some (n, ρ) | none => memoAtT args g l (Nat.add n 1))
theorem memoAtT_ok {args : List (V reg.T)} {g : Nat → Option (O reg.T)} {ρ : List Nat} : ∀ {l : List (Memo reg.T)} {n k : Nat}, memoAtT args g l n = some (k, ρ) → ∃ m, n ≤ k ∧ l[k - n]? = some m ∧ memoIsT args g m = some ρ
  | [], n, k, h => by simp [memoAtT] at h
  | m :: l, n, k, h => by
    simp only [memoAtT] at h
    split at h
    · rename_i h1
      cases h
      exact ⟨m, Nat.le_refl _, by simp, h1⟩
    · obtain ⟨m', h2, h3, h4⟩ := memoAtT_ok h
      have h2 : n + 1 ≤ k := h2
      have h3 : l[k - (n + 1)]? = some m' := h3
      refine ⟨m', by omega, ?_, h4⟩
      rw [show k - n = (k - (n + 1)) + 1 by omega]
      simpa using h3
def findT (tab : List (Memo reg.T)) (args : List (V reg.T)) (g : Nat → Option (O reg.T)) : Option (Nat × List Nat) := memoAtT args g tab 0
theorem memoIsT_ok {args : List (V reg.T)} {g : Nat → Option (O reg.T)} {m : Memo reg.T} {ρ : List Nat} (h : memoIsT args g m = some ρ) : ρ.length ≤ 1000000 ∧ covAll (at0 0 ρ) g m.objs ρ = true ∧ covVb.goL (at0 0 ρ) m.args args = true := by
  unfold memoIsT at h
  split at h
  · cases h
  · split at h
    · cases h
    · split at h
      · rename_i h1
        cases h
        simp only [Bool.and_eq_true] at h1
        have hl : ρ.length ≤ 1000000 := Nat.le_of_ble_eq_true h1.1.1
        exact ⟨hl, covAllT_ok (fun i j => isT_ok (by omega)) h1.1.2, (covVg_ok (fun i j => isT_ok (by omega)) _).2 _ _ (Nat.lt_succ_self _) h1.2⟩
      · cases h
theorem findT_ok {tab : List (Memo reg.T)} {args : List (V reg.T)} {g : Nat → Option (O reg.T)} {n : Nat} {ρ : List Nat} (h : findT tab args g = some (n, ρ)) : ∃ m, tab[n]? = some m ∧ memoIsT args g m = some ρ := by
  obtain ⟨m, _, h2, h3⟩ := memoAtT_ok h
  exact ⟨m, h2, h3⟩
def meetT (tab : List (Memo reg.T)) : Meet (memoSpec tab) where
  find := findT tab
  ok := by
    intro args g a ρ h
    obtain ⟨m, h2, h3⟩ := findT_ok h
    obtain ⟨_, h4, h5⟩ := memoIsT_ok h3
    obtain ⟨h6, h7⟩ := covAll_ok h4
    simp only [memoSpec, h2]
    exact ⟨covVbL_ok _ _ _ h5, h6, h7⟩
def newT (nx n : Nat) (τ : Tr Nat) (j : Nat) : Nat := match τ.get j with | some i => i | none => Nat.add nx (Nat.sub j n)
theorem newT_eq {ρ : List Nat} (h : ρ.length ≤ 1000000) (nx : Nat) : newT nx ρ.length (trL ρ) = newN ρ.length nx ρ := by
  funext j
  unfold newT newN
  rw [trL_get (by omega)]
  by_cases hj : j < ρ.length
  · rw [List.getElem?_eq_getElem hj, show Nat.blt j ρ.length = true by simpa using hj]
    simp [List.getD, hj]
  · rw [List.getElem?_eq_none (by omega), show Nat.blt j ρ.length = false by cases hb : Nat.blt j ρ.length with | false => rfl | true => exact absurd (by simpa using hb) hj]
noncomputable def tabT (tab : List (Memo reg.T)) (args : List (V reg.T)) (h : Hp reg.T) (other : Out (V reg.T × Hp reg.T)) : Out (V reg.T × Hp reg.T) :=
  match findT tab args h.get with
  | none => other
  | some (k, ρ) => (match tab[k]? with
    | none => .bad
    | some m =>
      let n := ρ.length
      let nx := Nat.add h.nx (Nat.sub m.outs.length n)
      Out.ask (nodupT ρ .e && Nat.ble n m.outs.length && Tr.ok nx) (.ret (m.ans.ren (newT h.nx n (trL ρ)), ⟨setOuts (newT h.nx n (trL ρ)) (at0 0 m.outs) h.h, nx, ρ ++ h.wr⟩)))
theorem tabT_ok {tab : List (Memo reg.T)} {args : List (V reg.T)} {h : Hp reg.T} {other : Out (V reg.T × Hp reg.T)} {Q : V reg.T × Hp reg.T → Prop} (hq : (tabT tab args h other).K Q) : ((memoSpec tab).con (meetT tab) args h).K Q ∨ other.K Q := by
  unfold tabT at hq
  split at hq
  · exact .inr hq
  · rename_i k ρ hf
    left
    obtain ⟨m, h2, h3⟩ := findT_ok hf
    have hl := (memoIsT_ok h3).1
    rw [h2] at hq
    obtain ⟨hc, hq⟩ := Out.K_ask.1 hq
    simp only [Bool.and_eq_true] at hc
    obtain ⟨h5, _, h6⟩ := nodupT_ok hc.1.1
    unfold Spec.con
    have hf' : (meetT tab).find args h.get = some (k, ρ) := hf
    rw [hf']
    refine Out.K_need.2 ⟨?_, ?_⟩
    · simpa [memoSpec] using (List.getElem?_eq_some_iff.1 h2).1
    · have ho : (memoSpec tab).out k = .ret (m.ans, m.outs) := by simp only [memoSpec]; rw [h2]
      rw [ho]
      refine Out.K_ask.2 ⟨?_, ?_⟩
      · simp only [Bool.and_eq_true, List.all_eq_true]
        exact ⟨⟨⟨h5, h6⟩, hc.1.2⟩, hc.2⟩
      · rw [newT_eq hl] at hq
        exact hq
/-- By the table, trees for names; else by the runs in all orders. -/
noncomputable def uMemoT (P : Program) (C : Con reg.T) (fuel n : Nat) (f : FuncId) (tab : List (Memo reg.T)) : List (V reg.T) → Hp reg.T → Out (V reg.T × Hp reg.T) := fun args h => tabT tab args h (exFunQ P (hdF P C fuel n) fuel f args h)
theorem memoT_ok {P : Program} (hm : P.follows .mixedOrders = true) (hno : ∀ (f : FuncId) fn, P.funcs[f]? = some fn → fn.body.isNone = false → (fn.name == "runtime.NumGoroutine") = false) {C : Con reg.T} (hC : ConOk P C) {fuel n : Nat} {f : FuncId} {tab : List (Memo reg.T)}
    (ht : There P f) (h : ∀ m ∈ tab, RowQ P C fuel n f m) (hs : ∀ m ∈ tab, m.objs.length ≤ 1000000) (args : List (V reg.T)) (hp : Hp reg.T) (Q : V reg.T × Hp reg.T → Prop) (hq : (uMemoT P C fuel n f tab args hp).K Q) :
    There P f ∧ ∀ N F φ w cargs, (∀ r, Q r → Fresh N hp.nx r.2.nx) → HR N F φ hp w → LRel F w φ args cargs → Calls P f cargs w (CallPost N F φ hp w Q) := by
  rcases tabT_ok hq with hq | hq
  · exact Spec.con_ok (specQ hm hno hC ht h) (meetT tab) (memo_size hs) args hp Q hq
  · exact exFunQ_sound hm hno hC fuel n f args hp Q hq
end
end Go.W
