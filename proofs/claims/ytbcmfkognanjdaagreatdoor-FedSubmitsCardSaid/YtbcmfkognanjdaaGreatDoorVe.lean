/- Contracts; rows of several variables; tables. No conditions. -/
import Derived.Test.YtbcmfkognanjdaaGreatDoorVd
namespace Go.W
open Go Go.RowKit

section
variable {T : Nat → Type}
/-- A value under other names. -/
def V.ren (σ : Nat → Nat) : V T → V T
  | .ptr i r o => .ptr (σ i) r o
  | .sl i off len cap => .sl (σ i) off len cap
  | .mp i => .mp (σ i)
  | .it i => .it (σ i)
  | .fn f vs us => .fn f (goL σ vs) (goL σ us)
  | .ifc t v => .ifc t (V.ren σ v)
  | .agg vs => .agg (goL σ vs)
  | .tup vs => .tup (goL σ vs)
  | v => v
where goL (σ : Nat → Nat) : List (V T) → List (V T)
  | [] => []
  | v :: vs => V.ren σ v :: goL σ vs
def O.ren (σ : Nat → Nat) : O T → O T
  | .rows k xs => .rows k (xs.map (V.ren.goL σ))
  | .trows e xs => .trows e xs
  | .map c es => .map c (es.map fun e => ((V.ren σ e.1.1, V.ren σ e.1.2), e.2))
  | .sit s p => .sit s p
  | .mit m a b c => .mit (m.map σ) a b c

/-- A list, at the numbers from n on. -/
def at0 {α : Type} : Nat → List α → List (Nat × α)
  | _, [] => []
  | n, x :: l => (n, x) :: at0 (n + 1) l

/-- A heap of the objects of a list. -/
def canH (os : List (O T)) : Hp T := ⟨setAll (at0 0 os) .e, os.length, []⟩

/-- What a function does: its arguments, the objects that they name (an object's name is its place), what is to hold; the answer, and what became of the objects (new ones behind). -/
structure Spec (T : Nat → Type) where
  α : Type
  args : α → List (V T)
  objs : α → List (O T)
  pre : α → Bool
  out : α → Out (V T × List (Option (O T)))

/-- Whatever comes out. -/
def Out.All {α : Type} : Out α → (α → Prop) → Prop
  | .ret a, Q => Q a
  | .need b o, Q => b = true → o.All Q
  | .br b x y, Q => branch b (x.All Q) (y.All Q)
  | .bad, _ => True
theorem Out.All_of {α : Type} {o : Out α} {Q : α → Prop} : o.All Q → ∀ r, o.K (· = r) → Q r := by
  induction o with
  | ret a => intro h r hr; have hr : a = r := hr; subst hr; exact h
  | need b o ih => intro h r hr; obtain ⟨h1, h2⟩ := (must_iff _ _).1 hr; exact ih (h h1) r h2
  | br b x y ihx ihy => intro h r hr; simp only [Out.All, Out.K] at h hr; cases b <;> simp only [branch] at h hr <;> first | exact ihx h r hr | exact ihy h r hr
  | bad => intro _ r hr; exact hr.elim

def covOuts (ρ : List (Nat × Nat)) (h : Tr (O T)) : List (Nat × Option (O T)) → Prop
  | [] => True
  | (_, none) :: l => covOuts ρ h l
  | (i, some o) :: l => (match lookN ρ i with
    | some j => (match h.get j with | some o' => covO ρ o o' ∧ covOuts ρ h l | none => False)
    | none => False)

def pairsOuts (h : Tr (O T)) : List (Nat × Option (O T)) → List (Nat × Nat) → List (Nat × Nat)
  | [], l => l
  | (_, none) :: r, l => pairsOuts h r l
  | (i, some o) :: r, l => pairsOuts h r (match lookN l i with
    | some j => (match o, h.get j with | .rows _ xs, some (.rows _ ys) => pairsR xs ys l | .map _ es, some (.map _ us) => pairsM es us l | _, _ => l)
    | none => l)

def findOuts (n : Nat) (h : Tr (O T)) (v u : V T) (os : List (Option (O T))) : List (Nat × Nat) := pairsOuts h (at0 0 os) (V.pairs u v (selfN n))

/-- An answer that stands for what the contract says. -/
def CovR (n : Nat) (r : V T × Hp T) (u : V T) (os : List (Option (O T))) : Prop :=
  let ρ := findOuts n r.2.h r.1 u os
  must (selfB ρ n && nodupN (ρ.map (·.2)) && (ρ.all fun p => Nat.blt p.1 os.length) && Nat.ble n os.length) (covV ρ u r.1 ∧ covOuts ρ r.2.h (at0 0 os))
end

section
variable {reg : Reg} {P : Program}

theorem at0_get {α : Type} : ∀ (n : Nat) (l : List α) (j : Nat) (x : α), (j, x) ∈ at0 n l ↔ n ≤ j ∧ l[j - n]? = some x
  | n, [], j, x => by simp [at0]
  | n, y :: l, j, x => by
    simp only [at0, List.mem_cons, Prod.mk.injEq, at0_get (n + 1) l j x]
    constructor
    · rintro (⟨rfl, rfl⟩ | ⟨h1, h2⟩)
      · simp
      · refine ⟨by omega, ?_⟩
        rw [show j - n = (j - (n + 1)) + 1 by omega]
        simpa using h2
    · rintro ⟨h1, h2⟩
      by_cases h : j = n
      · subst h; simp at h2; exact .inl ⟨rfl, h2.symm⟩
      · right
        refine ⟨by omega, ?_⟩
        rw [show j - n = (j - (n + 1)) + 1 by omega] at h2
        simpa using h2

theorem covOuts_get {ρ : List (Nat × Nat)} {h : Tr (O reg.T)} : ∀ {l : List (Nat × Option (O reg.T))}, covOuts ρ h l → ∀ {i o}, (i, some o) ∈ l → ∃ j u, lookN ρ i = some j ∧ h.get j = some u ∧ covO ρ o u
  | (k, none) :: l, hc, i, o, hm => by
    rcases List.mem_cons.1 hm with hm | hm
    · cases hm
    · exact covOuts_get (by simpa only [covOuts] using hc) hm
  | (k, some x) :: l, hc, i, o, hm => by
    simp only [covOuts] at hc
    split at hc
    · rename_i j hj
      split at hc
      · rename_i u hu
        rcases List.mem_cons.1 hm with hm | hm
        · cases hm; exact ⟨j, u, hj, hu, hc.1⟩
        · exact covOuts_get hc.2 hm
      · exact hc.elim
    · exact hc.elim

theorem renL_map {T : Nat → Type} (σ : Nat → Nat) : ∀ vs : List (V T), V.ren.goL σ vs = vs.map (V.ren σ)
  | [] => rfl
  | v :: vs => by simp [V.ren.goL, renL_map σ vs]

theorem ren_solid {T : Nat → Type} {σ : Nat → Nat} {v : V T} : (v.ren σ).solid = v.solid := by cases v <;> simp [V.ren, V.solid]

theorem getD_ren {σ : Nat → Nat} {vs : List (V reg.T)} {j : Nat} (hj : j < vs.length) : (V.ren.goL σ vs).getD j .any = (vs.getD j .any).ren σ := by
  rw [renL_map, getD_map_lt _ _ _ _ .any hj]
theorem len_ren {σ : Nat → Nat} {vs : List (V reg.T)} : (V.ren.goL σ vs).length = vs.length := by rw [renL_map, List.length_map]

theorem ren_rel {F : Nat → Prop} {w : World} {φ φ' : Phi} {σ : Nat → Nat} (hφ : ∀ i p, φ i = some p → φ' (σ i) = some p) {v : V reg.T} {cv : Value} (h : VRel reg F w φ v cv) : VRel reg F w φ' (v.ren σ) cv := by
  have lists : ∀ {vs : List (V reg.T)} {cs : Array Value}, (∀ j, j < vs.length → VRel reg F w φ' ((vs.getD j .any).ren σ) (cs.getD j undef)) → ∀ j, j < (V.ren.goL σ vs).length → VRel reg F w φ' ((V.ren.goL σ vs).getD j .any) (cs.getD j undef) := by
    intro vs cs ih j hj
    rw [len_ren] at hj
    rw [getD_ren hj]
    exact ih j hj
  induction h with
  | d x v hd => exact .d x v hd
  | ptr i r o b s k z hp => exact .ptr _ r o b s k z (hφ _ _ hp)
  | fp row o a C t fz hFa hb hz hr => exact .fp row o a C t fz hFa hb hz hr
  | sl j off len cap b s k z cap' hp hc hl hm' hz => exact .sl _ off len cap b s k z cap' (hφ _ _ hp) hc hl hm' hz
  | slz j off cap base hc hb => exact .slz _ off cap base hc hb
  | mp i b s hp => exact .mp _ b s (hφ _ _ hp)
  | it i b s hp => exact .it _ b s (hφ _ _ hp)
  | fn f caps fst cs fs hz _ hz' _ ih ih' => exact .fn f _ _ cs fs (by rw [len_ren]; exact hz) (lists ih) (by rw [len_ren]; exact hz') (lists ih')
  | agg vs cs hz _ ih => exact .agg _ cs (by rw [len_ren]; exact hz) (lists ih)
  | tup vs cs hz _ ih => exact .tup _ cs (by rw [len_ren]; exact hz) (lists ih)
  | ifc t v cv _ ih => exact .ifc t _ cv ih
  | undef => exact .undef
  | any v => exact .any v

theorem ren_ents {F : Nat → Prop} {w : World} {φ φ' : Phi} {σ : Nat → Nat} (hφ : ∀ i p, φ i = some p → φ' (σ i) = some p) {es : List ((V reg.T × V reg.T) × Nat)} {cs : List MapEntry} (h : Ents reg F w φ es cs) : Ents reg F w φ' (es.map fun e => ((V.ren σ e.1.1, V.ren σ e.1.2), e.2)) cs := by
  induction h with
  | nil => exact .nil
  | cons k v n c es cs hk hv hn _ ih => exact .cons _ _ n c _ cs (ren_rel hφ hk) (ren_rel hφ hv) hn ih
theorem ren_orel {F : Nat → Prop} {w : World} {φ φ' : Phi} {σ : Nat → Nat} (hφ : ∀ i p, φ i = some p → φ' (σ i) = some p) {j : Nat} (hn : φ j = none → φ' (σ j) = none) {o : O reg.T} (h : ORel reg F w φ j o) : ORel reg F w φ' (σ j) (o.ren σ) := by
  cases o with
  | map c es =>
    obtain ⟨b, ces, h1, h2, h3⟩ := h.map reg
    exact .inr (.inl ⟨c, _, b, ces, rfl, hφ _ _ h1, h2, ren_ents hφ h3⟩)
  | sit s p =>
    obtain ⟨b, h1, h2⟩ := h.sit reg
    exact .inr (.inr (.inl ⟨s, p, b, rfl, hφ _ _ h1, h2⟩))
  | mit m since seen last =>
    obtain ⟨b, mb, h1, h2, h3⟩ := h.mit reg
    refine .inr (.inr (.inr ⟨m.map σ, since, seen, last, b, mb, rfl, hφ _ _ h1, h2, ?_⟩))
    cases m with
    | none => exact h3
    | some j' => obtain ⟨c, s, e1, e2⟩ := h3; exact ⟨c, s, hφ _ _ e1, e2⟩
  | trows e xs =>
    obtain ⟨h0, h⟩ := h.rows reg rfl
    refine .inl ⟨h0, ?_⟩
    rcases h with ⟨h1, h2⟩ | ⟨b, s, C, t, fz, h1, h2, h3, h4⟩
    · exact .inl ⟨h1, hn h2⟩
    · refine .inr ⟨b, s, C, t, fz, hφ _ _ h1, h2, h3, ⟨h4.size, h4.len, ⟨h4.at_.wid, h4.at_.solid, fun r c hr hc => ?_⟩⟩⟩
      have h5 := h4.at_.rel r c hr hc
      have hw := h4.at_.wid r hr
      have hd : ∃ x, ((O.trows e xs).row reg r).getD c .any = .d x := by
        have hc : c < reg.k e := hc
        simp only [O.row, O.k] at hw ⊢
        rw [List.length_map] at hw
        exact ⟨_, getD_map_d _ _ (by omega)⟩
      obtain ⟨x, hx⟩ := hd
      show VRel reg F w φ' (((O.trows e xs).row reg r).getD c .any) _
      rw [hx] at h5 ⊢
      exact .d _ _ h5.d_inv
  | rows k xs =>
    obtain ⟨_, h⟩ := h.rows reg rfl
    refine .inl ⟨rfl, ?_⟩
    have hrow : ∀ r, r < xs.length → (O.rows k (xs.map (V.ren.goL σ))).row reg r = V.ren.goL σ (xs.getD r []) := fun r hr => by
      simp only [O.row]; rw [getD_map_lt _ _ _ _ [] hr]
    rcases h with ⟨h1, h2⟩ | ⟨b, s, C, t, fz, h1, h2, h3, h4⟩
    · exact .inl ⟨by simpa [O.len, O.ren] using h1, hn h2⟩
    · refine .inr ⟨b, s, C, t, fz, hφ _ _ h1, h2, h3, ⟨by simpa [O.len, O.k, O.ren] using h4.size, by simpa [O.len, O.ren] using h4.len, ⟨fun r hr => ?_, fun r c hr hc => ?_, fun r c hr hc => ?_⟩⟩⟩
      · have hr : r < xs.length := by simpa [O.len, O.ren] using hr
        show ((O.rows k (xs.map (V.ren.goL σ))).row reg r).length = _
        rw [hrow r hr, len_ren]
        exact h4.at_.wid r hr
      · have hr : r < xs.length := by simpa [O.len, O.ren] using hr
        have hw : (xs.getD r []).length = k := h4.at_.wid r hr
        show (((O.rows k (xs.map (V.ren.goL σ))).row reg r).getD c .any).solid = true
        rw [hrow r hr, getD_ren (by rw [hw]; exact hc), ren_solid]
        exact h4.at_.solid r c hr hc
      · have hr : r < xs.length := by simpa [O.len, O.ren] using hr
        have hw : (xs.getD r []).length = k := h4.at_.wid r hr
        show VRel reg F w φ' (((O.rows k (xs.map (V.ren.goL σ))).row reg r).getD c .any) _
        rw [hrow r hr, getD_ren (by rw [hw]; exact hc)]
        exact ren_rel hφ (h4.at_.rel r c hr hc)

/-- What is shown of a function, once. -/
def SpecOk (P : Program) (f : FuncId) (S : Spec reg.T) : Prop :=
  There P f ∧ ∀ a, S.pre a = true → ∀ F φ w cargs, HRel reg F φ (fun j => j < (S.objs a).length) (canH (S.objs a)).get w → LRel F w φ (S.args a) cargs →
    ∀ q, (S.out a).K (· = q) → Calls P f cargs w (CallPost (fun j => j < (S.objs a).length) F φ (canH (S.objs a)) w fun r => CovR (S.objs a).length r q.1 q.2)

/-- How a contract is met: the arguments, and which objects they name. -/
structure Meet (S : Spec reg.T) where
  find : List (V reg.T) → (Nat → Option (O reg.T)) → Option (S.α × List Nat)
  ok : ∀ (args : List (V reg.T)) (g : Nat → Option (O reg.T)) (a : S.α) (ρ : List Nat), find args g = some (a, ρ) → covV.goL (at0 0 ρ) (S.args a) args ∧ ρ.length = (S.objs a).length ∧ ∀ (j : Nat) (o : O reg.T), (S.objs a)[j]? = some o → ∃ (i : Nat) (u : O reg.T), ρ[j]? = some i ∧ g i = some u ∧ covO (at0 0 ρ) o u

/-- The names behind a call. -/
def newN (n nx : Nat) (ρ : List Nat) (j : Nat) : Nat := match Nat.blt j n with | true => ρ.getD j 0 | false => Nat.add nx (Nat.sub j n)

def setOuts {T : Nat → Type} (σ : Nat → Nat) : List (Nat × Option (O T)) → Tr (O T) → Tr (O T)
  | [], t => t
  | (j, o) :: l, t => (setOuts σ l t).set (σ j) (match o with | some o => some (o.ren σ) | none => none)

/-- The contract, as the evaluator takes it. -/
def Spec.con (S : Spec reg.T) (M : Meet S) (args : List (V reg.T)) (h : Hp reg.T) : Out (V reg.T × Hp reg.T) :=
  match M.find args h.get with
  | none => .bad
  | some (a, ρ) =>
    .need (S.pre a) ((S.out a).bind fun q =>
      let n := ρ.length
      let nx := Nat.add h.nx (Nat.sub q.2.length n)
      let σ := newN n h.nx ρ
      Out.ask (nodupN ρ && ρ.all Tr.ok && Nat.ble n q.2.length && Tr.ok nx) (.ret (q.1.ren σ, ⟨setOuts σ (at0 0 q.2) h.h, nx, ρ ++ h.wr⟩)))

theorem lookN_at0 {α : Type} : ∀ (n : Nat) (l : List α) (j : Nat), lookN (at0 n l) j = if n ≤ j then l[j - n]? else none
  | n, [], j => by simp [at0, lookN]
  | n, y :: l, j => by
    simp only [at0, lookN]
    cases hb : Nat.beq n j with
    | true =>
      have := Nat.eq_of_beq_eq_true hb
      subst this
      simp
    | false =>
      have hne : n ≠ j := fun e => by subst e; simp [Nat.beq_refl] at hb
      rw [lookN_at0 (n + 1) l j]
      by_cases h : n ≤ j
      · rw [if_pos h, if_pos (by omega), show j - n = (j - (n + 1)) + 1 by omega]; simp
      · rw [if_neg h, if_neg (by omega)]

theorem nodupN_get : ∀ {l : List Nat}, nodupN l = true → ∀ {i j k : Nat}, l[i]? = some k → l[j]? = some k → i = j
  | x :: l, h, i, j, k, hi, hj => by
    simp only [nodupN, Bool.and_eq_true, Bool.not_eq_true'] at h
    have hn : ∀ m, l[m]? ≠ some x := fun m hm => by
      have : memN l x = true := memN_iff.2 (List.mem_of_getElem? hm)
      rw [h.1] at this; cases this
    cases i with
    | zero =>
      cases j with
      | zero => rfl
      | succ j => simp at hi hj; subst hi; exact (hn _ hj).elim
    | succ i =>
      cases j with
      | zero => simp at hi hj; subst hj; exact (hn _ hi).elim
      | succ j => simp at hi hj; rw [nodupN_get h.2 hi hj]

theorem lookN_val_inj {ρ : List (Nat × Nat)} (h : nodupN (ρ.map (·.2)) = true) {i j k : Nat} (hi : lookN ρ i = some k) (hj : lookN ρ j = some k) : i = j := nodupN_spec h (lookN_mem hi) (lookN_mem hj)

theorem canH_get {os : List (O reg.T)} (h : os.length ≤ 1000000000) (j : Nat) : (canH os).get j = os[j]? := by
  have key : ∀ (l : List (O reg.T)) (n : Nat), n + l.length ≤ 1000000000 → (setAll (at0 n l) .e).get j = if n ≤ j then l[j - n]? else none := by
    intro l
    induction l with
    | nil => intro n _; simp [at0, setAll, Tr.get_e]
    | cons o l ih =>
      intro n hn
      simp only [List.length_cons] at hn
      simp only [at0, setAll]
      rw [Tr.get_set (by unfold Tr.ok; simp; omega), ih (n + 1) (by omega)]
      by_cases hj : j = n
      · subst hj; simp
      · rw [if_neg hj]
        by_cases h1 : n ≤ j
        · rw [if_pos h1, if_pos (by omega), show j - n = (j - (n + 1)) + 1 by omega]; simp
        · rw [if_neg h1, if_neg (by omega)]
  have := key os 0 (by omega)
  simpa [canH, Hp.get] using this

theorem setOuts_get {σ : Nat → Nat} : ∀ {l : List (Nat × Option (O reg.T))} {t : Tr (O reg.T)}, (∀ p ∈ l, Tr.ok (σ p.1) = true) → (∀ p ∈ l, ∀ q ∈ l, σ p.1 = σ q.1 → p = q) →
    (∀ p ∈ l, (setOuts σ l t).get (σ p.1) = p.2.map (O.ren σ)) ∧ ∀ i, (∀ p ∈ l, i ≠ σ p.1) → (setOuts σ l t).get i = t.get i
  | [], t, _, _ => ⟨fun p hp => by simp at hp, fun i _ => rfl⟩
  | (j, o) :: l, t, hk, hd => by
    obtain ⟨h1, h2⟩ := setOuts_get (l := l) (t := t) (fun p hp => hk p (by simp [hp])) (fun p hp q hq => hd p (by simp [hp]) q (by simp [hq]))
    refine ⟨fun p hp => ?_, fun i hi => ?_⟩
    · simp only [setOuts]
      rw [Tr.get_set (hk (j, o) (by simp))]
      by_cases he : σ p.1 = σ j
      · have := hd p hp (j, o) (by simp) he
        subst this
        rw [if_pos rfl]
        cases o <;> rfl
      · rw [if_neg he]
        rcases List.mem_cons.1 hp with hp | hp
        · subst hp; exact (he rfl).elim
        · exact h1 p hp
    · simp only [setOuts]
      rw [Tr.get_set (hk (j, o) (by simp)), if_neg (hi (j, o) (by simp))]
      exact h2 i (fun p hp => hi p (by simp [hp]))

theorem phiC_at0 {ρ : List Nat} {φ : Phi} {j : Nat} {p : Nat × Nat × Nat × Nat} (h : phiC (at0 0 ρ) φ j = some p) : ∃ i, ρ[j]? = some i ∧ φ i = some p := by
  unfold phiC at h
  rw [lookN_at0] at h
  simp only [Nat.zero_le, if_true, Nat.sub_zero] at h
  split at h
  · rename_i i hi; exact ⟨i, hi, h⟩
  · cases h
theorem phiC_at0_eq {ρ : List Nat} {φ : Phi} {i j : Nat} (h : ρ[j]? = some i) : phiC (at0 0 ρ) φ j = φ i := by
  unfold phiC
  rw [lookN_at0]
  simp [h]

/-- A contract that was shown holds wherever it is met. -/
theorem Spec.con_ok {f : FuncId} {S : Spec reg.T} (hS : SpecOk P f S) (M : Meet S) (hsz : ∀ a, (S.objs a).length ≤ 1000000) : ∀ args h Q, (S.con M args h).K Q →
    There P f ∧ ∀ N F φ w cargs, (∀ r, Q r → Fresh N h.nx r.2.nx) → HR N F φ h w → LRel F w φ args cargs → Calls P f cargs w (CallPost N F φ h w Q) := by
  intro args h Q hq
  unfold Spec.con at hq
  split at hq
  · exact hq.elim
  rename_i a ρ hf
  obtain ⟨hp, hq⟩ := Out.K_need.1 hq
  rw [Out.K_bind, Out.K_iff] at hq
  obtain ⟨q, hout0, hq⟩ := hq
  obtain ⟨hc, hq⟩ := Out.K_ask.1 hq
  simp only [Bool.and_eq_true, List.all_eq_true] at hc
  obtain ⟨⟨⟨hnd, hok⟩, hle⟩, hnx⟩ := hc
  have hle : ρ.length ≤ q.2.length := Nat.le_of_ble_eq_true hle
  obtain ⟨hca, hln, hobj⟩ := M.ok args h.get a ρ hf
  have hsz := hsz a
  refine ⟨hS.1, fun N F φ w cargs hfr hH hl => ?_⟩
  have hfr := hfr _ hq
  have hfr : ∀ i, h.nx ≤ i → i < h.nx + (q.2.length - ρ.length) → ¬N i := hfr
  have hnx : Tr.ok (h.nx + (q.2.length - ρ.length)) = true := hnx
  have hget : ∀ j, (canH (S.objs a)).get j = (S.objs a)[j]? := canH_get (by omega)
  have hρ : ∀ j, j < ρ.length → ∃ (i : Nat) (u : O reg.T) (o : O reg.T), ρ[j]? = some i ∧ h.get i = some u ∧ (S.objs a)[j]? = some o ∧ covO (at0 0 ρ) o u := by
    intro j hj
    have hj' : j < (S.objs a).length := by omega
    obtain ⟨i, u, h1, h2, h3⟩ := hobj j _ (List.getElem?_eq_getElem hj')
    exact ⟨i, u, _, h1, h2, List.getElem?_eq_getElem hj', h3⟩
  have hρN : ∀ j i : Nat, ρ[j]? = some i → N i := by
    intro j i hi
    obtain ⟨i', u, o, h1, h2, _⟩ := hρ j (List.getElem?_eq_some_iff.1 hi).1
    rw [hi] at h1
    cases h1
    exact hH.lt i u h2
  have hc0 : HRel reg F (phiC (at0 0 ρ) φ) (fun j => j < (S.objs a).length) (canH (S.objs a)).get w := by
    refine ⟨fun j o ho => ?_, fun j o b s k ho hpj => ?_, fun j j' oj oj' b s1 k1 s2 k2 hj hj' hpj hpj' => ?_, fun j p hpj => ?_, fun j o ho => ?_, fun j hj => ?_, hH.frz, hH.lay⟩
    · rw [hget] at ho
      obtain ⟨i, u, h1, h2, h3⟩ := hobj j o ho
      exact covO_rel (by rw [lookN_at0]; simpa using h1) h3 (hH.obj i u h2)
    · rw [hget] at ho
      obtain ⟨i, u, h1, h2, h3⟩ := hobj j o ho
      rw [phiC_at0_eq h1] at hpj
      exact hH.own i u b s k h2 hpj
    · rw [hget] at hj hj'
      obtain ⟨i, u, h1, h2, _⟩ := hobj j oj hj
      obtain ⟨i', u', h1', h2', _⟩ := hobj j' oj' hj'
      rw [phiC_at0_eq h1] at hpj
      rw [phiC_at0_eq h1'] at hpj'
      have := hH.inj i i' u u' b s1 k1 s2 k2 h2 h2' hpj hpj'
      subst this
      exact nodupN_get hnd h1 h1'
    · obtain ⟨i, h1, _⟩ := phiC_at0 hpj
      have := (List.getElem?_eq_some_iff.1 h1).1
      show j < _
      omega
    · rw [hget] at ho
      exact (List.getElem?_eq_some_iff.1 ho).1
    · have hj : j < (S.objs a).length := hj
      unfold Tr.ok; simp; omega
  have hl0 : LRel F w (phiC (at0 0 ρ) φ) (S.args a) cargs := by
    obtain ⟨h1, h2⟩ := covL_get hca
    exact ⟨by rw [h1]; exact hl.1, fun j hj => (covV_rel (hl.2 j (by omega)) (h2 j hj)).1⟩
  refine (hS.2 a hp F _ w cargs hc0 hl0 q hout0).mono fun e w' he => ?_
  obtain ⟨cv, he, v1, h1, N1, F1, φ1, hcov, hv, hP, hG⟩ := he
  refine ⟨cv, he, ?_⟩
  obtain ⟨hcb, hcv, hch⟩ := (must_iff _ _).1 hcov
  generalize findOuts (S.objs a).length h1.h v1 q.1 q.2 = κ at hcb hcv hch
  simp only [Bool.and_eq_true, List.all_eq_true] at hcb
  obtain ⟨⟨⟨hself, hκ⟩, hκlt⟩, _⟩ := hcb
  have hself : ∀ j, j < ρ.length → lookN κ j = some j := fun j hj => selfB_get hself (by omega)
  have hκlt : ∀ j k, lookN κ j = some k → j < q.2.length := fun j k hk => by simpa using hκlt _ (lookN_mem hk)
  have hφ1 : ∀ j i : Nat, ρ[j]? = some i → phiC κ φ1 j = φ i := by
    intro j i hi
    have hj := (List.getElem?_eq_some_iff.1 hi).1
    unfold phiC
    rw [hself j hj]
    show φ1 j = φ i
    rw [hG.goes.phi j (show j < _ by omega), phiC_at0_eq hi]
  let σ := newN ρ.length h.nx ρ
  have hσold : ∀ j i : Nat, ρ[j]? = some i → σ j = i := by
    intro j i hi
    have hj := (List.getElem?_eq_some_iff.1 hi).1
    show newN ρ.length h.nx ρ j = i
    unfold newN
    rw [show Nat.blt j ρ.length = true by simpa using hj]
    simp [List.getD, hi]
  have hσnew : ∀ j, ρ.length ≤ j → σ j = h.nx + (j - ρ.length) := by
    intro j hj
    show newN ρ.length h.nx ρ j = _
    unfold newN
    rw [show Nat.blt j ρ.length = false by cases hb : Nat.blt j ρ.length with
    | false => rfl
    | true => have := Nat.le_of_ble_eq_true hb; omega]
    rfl
  let φ2 : Phi := fun i => if h.nx ≤ i ∧ i < h.nx + (q.2.length - ρ.length) then phiC κ φ1 (ρ.length + (i - h.nx)) else φ i
  have hφN : ∀ i, N i → φ2 i = φ i := fun i hi => if_neg (fun ⟨a1, a2⟩ => hfr i a1 a2 hi)
  have hφσ : ∀ j, j < q.2.length → φ2 (σ j) = phiC κ φ1 j := by
    intro j hj
    by_cases hjn : j < ρ.length
    · obtain ⟨i, _, _, hi, _⟩ := hρ j hjn
      rw [hσold j i hi, hφN i (hρN j i hi), hφ1 j i hi]
    · rw [hσnew j (by omega)]
      show (if _ then _ else _) = _
      rw [if_pos (by omega), show ρ.length + (h.nx + (j - ρ.length) - h.nx) = j by omega]
  have hφto : ∀ j p, phiC κ φ1 j = some p → φ2 (σ j) = some p := by
    intro j p hpj
    rw [hφσ j ?_, hpj]
    unfold phiC at hpj
    split at hpj
    · rename_i k hk; exact hκlt j k hk
    · cases hpj
  have hσinj : ∀ j j', j < q.2.length → j' < q.2.length → σ j = σ j' → j = j' := by
    have key : ∀ j j', j < ρ.length → ρ.length ≤ j' → j' < q.2.length → σ j ≠ σ j' := by
      intro j j' hj hj1 hj2 he
      obtain ⟨i, _, _, hi, _⟩ := hρ j hj
      rw [hσold j i hi, hσnew j' hj1] at he
      exact hfr i (by omega) (by omega) (hρN j i hi)
    intro j j' hj hj' he
    by_cases h1 : j < ρ.length <;> by_cases h2 : j' < ρ.length
    · obtain ⟨i, _, _, hi, _⟩ := hρ j h1
      obtain ⟨i', _, _, hi', _⟩ := hρ j' h2
      rw [hσold j i hi, hσold j' i' hi'] at he
      subst he
      exact nodupN_get hnd hi hi'
    · exact (key j j' h1 (by omega) hj' he).elim
    · exact (key j' j h2 (by omega) hj he.symm).elim
    · rw [hσnew j (by omega), hσnew j' (by omega)] at he; omega
  have hat : ∀ p ∈ at0 0 q.2, p.1 < q.2.length ∧ q.2[p.1]? = some p.2 := by
    rintro ⟨j, o⟩ hm
    have := ((at0_get 0 _ j o).1 hm).2
    simp only [Nat.sub_zero] at this
    exact ⟨(List.getElem?_eq_some_iff.1 this).1, this⟩
  have hσok : ∀ j, j < q.2.length → Tr.ok (σ j) = true := by
    intro j hj
    by_cases h1 : j < ρ.length
    · obtain ⟨i, _, _, hi, _⟩ := hρ j h1
      rw [hσold j i hi]
      exact hok i (List.mem_of_getElem? hi)
    · rw [hσnew j (by omega)]
      exact ok_lt hnx (by omega)
  obtain ⟨hs1, hs2⟩ := setOuts_get (σ := σ) (l := at0 0 q.2) (t := h.h) (fun p hp => hσok _ (hat p hp).1) (fun p hp q hq he => by
    have e := hσinj _ _ (hat p hp).1 (hat q hq).1 he
    have h1 := (hat p hp).2
    have h2 := (hat q hq).2
    rw [e, h2] at h1
    exact Prod.ext e (Option.some.inj h1).symm)
  let h2 : Hp reg.T := ⟨setOuts σ (at0 0 q.2) h.h, h.nx + (q.2.length - ρ.length), ρ ++ h.wr⟩
  have hout : ∀ (j : Nat) o, q.2[j]? = some o → h2.get (σ j) = o.map (O.ren σ) := fun j o ho => hs1 (j, o) ((at0_get 0 _ j o).2 ⟨Nat.zero_le _, by simpa using ho⟩)
  have hother : ∀ i, (∀ j, j < q.2.length → i ≠ σ j) → h2.get i = h.get i := fun i hi => hs2 i (fun p hp => hi _ (hat p hp).1)
  have cases' : ∀ i o, h2.get i = some o → (∃ (j : Nat) (oj : O reg.T) (k : Nat) (u : O reg.T), q.2[j]? = some (some oj) ∧ σ j = i ∧ o = oj.ren σ ∧ lookN κ j = some k ∧ h1.get k = some u ∧ covO κ oj u) ∨ (h.get i = some o ∧ ∀ j : Nat, ρ[j]? ≠ some i) := by
    intro i o hi
    by_cases hj : ∃ j, j < q.2.length ∧ i = σ j
    · obtain ⟨j, hj, rfl⟩ := hj
      have ho := List.getElem?_eq_getElem hj
      rw [hout j _ ho] at hi
      cases hoj : q.2[j] with
      | none => rw [hoj] at hi; simp at hi
      | some oj =>
        rw [hoj] at hi ho
        simp only [Option.map_some, Option.some.injEq] at hi
        obtain ⟨k, u, b1, b2, b3⟩ := covOuts_get hch ((at0_get 0 _ j _).2 ⟨Nat.zero_le _, by simpa using ho⟩)
        exact .inl ⟨j, oj, k, u, ho, rfl, hi.symm, b1, b2, b3⟩
    · have hj : ∀ j, j < q.2.length → i ≠ σ j := fun j h1 h2 => hj ⟨j, h1, h2⟩
      rw [hother i hj] at hi
      refine .inr ⟨hi, fun j hρj => ?_⟩
      exact hj j (Nat.lt_of_lt_of_le (List.getElem?_eq_some_iff.1 hρj).1 hle) (hσold j i hρj).symm
  -- what lies outside
  have hOwn : ∀ b, Owned reg (phiC (at0 0 ρ) φ) (canH (S.objs a)).get b → Owned reg φ h.get b := by
    rintro b ⟨j, o, s, k, hj, hpj⟩
    rw [hget] at hj
    obtain ⟨i, u, g1, g2, _⟩ := hobj j o hj
    rw [phiC_at0_eq g1] at hpj
    exact ⟨i, u, s, k, g2, hpj⟩
  have apart : ∀ i o b s k, h.get i = some o → (∀ j : Nat, ρ[j]? ≠ some i) → φ i = some (b, s, k) → ¬Owned reg (phiC (at0 0 ρ) φ) (canH (S.objs a)).get b := by
    rintro i o b s k hi hn hpi ⟨j, oj, s', k', hj, hpj⟩
    rw [hget] at hj
    obtain ⟨i', u, g1, g2, _⟩ := hobj j oj hj
    rw [phiC_at0_eq g1] at hpj
    have := hH.inj i i' o u b s k s' k' hi g2 hpi hpj
    subst this
    exact hn j g1
  have keep := hG.goes.keep hc0
  have keepφ : ∀ i p, φ i = some p → φ2 i = some p := fun i p hpi => (hφN i (hH.dom i p hpi)).trans hpi
  have oldb : ∀ i o b s k, h.get i = some o → (∀ j : Nat, ρ[j]? ≠ some i) → φ i = some (b, s, k) → w'.heap[b]? = w.heap[b]? := fun i o b s k hi hl hpi => hG.goes.block b (hH.own i o b s k hi hpi).2 (apart i o b s k hi hl hpi)
  have oldF : ∀ i o b s k, h.get i = some o → (∀ j : Nat, ρ[j]? ≠ some i) → φ i = some (b, s, k) → ¬F1 b := by
    intro i o b s k hi hl hpi hF
    rcases hG.goes.fnew b hF with g | g | g
    · exact (hH.own i o b s k hi hpi).1 g
    · have := (hH.own i o b s k hi hpi).2; omega
    · exact apart i o b s k hi hl hpi g
  have inner : ∀ (j : Nat) oj k u, q.2[j]? = some (some oj) → lookN κ j = some k → h1.get k = some u → φ2 (σ j) = φ1 k := by
    intro j oj k u ho hk hu
    rw [hφσ j (List.getElem?_eq_some_iff.1 ho).1]
    unfold phiC
    rw [hk]
  have mixed : ∀ k u i o b s z s' z', h1.get k = some u → φ1 k = some (b, s, z) → h.get i = some o → (∀ j : Nat, ρ[j]? ≠ some i) → φ i = some (b, s', z') → False := by
    intro k u i o b s z s' z' hk hpk hi hn hpi
    rcases hG.goes.dom b ⟨k, u, s, z, hk, hpk⟩ with g | g
    · exact apart i o b s' z' hi hn hpi g
    · have := (hH.own i o b s' z' hi hpi).2; omega
  refine ⟨q.1.ren σ, h2, fun i => N i ∨ (h.nx ≤ i ∧ i < h.nx + (q.2.length - ρ.length)), F1, φ2, hq, ren_rel hφto (covV_rel hv hcv).1, ?_, ?_⟩
  · refine ⟨fun i o hi => ?_, fun i o b s k hi hpi => ?_, fun i i' o o' b s k s' k' hi hi' hpi hpi' => ?_, fun i p hpi => ?_, fun i o hi => ?_, fun i hi => ?_, hP.frz, hP.lay⟩
    · rcases cases' i o hi with ⟨j, oj, k, u, ho, rfl, rfl, hk, hu, hcj⟩ | ⟨hi, hn⟩
      · exact ren_orel hφto (fun e => by rw [hφσ j (List.getElem?_eq_some_iff.1 ho).1]; exact e) (covO_rel hk hcj (hP.obj k u hu))
      · exact (hH.obj i o hi).mono reg keep.1 keepφ (fun e => (hφN i (hH.lt i o hi)).trans e) (fun b s k hpi => oldb i o b s k hi hn hpi)
    · rcases cases' i o hi with ⟨j, oj, k', u, ho, rfl, rfl, hk, hu, hcj⟩ | ⟨hi, hn⟩
      · rw [inner j oj k' u ho hk hu] at hpi
        exact hP.own k' u b s k hu hpi
      · rw [hφN i (hH.lt i o hi)] at hpi
        exact ⟨oldF i o b s k hi hn hpi, Nat.lt_of_lt_of_le (hH.own i o b s k hi hpi).2 hG.goes.size⟩
    · rcases cases' i o hi with ⟨j, oj, m, u, ho, rfl, rfl, hk, hu, hcj⟩ | ⟨hi, hn⟩ <;> rcases cases' i' o' hi' with ⟨j', oj', m', u', ho', rfl, rfl, hk', hu', hcj'⟩ | ⟨hi', hn'⟩
      · rw [inner j oj m u ho hk hu] at hpi
        rw [inner j' oj' m' u' ho' hk' hu'] at hpi'
        have := hP.inj m m' u u' b s k s' k' hu hu' hpi hpi'
        subst this
        rw [lookN_val_inj hκ hk hk']
      · rw [inner j oj m u ho hk hu] at hpi
        rw [hφN i' (hH.lt i' o' hi')] at hpi'
        exact (mixed m u i' o' b s k s' k' hu hpi hi' hn' hpi').elim
      · rw [inner j' oj' m' u' ho' hk' hu'] at hpi'
        rw [hφN i (hH.lt i o hi)] at hpi
        exact (mixed m' u' i o b s' k' s k hu' hpi' hi hn hpi).elim
      · rw [hφN i (hH.lt i o hi)] at hpi
        rw [hφN i' (hH.lt i' o' hi')] at hpi'
        exact hH.inj i i' o o' b s k s' k' hi hi' hpi hpi'
    · by_cases hnew : h.nx ≤ i ∧ i < h.nx + (q.2.length - ρ.length)
      · exact .inr hnew
      · have : φ2 i = φ i := if_neg hnew
        rw [this] at hpi
        exact .inl (hH.dom i p hpi)
    · rcases cases' i o hi with ⟨j, oj, m, u, ho, rfl, rfl, hk, hu, hcj⟩ | ⟨hi, hn⟩
      · by_cases hjn : j < ρ.length
        · obtain ⟨i, _, _, hi, _⟩ := hρ j hjn
          rw [hσold j i hi]
          exact .inl (hρN j i hi)
        · have := (List.getElem?_eq_some_iff.1 ho).1
          rw [hσnew j (by omega)]
          exact .inr (by omega)
      · exact .inl (hH.lt i o hi)
    · rcases hi with hi | hi
      · exact hH.ok i hi
      · exact ok_lt hnx hi.2
  · refine ⟨⟨hG.goes.os, hG.goes.tape, hG.goes.output, hG.goes.size, fun b hb hn => hG.goes.block b hb (fun g => hn (hOwn b g)), hG.goes.fsub, fun b hb => ?_, hφN, fun i hi => .inl hi, fun b hb => ?_, fun i p hpi => ?_⟩, ?_, fun i hi => hi⟩
    · rcases hG.goes.fnew b hb with g | g | g
      · exact .inl g
      · exact .inr (.inl g)
      · exact .inr (.inr (hOwn b g))
    · obtain ⟨i, o, s, k, hi, hpi⟩ := hb
      rcases cases' i o hi with ⟨j, oj, m, u, ho, rfl, rfl, hk, hu, hcj⟩ | ⟨hi, hn⟩
      · rw [inner j oj m u ho hk hu] at hpi
        rcases hG.goes.dom b ⟨m, u, s, k, hu, hpi⟩ with g | g
        · exact .inl (hOwn b g)
        · exact .inr g
      · rw [hφN i (hH.lt i o hi)] at hpi
        exact .inl ⟨i, o, s, k, hi, hpi⟩
    · by_cases hnew : h.nx ≤ i ∧ i < h.nx + (q.2.length - ρ.length)
      · have e : φ2 i = phiC κ φ1 (ρ.length + (i - h.nx)) := if_pos hnew
        rw [e] at hpi
        unfold phiC at hpi
        split at hpi
        · rename_i m hm
          rcases hG.goes.new m p hpi with g | g | g
          · have g : m < (S.objs a).length := g
            have := lookN_val_inj hκ hm (hself m (by omega))
            omega
          · exact .inr (.inl g)
          · exact .inr (.inr (hOwn _ g))
        · cases hpi
      · have : φ2 i = φ i := if_neg hnew
        rw [this] at hpi
        exact .inl (hH.dom i p hpi)
    · refine ⟨Nat.le_add_right _ _, ρ, rfl, fun i hi1 hi2 => hother i (fun j hj he => ?_)⟩
      by_cases hjn : j < ρ.length
      · obtain ⟨i', _, _, hi', _⟩ := hρ j hjn
        rw [hσold j i' hi'] at he
        subst he
        exact hi1 (List.mem_of_getElem? hi')
      · rw [hσnew j (by omega)] at he
        apply hi2
        show h.nx ≤ i ∧ i < h.nx + (q.2.length - ρ.length)
        omega

/-- A contract, shown by the evaluator. -/
theorem specOk_of_ex (hm : P.follows .mixedOrders = true) {hd : Hd reg.T} (hHd : HdSound P hd) (hno : ∀ (f : FuncId) fn, P.funcs[f]? = some fn → fn.body.isNone = false → (fn.name == "runtime.NumGoroutine") = false) {fuel : Nat} {f : FuncId} {S : Spec reg.T}
    (ht : There P f) (h : ∀ a, S.pre a = true → (exFun P hd fuel f (S.args a) (canH (S.objs a))).K fun r => (S.out a).All fun q => CovR (S.objs a).length r q.1 q.2) : SpecOk P f S := by
  refine ⟨ht, fun a hp F φ w cargs hH hl q hq => ?_⟩
  refine (exFun_sound hm hHd hno fuel f _ _ _ (Out.K_mono (h a hp) (fun r h2 => Out.All_of h2 q hq))).2 _ F φ w cargs (fun r _ i hi hj hN => ?_) hH hl
  have hN : i < (S.objs a).length := hN
  have hi : (S.objs a).length ≤ i := hi
  omega

/-- The same, new slices made data, and ways joined. -/
theorem specOk_of_tidy (hm : P.follows .mixedOrders = true) {hd : Hd reg.T} (hHd : HdSound P hd) (hno : ∀ (f : FuncId) fn, P.funcs[f]? = some fn → fn.body.isNone = false → (fn.name == "runtime.NumGoroutine") = false) {fuel : Nat} {f : FuncId} {S : Spec reg.T}
    (ht : There P f) (h : ∀ a, S.pre a = true → (tidyOut reg (canH (S.objs a)) (exFun P hd fuel f (S.args a) (canH (S.objs a)))).K fun r => (S.out a).All fun q => CovR (S.objs a).length r q.1 q.2) : SpecOk P f S := by
  refine ⟨ht, fun a hp F φ w cargs hH hl q hq => ?_⟩
  have h1 := Out.K_mono (h a hp) (fun r h2 => Out.All_of h2 q hq)
  refine ((exFun_sound hm hHd hno fuel f _ _ _ (tidyOut_ok h1)).2 _ F φ w cargs (fun r _ i hi hj hN => ?_) hH hl).mono fun e w' he => ?_
  · have hN : i < (S.objs a).length := hN
    have hi : (S.objs a).length ≤ i := hi
    omega
  · obtain ⟨cv, he, v, h', N', F', φ', ⟨r', hq', ht⟩, hv, hH', hG⟩ := he
    obtain ⟨v2, h2', N2, F2, φ2, e2, a, b, c⟩ := ht.2 _ F φ w cv w' ⟨v, h', N', F', φ', rfl, hv, hH', hG⟩
    exact ⟨cv, he, v2, h2', N2, F2, φ2, e2 ▸ hq', a, b, c⟩

/-- The same, new slices made data. -/
theorem specOk_of_leaf (hm : P.follows .mixedOrders = true) {hd : Hd reg.T} (hHd : HdSound P hd) (hno : ∀ (f : FuncId) fn, P.funcs[f]? = some fn → fn.body.isNone = false → (fn.name == "runtime.NumGoroutine") = false) {fuel : Nat} {f : FuncId} {S : Spec reg.T}
    (ht : There P f) (h : ∀ a, S.pre a = true → ((exFun P hd fuel f (S.args a) (canH (S.objs a))).bind (tidyLeaf reg (canH (S.objs a)))).K fun r => (S.out a).All fun q => CovR (S.objs a).length r q.1 q.2) : SpecOk P f S := by
  refine ⟨ht, fun a hp F φ w cargs hH hl q hq => ?_⟩
  have h1 := h a hp
  rw [Out.K_bind] at h1
  have h1 : (exFun P hd fuel f (S.args a) (canH (S.objs a))).K fun r => ∃ r', CovR (S.objs a).length r' q.1 q.2 ∧ Turns (canH (S.objs a)) r r' := Out.K_mono h1 (fun r h2 => by
    obtain ⟨r2, h4, h5⟩ := (Out.K_iff _ _).1 h2
    exact ⟨r2, Out.All_of h5 q hq, tidyLeaf_ok h4⟩)
  refine ((exFun_sound hm hHd hno fuel f _ _ _ h1).2 _ F φ w cargs (fun r _ i hi hj hN => ?_) hH hl).mono fun e w' he => ?_
  · have hN : i < (S.objs a).length := hN
    have hi : (S.objs a).length ≤ i := hi
    omega
  · obtain ⟨cv, he, v, h', N', F', φ', ⟨r', hq', ht⟩, hv, hH', hG⟩ := he
    obtain ⟨v2, h2', N2, F2, φ2, e2, a, b, c⟩ := ht.2 _ F φ w cv w' ⟨v, h', N', F', φ', rfl, hv, hH', hG⟩
    exact ⟨cv, he, v2, h2', N2, F2, φ2, e2 ▸ hq', a, b, c⟩

/-- A contract, shown of code with loops. -/
theorem specOk_of_awp (hm : P.follows .mixedOrders = true) {hd : Hd reg.T} (hHd : HdSound P hd) {fuel : Nat} {f : FuncId} {fn : Func} (hfn : P.funcs[f]? = some fn) {S : Spec reg.T}
    (ht : There P f) (h : ∀ a, S.pre a = true → ∃ (G : Type) (g : G) (A : _) (L : _) (J : _), awpFunH reg P hd fuel A L J g fn (S.args a) (canH (S.objs a)) fun r => (S.out a).All fun q => CovR (S.objs a).length r q.1 q.2) : SpecOk P f S := by
  refine ⟨ht, fun a hp F φ w cargs hH hl q hq => ?_⟩
  obtain ⟨G, g, A, L, J, h⟩ := h a hp
  refine (awpFunH_sound hm hHd hfn rfl h hH hl).mono fun e w' he => ?_
  obtain ⟨cv, he, v, h', N', F', φ', hq', hv, hH', hG⟩ := he
  exact ⟨cv, he, v, h', N', F', φ', Out.All_of hq' q hq, hv, hH', hG⟩

/-- The same, its answer as it is. -/
theorem specOk_of_awpN (hm : P.follows .mixedOrders = true) {hd : Hd reg.T} (hHd : HdSound P hd) {fuel : Nat} {f : FuncId} {fn : Func} (hfn : P.funcs[f]? = some fn) {S : Spec reg.T}
    (ht : There P f) (h : ∀ a, S.pre a = true → ∃ (G : Type) (g : G) (A : _) (L : _) (J : _), awpFunN reg P hd fuel A L J g fn (S.args a) (canH (S.objs a)) fun r => (S.out a).All fun q => CovR (S.objs a).length r q.1 q.2) : SpecOk P f S := by
  refine ⟨ht, fun a hp F φ w cargs hH hl q hq => ?_⟩
  obtain ⟨G, g, A, L, J, h⟩ := h a hp
  refine (awpFunN_sound hm hHd hfn rfl h hH hl).mono fun e w' he => ?_
  obtain ⟨cv, he, v, h', N', F', φ', hq', hv, hH', hG⟩ := he
  exact ⟨cv, he, v, h', N', F', φ', Out.All_of hq' q hq, hv, hH', hG⟩

/-- One contract, or another. -/
def Con.or {T : Nat → Type} (p : List (V T) → (Nat → Option (O T)) → Bool) (x y : List (V T) → Hp T → Out (V T × Hp T)) (args : List (V T)) (h : Hp T) : Out (V T × Hp T) := match p args h.get with
  | true => x args h
  | false => y args h
end
end Go.W

namespace Go.W
open Go Go.RowKit Go.ChangeShapes Go.WideShapes Go.ChangeAt

theorem law_lifted_and {H : Type} {enc : TypeId × Value → H} {C : Checked} {os : Os} {f : FuncId} {fn : Func} {s : ChangeSpec} {bt : TypeId} {X : World → Array Value → Prop} (hX : ∀ (w w' : World) (args : Array Value), w.heap = w'.heap → X w args → X w' args) (own : ownKnob C.prog.godebug = none) (started : os.Started)
    (hl : laidOutB C.prog = true) (noInit : C.prog.inits.idxOf? f = none) (hfn : C.prog.funcs[f]? = some fn) (hread : ∀ t ∈ fn.params.toList, C.prog.readableRec t = true ∧ t < C.prog.types.size)
    (hres : fn.resultTypes = #[bt]) (hbt : C.prog.underlying bt = some .bool) (hvars : s.vars = [])
    (hs : ∀ ds : List (DataW H), ds.length = fn.params.size → s.fn H (ds ++ []) = { results := [.lit (.bool true)], args := ds })
    (witness : ∃ (w : World) (tape : Tape) (i : Input), w.os = os ∧ (w.forCall tape i).Shaped C.prog ∧ i.vars = [] ∧ Input.okWide C.prog (w.forCall tape i) .any w.heap.size f i ∧
      ((s.pre enc C.prog fn [] false (w.forCall tape i).memory i.args ∧ X (w.forCall tape i).memory i.args) ∧ sizedMet enc C.prog fn (OpenSpec.ofChange s) false (w.forCall tape i).memory i.args) ∧ ({} : Assume).holds C.prog (lone (Frame.enter C.prog f i.args .normal) [] (w.forCall tape i)))
    (walk : ∀ (W : World) (base : Nat) (args : Array Value) (ds : List (DataW H)) (ps : List MemPlace), (∀ (j : Nat) t v, fn.params[j]? = some t → args[j]? = some v → Value.okWide C.prog W .any base t v) →
      (DataW.weightsEach C.prog fn.params.toList ds).all (· ≤ reachBytes) = true → DataW.TrodAll enc C.prog W 0 (fun _ => true) true fn.params.toList args.toList ds ps → (∀ x ∈ ps, x.block < W.heap.size) → X W args →
      Calls C.prog f args W fun e W' => e = .returned (.bool true) ∧ Below W.heap.size W W') :
    ReturnsInHanded {} C os f .any (fun w args => (s.pre enc C.prog fn [] false w args ∧ X w args) ∧ sizedMet enc C.prog fn (OpenSpec.ofChange s) false w args) (s.post enc C.prog fn false true false false) := by
  refine returnsInHanded_of_change_and (C := C) hX own started noInit hfn witness ?_
  intro W base args ds gs before hok hW _ hwt hx _
  have hW' := hW
  obtain ⟨p, q, hA, hV, rfl, hfz, hnd⟩ := hW
  rw [hvars] at hV
  obtain ⟨rfl, rfl⟩ := trodVars_none hV
  have hwt' : (DataW.weightsEach C.prog fn.params.toList ds).all (· ≤ reachBytes) = true := by
    have e : s.plain.varTypes C.prog = [] := by simp [DataSpec.varTypes, ChangeSpec.plain, hvars]
    simpa [e] using hwt
  simp only [List.append_nil] at hW'
  have hlt : ∀ x ∈ p, x.block < W.heap.size := fun x hx => by simpa using hW'.lt x (by simpa using hx)
  have hlen : ∀ (ts : List TypeId) (vs : List Value) (ds : List (DataW H)) (ps : List MemPlace), DataW.TrodAll enc C.prog W 0 (fun _ => true) true ts vs ds ps → ds.length = ts.length := by
    intro ts
    induction ts with
    | nil => intro vs ds ps h; obtain ⟨_, rfl, _⟩ := trodAll_nil h; rfl
    | cons t ts ih => intro vs ds ps h; obtain ⟨_, _, _, _, _, _, _, rfl, _, _, h2⟩ := trodAll_cons h; simp [ih _ _ _ h2]
  have hsp := hs ds (by simpa using hlen _ _ _ _ hA)
  refine (walk W base args ds p hok hwt' hA hlt hx).mono fun e W' ⟨he, hb⟩ => ?_
  subst he
  refine ⟨_, rfl, ds, [], p, [], p, [], hW', ?_, ?_, ?_, ?_, fun h => by cases h⟩
  · rw [hsp, hres]
    exact trodAll_mk1 (shut_bool hbt true)
  · rw [hsp]
    exact trodAll_stays hl hb hread hA hlt
  · rw [hsp, hvars]
    rfl
  · exact hb.frame _

section
variable {reg : Reg} {P : Program}
theorem law_row_and {H : Type} {enc : TypeId × Value → H} {C : Checked} {os : Os} {f : FuncId} {fn : Func} {s : ChangeSpec} {bt : TypeId} {X : World → Array Value → Prop} (hX : ∀ (w w' : World) (args : Array Value), w.heap = w'.heap → X w args → X w' args) (own : ownKnob C.prog.godebug = none) (started : os.Started)
    (hl : laidOutB C.prog = true) (noInit : C.prog.inits.idxOf? f = none) (hfn : C.prog.funcs[f]? = some fn) (hread : ∀ t ∈ fn.params.toList, C.prog.readableRec t = true ∧ t < C.prog.types.size)
    (hres : fn.resultTypes = #[bt]) (hbt : C.prog.underlying bt = some .bool) (hvars : s.vars = [])
    (hs : ∀ ds : List (DataW H), ds.length = fn.params.size → s.fn H (ds ++ []) = { results := [.lit (.bool true)], args := ds })
    (witness : ∃ (w : World) (tape : Tape) (i : Input), w.os = os ∧ (w.forCall tape i).Shaped C.prog ∧ i.vars = [] ∧ Input.okWide C.prog (w.forCall tape i) .any w.heap.size f i ∧
      ((s.pre enc C.prog fn [] false (w.forCall tape i).memory i.args ∧ X (w.forCall tape i).memory i.args) ∧ sizedMet enc C.prog fn (OpenSpec.ofChange s) false (w.forCall tape i).memory i.args) ∧ ({} : Assume).holds C.prog (lone (Frame.enter C.prog f i.args .normal) [] (w.forCall tape i)))
    (n : Nat) (hchk : ∀ t ∈ fn.params.toList, chkT reg C.prog n t = true) (htot : ∀ n e vs, reg.k e = C.prog.cellsOf e → C.prog.cellsOf e ≠ 0 → WT reg C.prog n e vs → ∃ x, reg.enc e x = vs)
    (hTab : ∀ w args, X w args → reg.Tab w) (hm : C.prog.follows .mixedOrders = true) (h : ∀ vs, TypedArgs reg C.prog n fn.params.toList vs → ∃ (hd : Hd reg.T) (_ : HdSound C.prog hd) (fuel : Nat) (G : Type) (g : G) (A : _) (L : _) (J : _), awpFun reg C.prog hd fuel A L J g fn vs (fun r => yes r.1)) :
    ReturnsInHanded {} C os f .any (fun w args => (s.pre enc C.prog fn [] false w args ∧ X w args) ∧ sizedMet enc C.prog fn (OpenSpec.ofChange s) false w args) (s.post enc C.prog fn false true false false) := by
  refine law_lifted_and hX own started hl noInit hfn hread hres hbt hvars hs witness ?_
  intro W base args ds ps hok _ hA _ hx
  obtain ⟨vs, h1, h2, h4⟩ := args_rel (reg := reg) (P := C.prog) (F := fun b => b < W.heap.size) (φ := fun _ => none) (fun b hb => hb) htot hchk
    (fun j t v ht hv => hok j t v (by simpa using ht) (by simpa using hv)) hA
  obtain ⟨hd, hHd, fuel, G, g, A, L, J, hL⟩ := h vs h1
  refine (awpFun_sound hm hHd hfn hL (F := fun b => b < W.heap.size) (w := W) (fun b hb => hb) ⟨W, hTab W args hx, fun b hb => ⟨hb, rfl⟩⟩ (cargs := args) ⟨by simpa using h2, fun j hj => by rw [← toList_getD]; exact h4 j hj⟩).mono fun e W' he => ?_
  obtain ⟨v, h', F', φ', cv, hq, rfl, hv, _, _, h5, h6, h7, h8, h9⟩ := he
  have hq : v = .d (.bool true) := yes_eq hq
  subst hq
  refine ⟨?_, ⟨h5, h6, h7, h8, h9⟩⟩
  cases hv with
  | d _ _ hd =>
    cases hd with
    | bool => rfl
    | emp _ hx => cases hx
    | sl _ _ _ _ _ _ _ hx => cases hx
end
end Go.W

namespace Go.W
open Go Go.RowKit

section
variable {T : Nat → Type}
/-- The same data, untyped. -/
def D.same : D T → D T → Bool
  | .bool a, .bool b => a == b
  | .int k a, .int k' b => (match sameKind k k' with | true => a == b | false => false)
  | .str s, .str t => s == t
  | .nilp, .nilp => true
  | .nilm, .nilm => true
  | .nilf, .nilf => true
  | .nili, .nili => true
  | .nils, .nils => true
  | .usl k xs, .usl k' ys => (match Nat.beq k k' with | true => goR xs ys | false => false)
  | _, _ => false
where
  goL : List (D T) → List (D T) → Bool
  | [], [] => true
  | x :: xs, y :: ys => (match D.same x y with | true => goL xs ys | false => false)
  | _, _ => false
  goR : List (List (D T)) → List (List (D T)) → Bool
  | [], [] => true
  | x :: xs, y :: ys => (match goL x y with | true => goR xs ys | false => false)
  | _, _ => false


mutual
theorem D.same_eq : ∀ (x y : D T), D.same x y = true → x = y
  | .bool a, y, h => by
    cases y <;> simp only [D.same, Bool.false_eq_true] at h
    rw [eq_of_beq h]
  | .int k a, y, h => by
    cases y <;> simp only [D.same, Bool.false_eq_true] at h
    split at h
    · rename_i h1; rw [sameKind_eq h1, eq_of_beq h]
    · cases h
  | .str s, y, h => by
    cases y <;> simp only [D.same, Bool.false_eq_true] at h
    rw [eq_of_beq h]
  | .nilp, y, h => by cases y <;> simp only [D.same, Bool.false_eq_true] at h <;> rfl
  | .nilm, y, h => by cases y <;> simp only [D.same, Bool.false_eq_true] at h <;> rfl
  | .nilf, y, h => by cases y <;> simp only [D.same, Bool.false_eq_true] at h <;> rfl
  | .nili, y, h => by cases y <;> simp only [D.same, Bool.false_eq_true] at h <;> rfl
  | .nils, y, h => by cases y <;> simp only [D.same, Bool.false_eq_true] at h <;> rfl
  | .sl e xs, y, h => by cases y <;> simp only [D.same, Bool.false_eq_true] at h
  | .usl k xs, .usl k' ys, h => by
    simp only [D.same] at h
    split at h
    · rename_i h1; rw [Nat.eq_of_beq_eq_true h1, goR_eq xs ys h]
    · cases h
  | .usl k xs, .bool _, h => by simp only [D.same, Bool.false_eq_true] at h
  | .usl k xs, .int _ _, h => by simp only [D.same, Bool.false_eq_true] at h
  | .usl k xs, .str _, h => by simp only [D.same, Bool.false_eq_true] at h
  | .usl k xs, .nilp, h => by simp only [D.same, Bool.false_eq_true] at h
  | .usl k xs, .nilm, h => by simp only [D.same, Bool.false_eq_true] at h
  | .usl k xs, .nilf, h => by simp only [D.same, Bool.false_eq_true] at h
  | .usl k xs, .nili, h => by simp only [D.same, Bool.false_eq_true] at h
  | .usl k xs, .nils, h => by simp only [D.same, Bool.false_eq_true] at h
  | .usl k xs, .sl _ _, h => by simp only [D.same, Bool.false_eq_true] at h
theorem goL_eq : ∀ (x y : List (D T)), D.same.goL x y = true → x = y
  | [], [], _ => rfl
  | [], _ :: _, h => by simp only [D.same.goL, Bool.false_eq_true] at h
  | _ :: _, [], h => by simp only [D.same.goL, Bool.false_eq_true] at h
  | x :: xs, y :: ys, h => by
    simp only [D.same.goL] at h
    split at h
    · rename_i h1; rw [D.same_eq x y h1, goL_eq xs ys h]
    · cases h
theorem goR_eq : ∀ (x y : List (List (D T))), D.same.goR x y = true → x = y
  | [], [], _ => rfl
  | [], _ :: _, h => by simp only [D.same.goR, Bool.false_eq_true] at h
  | _ :: _, [], h => by simp only [D.same.goR, Bool.false_eq_true] at h
  | x :: xs, y :: ys, h => by
    simp only [D.same.goR] at h
    split at h
    · rename_i h1; rw [goL_eq x y h1, goR_eq xs ys h]
    · cases h
end

def covDb : D T → D T → Bool
  | .usl _ xs, .nils => xs.isEmpty
  | x, y => D.same x y
theorem covD_self (x : D T) : covD x x := by
  cases x with
  | int k n =>
    show must (sameKind k k) (n = n)
    exact (must_iff _ _).2 ⟨by cases k <;> rfl, rfl⟩
  | bool b => rfl
  | str s => rfl
  | nilp => rfl
  | nilm => rfl
  | nilf => rfl
  | nili => rfl
  | nils => rfl
  | sl e xs => rfl
  | usl k xs => rfl
theorem covDb_ok {x y : D T} (h : covDb x y = true) : covD x y := by
  unfold covDb at h
  split at h
  · simpa [covD] using h
  · have e := D.same_eq _ _ h
    subst e
    exact covD_self x

def covCapb : Cap → Cap → Bool
  | .exact c, .exact c' => Nat.beq c c'
  | .least c, .exact c' => Nat.ble c c'
  | .least c, .least c' => Nat.ble c c'
  | .exact _, .least _ => false
theorem covCapb_ok {x y : Cap} (h : covCapb x y = true) : covCap x y := by
  cases x <;> cases y <;> simp only [covCapb, Bool.false_eq_true] at h <;> simp only [covCap] <;> first | exact Nat.eq_of_beq_eq_true h | exact Nat.le_of_ble_eq_true h

def covVb (ρ : List (Nat × Nat)) : V T → V T → Bool
  | .d x, .d y => covDb x y
  | .ptr i r o, .ptr j r' o' => nameIs ρ i j && Nat.beq r r' && Nat.beq o o'
  | .sl i off len cap, .sl j off' len' cap' => nameIs ρ i j && Nat.beq off off' && Nat.beq len len' && covCapb cap cap'
  | .mp i, .mp j => nameIs ρ i j
  | .agg vs, .agg us => goL ρ vs us
  | .tup vs, .tup us => goL ρ vs us
  | .fn f vs vs', .fn g us us' => Nat.beq f g && goL ρ vs us && goL ρ vs' us'
  | .undef, .undef => true
  | _, _ => false
where goL (ρ : List (Nat × Nat)) : List (V T) → List (V T) → Bool
  | [], [] => true
  | v :: vs, u :: us => (match covVb ρ v u with | true => goL ρ vs us | false => false)
  | _, _ => false

mutual
theorem covVb_ok (ρ : List (Nat × Nat)) : ∀ (v u : V T), covVb ρ v u = true → covV ρ v u
  | .d x, u, h => by cases u <;> simp only [covVb, Bool.false_eq_true] at h; exact covDb_ok h
  | .ptr i r o, u, h => by
    cases u <;> simp only [covVb, Bool.false_eq_true, Bool.and_eq_true] at h
    exact (must_iff _ _).2 ⟨h.1.1, Nat.eq_of_beq_eq_true h.1.2, Nat.eq_of_beq_eq_true h.2⟩
  | .sl i off len cap, u, h => by
    cases u <;> simp only [covVb, Bool.false_eq_true, Bool.and_eq_true] at h
    exact (must_iff _ _).2 ⟨h.1.1.1, Nat.eq_of_beq_eq_true h.1.1.2, Nat.eq_of_beq_eq_true h.1.2, covCapb_ok h.2⟩
  | .agg vs, .agg us, h => by simp only [covVb] at h; exact covVbL_ok ρ vs us h
  | .tup vs, .tup us, h => by simp only [covVb] at h; exact covVbL_ok ρ vs us h
  | .fn f vs vs', .fn g us us', h => by
    simp only [covVb, Bool.and_eq_true] at h
    exact (must_iff _ _).2 ⟨h.1.1, covVbL_ok ρ vs us h.1.2, covVbL_ok ρ vs' us' h.2⟩
  | .undef, u, h => by cases u <;> simp only [covVb, Bool.false_eq_true] at h; trivial
  | .fp _ _, u, h => by cases u <;> simp only [covVb, Bool.false_eq_true] at h
  | .mp i, u, h => by
    cases u <;> simp only [covVb, Bool.false_eq_true] at h
    exact (must_iff _ _).2 ⟨h, trivial⟩
  | .it _, u, h => by cases u <;> simp only [covVb, Bool.false_eq_true] at h
  | .ifc _ _, u, h => by cases u <;> simp only [covVb, Bool.false_eq_true] at h
  | .any, u, h => by cases u <;> simp only [covVb, Bool.false_eq_true] at h
  | .agg _, .d _, h => by simp only [covVb, Bool.false_eq_true] at h
  | .agg _, .ptr _ _ _, h => by simp only [covVb, Bool.false_eq_true] at h
  | .agg _, .fp _ _, h => by simp only [covVb, Bool.false_eq_true] at h
  | .agg _, .sl _ _ _ _, h => by simp only [covVb, Bool.false_eq_true] at h
  | .agg _, .mp _, h => by simp only [covVb, Bool.false_eq_true] at h
  | .agg _, .it _, h => by simp only [covVb, Bool.false_eq_true] at h
  | .agg _, .fn _ _ _, h => by simp only [covVb, Bool.false_eq_true] at h
  | .agg _, .ifc _ _, h => by simp only [covVb, Bool.false_eq_true] at h
  | .agg _, .tup _, h => by simp only [covVb, Bool.false_eq_true] at h
  | .agg _, .undef, h => by simp only [covVb, Bool.false_eq_true] at h
  | .agg _, .any, h => by simp only [covVb, Bool.false_eq_true] at h
  | .tup _, .d _, h => by simp only [covVb, Bool.false_eq_true] at h
  | .tup _, .ptr _ _ _, h => by simp only [covVb, Bool.false_eq_true] at h
  | .tup _, .fp _ _, h => by simp only [covVb, Bool.false_eq_true] at h
  | .tup _, .sl _ _ _ _, h => by simp only [covVb, Bool.false_eq_true] at h
  | .tup _, .mp _, h => by simp only [covVb, Bool.false_eq_true] at h
  | .tup _, .it _, h => by simp only [covVb, Bool.false_eq_true] at h
  | .tup _, .fn _ _ _, h => by simp only [covVb, Bool.false_eq_true] at h
  | .tup _, .ifc _ _, h => by simp only [covVb, Bool.false_eq_true] at h
  | .tup _, .agg _, h => by simp only [covVb, Bool.false_eq_true] at h
  | .tup _, .undef, h => by simp only [covVb, Bool.false_eq_true] at h
  | .tup _, .any, h => by simp only [covVb, Bool.false_eq_true] at h
  | .fn _ _ _, .d _, h => by simp only [covVb, Bool.false_eq_true] at h
  | .fn _ _ _, .ptr _ _ _, h => by simp only [covVb, Bool.false_eq_true] at h
  | .fn _ _ _, .fp _ _, h => by simp only [covVb, Bool.false_eq_true] at h
  | .fn _ _ _, .sl _ _ _ _, h => by simp only [covVb, Bool.false_eq_true] at h
  | .fn _ _ _, .mp _, h => by simp only [covVb, Bool.false_eq_true] at h
  | .fn _ _ _, .it _, h => by simp only [covVb, Bool.false_eq_true] at h
  | .fn _ _ _, .agg _, h => by simp only [covVb, Bool.false_eq_true] at h
  | .fn _ _ _, .ifc _ _, h => by simp only [covVb, Bool.false_eq_true] at h
  | .fn _ _ _, .tup _, h => by simp only [covVb, Bool.false_eq_true] at h
  | .fn _ _ _, .undef, h => by simp only [covVb, Bool.false_eq_true] at h
  | .fn _ _ _, .any, h => by simp only [covVb, Bool.false_eq_true] at h
theorem covVbL_ok (ρ : List (Nat × Nat)) : ∀ (vs us : List (V T)), covVb.goL ρ vs us = true → covV.goL ρ vs us
  | [], [], _ => by simp only [covV.goL]
  | [], _ :: _, h => by simp only [covVb.goL, Bool.false_eq_true] at h
  | _ :: _, [], h => by simp only [covVb.goL, Bool.false_eq_true] at h
  | v :: vs, u :: us, h => by
    simp only [covVb.goL] at h
    split at h
    · rename_i h1
      simp only [covV.goL]
      exact ⟨covVb_ok ρ v u h1, covVbL_ok ρ vs us h⟩
    · cases h
end

def covRb (ρ : List (Nat × Nat)) : List (List (V T)) → List (List (V T)) → Bool
  | [], [] => true
  | r :: rs, s :: ss => (match covVb.goL ρ r s with | true => covRb ρ rs ss | false => false)
  | _, _ => false
theorem covRb_ok (ρ : List (Nat × Nat)) : ∀ (xs ys : List (List (V T))), covRb ρ xs ys = true → covR ρ xs ys
  | [], [], _ => by simp only [covR]
  | [], _ :: _, h => by simp only [covRb, Bool.false_eq_true] at h
  | _ :: _, [], h => by simp only [covRb, Bool.false_eq_true] at h
  | v :: vs, u :: us, h => by
    simp only [covRb] at h
    split at h
    · rename_i h1
      simp only [covR]
      exact ⟨covVbL_ok ρ v u h1, covRb_ok ρ vs us h⟩
    · cases h
def covMb (ρ : List (Nat × Nat)) : List ((V T × V T) × Nat) → List ((V T × V T) × Nat) → Bool
  | [], [] => true
  | ((k, v), n) :: es, ((k', v'), n') :: us => (match Nat.beq n n' && covVb ρ k k' && covVb ρ v v' with | true => covMb ρ es us | false => false)
  | _, _ => false
theorem covMb_ok {ρ : List (Nat × Nat)} : ∀ {es us : List ((V T × V T) × Nat)}, covMb ρ es us = true → covM ρ es us
  | [], [], _ => trivial
  | [], _ :: _, h => by cases h
  | _ :: _, [], h => by cases h
  | ((k, v), n) :: es, ((k', v'), n') :: us, h => by
    simp only [covMb] at h
    split at h
    · rename_i h1
      obtain ⟨h1, h2⟩ := Bool.and_eq_true_iff.1 h1
      obtain ⟨h0, h1⟩ := Bool.and_eq_true_iff.1 h1
      exact (must_iff _ _).2 ⟨h0, covVb_ok _ _ _ h1, covVb_ok _ _ _ h2, covMb_ok h⟩
    · cases h
def covOb (ρ : List (Nat × Nat)) : O T → O T → Bool
  | .map c es, .map c' us => (match Nat.beq c c' with | true => covMb ρ es us | false => false)
  | .rows k xs, .rows k' ys => (match Nat.beq k k' with | true => covRb ρ xs ys | false => false)
  | _, _ => false
theorem covOb_ok {ρ : List (Nat × Nat)} {x y : O T} (h : covOb ρ x y = true) : covO ρ x y := by
  unfold covOb at h
  split at h
  · split at h
    · rename_i h1; exact (must_iff _ _).2 ⟨h1, covMb_ok h⟩
    · cases h
  · split at h
    · rename_i h1; exact (must_iff _ _).2 ⟨h1, covRb_ok ρ _ _ h⟩
    · cases h
  · cases h

def covOutsb (ρ : List (Nat × Nat)) (h : Tr (O T)) : List (Nat × Option (O T)) → Bool
  | [] => true
  | (_, none) :: l => covOutsb ρ h l
  | (i, some o) :: l => (match lookN ρ i with
    | some j => (match h.get j with | some o' => (match covOb ρ o o' with | true => covOutsb ρ h l | false => false) | none => false)
    | none => false)
theorem covOutsb_ok {ρ : List (Nat × Nat)} {h : Tr (O T)} : ∀ {l : List (Nat × Option (O T))}, covOutsb ρ h l = true → covOuts ρ h l
  | [], _ => by simp only [covOuts]
  | (_, none) :: l, h' => by simp only [covOutsb] at h'; simp only [covOuts]; exact covOutsb_ok h'
  | (i, some o) :: l, h' => by
    simp only [covOutsb] at h'
    split at h'
    · rename_i j hj
      split at h'
      · rename_i o' ho
        split at h'
        · rename_i h1
          simp only [covOuts, hj, ho]
          exact ⟨covOb_ok h1, covOutsb_ok h'⟩
        · cases h'
      · cases h'
    · cases h'

def CovRb (n : Nat) (r : V T × Hp T) (u : V T) (os : List (Option (O T))) : Bool :=
  let ρ := findOuts n r.2.h r.1 u os
  (selfB ρ n && nodupN (ρ.map (·.2)) && (ρ.all fun p => Nat.blt p.1 os.length) && Nat.ble n os.length) && (covVb ρ u r.1 && covOutsb ρ r.2.h (at0 0 os))
theorem CovRb_ok {n : Nat} {r : V T × Hp T} {u : V T} {os : List (Option (O T))} (h : CovRb n r u os = true) : CovR n r u os := by
  unfold CovRb at h
  obtain ⟨h1, h2⟩ := Bool.and_eq_true_iff.1 h
  obtain ⟨h2, h3⟩ := Bool.and_eq_true_iff.1 h2
  exact (must_iff _ _).2 ⟨h1, covVb_ok _ _ _ h2, covOutsb_ok h3⟩

/-- A closed run: the one way that it takes. -/
def Out.goB {α : Type} : Out α → (α → Bool) → Bool
  | .ret a, f => f a
  | .need b o, f => (match b with | true => o.goB f | false => false)
  | .br b x y, f => (match b with | true => x.goB f | false => y.goB f)
  | .bad, _ => false
theorem Out.goB_ok {α : Type} {f : α → Bool} {Q : α → Prop} (hf : ∀ r, f r = true → Q r) : ∀ {o : Out α}, o.goB f = true → o.K Q
  | .ret a, h => hf a h
  | .need b o, h => by
    cases b with
    | true => exact (must_iff _ _).2 ⟨rfl, Out.goB_ok hf (o := o) h⟩
    | false => cases h
  | .br b x y, h => by
    cases b with
    | true => exact Out.goB_ok hf (o := x) h
    | false => exact Out.goB_ok hf (o := y) h
  | .bad, h => by cases h

/-- A call: its arguments, the objects that they name, the answer, what became of the objects. -/
structure Memo (T : Nat → Type) where
  args : List (V T)
  objs : List (O T)
  ans : V T
  outs : List (Option (O T))

def memoSpec (tab : List (Memo T)) : Spec T where
  α := Nat
  args n := (match tab[n]? with | some m => m.args | none => [])
  objs n := (match tab[n]? with | some m => m.objs | none => [])
  pre n := Nat.blt n tab.length
  out n := (match tab[n]? with | some m => .ret (m.ans, m.outs) | none => .bad)
end

section
variable {reg : Reg} {P : Program}
def covAll (ρ : List (Nat × Nat)) (g : Nat → Option (O reg.T)) : List (O reg.T) → List Nat → Bool
  | [], [] => true
  | o :: os, i :: is => (match g i with | some u => (match covOb ρ o u with | true => covAll ρ g os is | false => false) | none => false)
  | _, _ => false
def memoIs (args : List (V reg.T)) (g : Nat → Option (O reg.T)) (ρ : List Nat) (m : Memo reg.T) : Bool :=
  match covVb.goL (at0 0 ρ) (m.args.take 1) (args.take 1) with
  | true => (match covAll (at0 0 ρ) g m.objs ρ with
    | true => covVb.goL (at0 0 ρ) m.args args
    | false => false)
  | false => false
def memoAt (args : List (V reg.T)) (g : Nat → Option (O reg.T)) (ρ : List Nat) : List (Memo reg.T) → Nat → Option Nat
  | [], _ => none
  | m :: l, n => (match memoIs args g ρ m with | true => some n | false => memoAt args g ρ l (n + 1))
def memoFind (tab : List (Memo reg.T)) (args : List (V reg.T)) (g : Nat → Option (O reg.T)) : Option (Nat × List Nat) :=
  let ρ := reach g 1000 0 (V.names.goL args [])
  match memoAt args g ρ tab 0 with | some n => some (n, ρ) | none => none

theorem memoAt_ok {args : List (V reg.T)} {g : Nat → Option (O reg.T)} {ρ : List Nat} : ∀ {l : List (Memo reg.T)} {n k : Nat}, memoAt args g ρ l n = some k → ∃ m, n ≤ k ∧ l[k - n]? = some m ∧ memoIs args g ρ m = true
  | m :: l, n, k, h => by
    simp only [memoAt] at h
    split at h
    · rename_i h1
      cases h
      exact ⟨m, Nat.le_refl _, by simp, h1⟩
    · obtain ⟨m', h2, h3, h4⟩ := memoAt_ok h
      refine ⟨m', by omega, ?_, h4⟩
      rw [show k - n = (k - (n + 1)) + 1 by omega]
      simpa using h3
theorem covAll_ok {ρ' : List (Nat × Nat)} {g : Nat → Option (O reg.T)} : ∀ {os : List (O reg.T)} {is : List Nat}, covAll ρ' g os is = true → is.length = os.length ∧ ∀ (j : Nat) (o : O reg.T), os[j]? = some o → ∃ (i : Nat) (u : O reg.T), is[j]? = some i ∧ g i = some u ∧ covO ρ' o u
  | [], [], _ => ⟨rfl, fun j o h => by simp at h⟩
  | [], _ :: _, h => by simp only [covAll, Bool.false_eq_true] at h
  | _ :: _, [], h => by simp only [covAll, Bool.false_eq_true] at h
  | o :: os, i :: is, h => by
    simp only [covAll] at h
    split at h
    · rename_i u hu
      split at h
      · rename_i h1
        obtain ⟨h2, h3⟩ := covAll_ok h
        refine ⟨by simp [h2], fun j o' ho => ?_⟩
        cases j with
        | zero => simp at ho; subst ho; exact ⟨i, u, by simp, hu, covOb_ok h1⟩
        | succ j => simpa using h3 j o' (by simpa using ho)
      · cases h
    · cases h

theorem memoFind_ok {tab : List (Memo reg.T)} {args : List (V reg.T)} {g : Nat → Option (O reg.T)} {n : Nat} {ρ : List Nat} (h : memoFind tab args g = some (n, ρ)) : ∃ m, tab[n]? = some m ∧ memoIs args g ρ m = true := by
  have h : (match memoAt args g (reach g 1000 0 (V.names.goL args [])) tab 0 with | some n => some (n, reach g 1000 0 (V.names.goL args [])) | none => none) = some (n, ρ) := h
  split at h
  · rename_i k hk
    cases h
    obtain ⟨m, _, h2, h3⟩ := memoAt_ok hk
    exact ⟨m, h2, h3⟩
  · cases h
def memoMeet (tab : List (Memo reg.T)) : Meet (memoSpec tab) where
  find := memoFind tab
  ok := by
    intro args g a ρ h
    obtain ⟨m, h2, h3⟩ := memoFind_ok h
    unfold memoIs at h3
    split at h3
    · split at h3
      · rename_i h4
        obtain ⟨h5, h6⟩ := covAll_ok h4
        simp only [memoSpec, h2]
        exact ⟨covVbL_ok _ _ _ h3, h5, h6⟩
      · cases h3
    · cases h3

/-- A row of the table holds: the closed run says so. -/
def memoRow (P : Program) (hd : Hd reg.T) (fuel : Nat) (f : FuncId) (m : Memo reg.T) : Bool :=
  ((exFun P hd fuel f m.args (canH m.objs)).bind (tidyLeaf reg (canH m.objs))).goB fun r => CovRb m.objs.length r m.ans m.outs
structure MemoRow (P : Program) (hd : Hd reg.T) (fuel : Nat) (f : FuncId) (m : Memo reg.T) : Prop where
  mk ::
  is : memoRow P hd fuel f m = true

theorem memoSpec_ok (hm : P.follows .mixedOrders = true) {hd : Hd reg.T} (hHd : HdSound P hd) (hno : ∀ (f : FuncId) fn, P.funcs[f]? = some fn → fn.body.isNone = false → (fn.name == "runtime.NumGoroutine") = false) {fuel : Nat} {f : FuncId} {tab : List (Memo reg.T)}
    (ht : There P f) (h : ∀ m ∈ tab, MemoRow P hd fuel f m) : SpecOk P f (memoSpec tab) := by
  refine specOk_of_leaf hm hHd hno (fuel := fuel) ht fun (a : Nat) hp => ?_
  have hp : Nat.blt a tab.length = true := hp
  have hp : a < tab.length := by simpa using hp
  have e : tab[a]? = some tab[a] := List.getElem?_eq_getElem hp
  have h1 := (h tab[a] (List.getElem_mem hp)).is
  simp only [memoSpec, e]
  exact Out.goB_ok (fun r hr => (CovRb_ok hr : CovR _ _ _ _)) h1
end
end Go.W
