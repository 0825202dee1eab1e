/- Contracts: what a function does to objects, whatever their names. No conditions. -/
import Derived.Test.YtmnkbfflpgmkmaaGreatDoorWA
namespace Go.W
open Go Go.RowKit

section
variable {T : Nat → Type}
/-- A value under other names. -/
def V.ren (σ : Nat → Nat) : V T → V T
  | .ptr i r o => .ptr (σ i) r o
  | .sl i off len cap => .sl (σ i) off len cap
  | .mp i => .mp (σ i)
  | .it i => .it (σ i)
  | .fn f vs us => .fn f (goL σ vs) (goL σ us)
  | .ifc t v => .ifc t (V.ren σ v)
  | .agg vs => .agg (goL σ vs)
  | .tup vs => .tup (goL σ vs)
  | v => v
where goL (σ : Nat → Nat) : List (V T) → List (V T)
  | [] => []
  | v :: vs => V.ren σ v :: goL σ vs
def O.ren (σ : Nat → Nat) : O T → O T
  | .rows k xs => .rows k (xs.map (V.ren.goL σ))
  | .trows e xs => .trows e xs
  | .map c es => .map c (es.map fun e => ((V.ren σ e.1.1, V.ren σ e.1.2), e.2))
  | .sit s p => .sit s p

/-- A list, at the numbers from n on. -/
def at0 {α : Type} : Nat → List α → List (Nat × α)
  | _, [] => []
  | n, x :: l => (n, x) :: at0 (n + 1) l

/-- A heap of the objects of a list. -/
def canH (os : List (O T)) : Hp T := ⟨setAll (at0 0 os) .e, os.length, []⟩

/-- What a function does: its arguments, the objects that they name (an object's name is its place), what is to hold; the answer, and what became of the objects (new ones behind). -/
structure Spec (T : Nat → Type) where
  α : Type
  args : α → List (V T)
  objs : α → List (O T)
  pre : α → Bool
  out : α → Out (V T × List (Option (O T)))

/-- Whatever comes out. -/
def Out.All {α : Type} : Out α → (α → Prop) → Prop
  | .ret a, Q => Q a
  | .need b o, Q => b = true → o.All Q
  | .br b x y, Q => branch b (x.All Q) (y.All Q)
  | .bad, _ => True
theorem Out.All_of {α : Type} {o : Out α} {Q : α → Prop} : o.All Q → ∀ r, o.K (· = r) → Q r := by
  induction o with
  | ret a => intro h r hr; have hr : a = r := hr; subst hr; exact h
  | need b o ih => intro h r hr; obtain ⟨h1, h2⟩ := (must_iff _ _).1 hr; exact ih (h h1) r h2
  | br b x y ihx ihy => intro h r hr; simp only [Out.All, Out.K] at h hr; cases b <;> simp only [branch] at h hr <;> first | exact ihx h r hr | exact ihy h r hr
  | bad => intro _ r hr; exact hr.elim

def covOuts (ρ : List (Nat × Nat)) (h : Tr (O T)) : List (Nat × Option (O T)) → Prop
  | [] => True
  | (_, none) :: l => covOuts ρ h l
  | (i, some o) :: l => (match lookN ρ i with
    | some j => (match h.get j with | some o' => covO ρ o o' ∧ covOuts ρ h l | none => False)
    | none => False)

def pairsOuts (h : Tr (O T)) : List (Nat × Option (O T)) → List (Nat × Nat) → List (Nat × Nat)
  | [], l => l
  | (_, none) :: r, l => pairsOuts h r l
  | (i, some o) :: r, l => pairsOuts h r (match lookN l i with
    | some j => (match o, h.get j with | .rows _ xs, some (.rows _ ys) => pairsR xs ys l | _, _ => l)
    | none => l)

def findOuts (n : Nat) (h : Tr (O T)) (v u : V T) (os : List (Option (O T))) : List (Nat × Nat) := pairsOuts h (at0 0 os) (V.pairs u v (selfN n))

/-- An answer that stands for what the contract says. -/
def CovR (n : Nat) (r : V T × Hp T) (u : V T) (os : List (Option (O T))) : Prop :=
  let ρ := findOuts n r.2.h r.1 u os
  must (selfB ρ n && nodupN (ρ.map (·.2)) && (ρ.all fun p => Nat.blt p.1 os.length) && Nat.ble n os.length) (covV ρ u r.1 ∧ covOuts ρ r.2.h (at0 0 os))
end

section
variable {reg : Reg} {P : Program}

theorem at0_get {α : Type} : ∀ (n : Nat) (l : List α) (j : Nat) (x : α), (j, x) ∈ at0 n l ↔ n ≤ j ∧ l[j - n]? = some x
  | n, [], j, x => by simp [at0]
  | n, y :: l, j, x => by
    simp only [at0, List.mem_cons, Prod.mk.injEq, at0_get (n + 1) l j x]
    constructor
    · rintro (⟨rfl, rfl⟩ | ⟨h1, h2⟩)
      · simp
      · refine ⟨by omega, ?_⟩
        rw [show j - n = (j - (n + 1)) + 1 by omega]
        simpa using h2
    · rintro ⟨h1, h2⟩
      by_cases h : j = n
      · subst h; simp at h2; exact .inl ⟨rfl, h2.symm⟩
      · right
        refine ⟨by omega, ?_⟩
        rw [show j - n = (j - (n + 1)) + 1 by omega] at h2
        simpa using h2

theorem covOuts_get {ρ : List (Nat × Nat)} {h : Tr (O reg.T)} : ∀ {l : List (Nat × Option (O reg.T))}, covOuts ρ h l → ∀ {i o}, (i, some o) ∈ l → ∃ j u, lookN ρ i = some j ∧ h.get j = some u ∧ covO ρ o u
  | (k, none) :: l, hc, i, o, hm => by
    rcases List.mem_cons.1 hm with hm | hm
    · cases hm
    · exact covOuts_get (by simpa only [covOuts] using hc) hm
  | (k, some x) :: l, hc, i, o, hm => by
    simp only [covOuts] at hc
    split at hc
    · rename_i j hj
      split at hc
      · rename_i u hu
        rcases List.mem_cons.1 hm with hm | hm
        · cases hm; exact ⟨j, u, hj, hu, hc.1⟩
        · exact covOuts_get hc.2 hm
      · exact hc.elim
    · exact hc.elim

theorem renL_map {T : Nat → Type} (σ : Nat → Nat) : ∀ vs : List (V T), V.ren.goL σ vs = vs.map (V.ren σ)
  | [] => rfl
  | v :: vs => by simp [V.ren.goL, renL_map σ vs]

theorem ren_solid {T : Nat → Type} {σ : Nat → Nat} {v : V T} : (v.ren σ).solid = v.solid := by cases v <;> simp [V.ren, V.solid]

theorem getD_ren {σ : Nat → Nat} {vs : List (V reg.T)} {j : Nat} (hj : j < vs.length) : (V.ren.goL σ vs).getD j .any = (vs.getD j .any).ren σ := by
  rw [renL_map, getD_map_lt _ _ _ _ .any hj]
theorem len_ren {σ : Nat → Nat} {vs : List (V reg.T)} : (V.ren.goL σ vs).length = vs.length := by rw [renL_map, List.length_map]

theorem ren_rel {F : Nat → Prop} {w : World} {φ φ' : Phi} {σ : Nat → Nat} (hφ : ∀ i p, φ i = some p → φ' (σ i) = some p) {v : V reg.T} {cv : Value} (h : VRel reg F w φ v cv) : VRel reg F w φ' (v.ren σ) cv := by
  have lists : ∀ {vs : List (V reg.T)} {cs : Array Value}, (∀ j, j < vs.length → VRel reg F w φ' ((vs.getD j .any).ren σ) (cs.getD j undef)) → ∀ j, j < (V.ren.goL σ vs).length → VRel reg F w φ' ((V.ren.goL σ vs).getD j .any) (cs.getD j undef) := by
    intro vs cs ih j hj
    rw [len_ren] at hj
    rw [getD_ren hj]
    exact ih j hj
  induction h with
  | d x v hd => exact .d x v hd
  | ptr i r o b s k z hp => exact .ptr _ r o b s k z (hφ _ _ hp)
  | fp row o a C t fz hFa hb hz hr => exact .fp row o a C t fz hFa hb hz hr
  | sl j off len cap b s k z cap' hp hc hl hm' hz => exact .sl _ off len cap b s k z cap' (hφ _ _ hp) hc hl hm' hz
  | slz j off cap base hc hb => exact .slz _ off cap base hc hb
  | mp i b s hp => exact .mp _ b s (hφ _ _ hp)
  | it i b s hp => exact .it _ b s (hφ _ _ hp)
  | fn f caps fst cs fs hz _ hz' _ ih ih' => exact .fn f _ _ cs fs (by rw [len_ren]; exact hz) (lists ih) (by rw [len_ren]; exact hz') (lists ih')
  | agg vs cs hz _ ih => exact .agg _ cs (by rw [len_ren]; exact hz) (lists ih)
  | tup vs cs hz _ ih => exact .tup _ cs (by rw [len_ren]; exact hz) (lists ih)
  | ifc t v cv _ ih => exact .ifc t _ cv ih
  | undef => exact .undef
  | any v => exact .any v

theorem ren_ents {F : Nat → Prop} {w : World} {φ φ' : Phi} {σ : Nat → Nat} (hφ : ∀ i p, φ i = some p → φ' (σ i) = some p) {es : List ((V reg.T × V reg.T) × Nat)} {cs : List MapEntry} (h : Ents reg F w φ es cs) : Ents reg F w φ' (es.map fun e => ((V.ren σ e.1.1, V.ren σ e.1.2), e.2)) cs := by
  induction h with
  | nil => exact .nil
  | cons k v n c es cs hk hv hn _ ih => exact .cons _ _ n c _ cs (ren_rel hφ hk) (ren_rel hφ hv) hn ih
theorem ren_orel {F : Nat → Prop} {w : World} {φ φ' : Phi} {σ : Nat → Nat} (hφ : ∀ i p, φ i = some p → φ' (σ i) = some p) {j : Nat} (hn : φ j = none → φ' (σ j) = none) {o : O reg.T} (h : ORel reg F w φ j o) : ORel reg F w φ' (σ j) (o.ren σ) := by
  cases o with
  | map c es =>
    obtain ⟨b, ces, h1, h2, h3⟩ := h.map reg
    exact .inr (.inl ⟨c, _, b, ces, rfl, hφ _ _ h1, h2, ren_ents hφ h3⟩)
  | sit s p =>
    obtain ⟨b, h1, h2⟩ := h.sit reg
    exact .inr (.inr ⟨s, p, b, rfl, hφ _ _ h1, h2⟩)
  | trows e xs =>
    obtain ⟨h0, h⟩ := h.rows reg rfl
    refine .inl ⟨h0, ?_⟩
    rcases h with ⟨h1, h2⟩ | ⟨b, s, C, t, fz, h1, h2, h3, h4⟩
    · exact .inl ⟨h1, hn h2⟩
    · refine .inr ⟨b, s, C, t, fz, hφ _ _ h1, h2, h3, ⟨h4.size, h4.len, ⟨h4.at_.wid, h4.at_.solid, fun r c hr hc => ?_⟩⟩⟩
      have h5 := h4.at_.rel r c hr hc
      have hw := h4.at_.wid r hr
      have hd : ∃ x, ((O.trows e xs).row reg r).getD c .any = .d x := by
        have hc : c < reg.k e := hc
        simp only [O.row, O.k] at hw ⊢
        rw [List.length_map] at hw
        exact ⟨_, getD_map_d _ _ (by omega)⟩
      obtain ⟨x, hx⟩ := hd
      show VRel reg F w φ' (((O.trows e xs).row reg r).getD c .any) _
      rw [hx] at h5 ⊢
      exact .d _ _ h5.d_inv
  | rows k xs =>
    obtain ⟨_, h⟩ := h.rows reg rfl
    refine .inl ⟨rfl, ?_⟩
    have hrow : ∀ r, r < xs.length → (O.rows k (xs.map (V.ren.goL σ))).row reg r = V.ren.goL σ (xs.getD r []) := fun r hr => by
      simp only [O.row]; rw [getD_map_lt _ _ _ _ [] hr]
    rcases h with ⟨h1, h2⟩ | ⟨b, s, C, t, fz, h1, h2, h3, h4⟩
    · exact .inl ⟨by simpa [O.len, O.ren] using h1, hn h2⟩
    · refine .inr ⟨b, s, C, t, fz, hφ _ _ h1, h2, h3, ⟨by simpa [O.len, O.k, O.ren] using h4.size, by simpa [O.len, O.ren] using h4.len, ⟨fun r hr => ?_, fun r c hr hc => ?_, fun r c hr hc => ?_⟩⟩⟩
      · have hr : r < xs.length := by simpa [O.len, O.ren] using hr
        show ((O.rows k (xs.map (V.ren.goL σ))).row reg r).length = _
        rw [hrow r hr, len_ren]
        exact h4.at_.wid r hr
      · have hr : r < xs.length := by simpa [O.len, O.ren] using hr
        have hw : (xs.getD r []).length = k := h4.at_.wid r hr
        show (((O.rows k (xs.map (V.ren.goL σ))).row reg r).getD c .any).solid = true
        rw [hrow r hr, getD_ren (by rw [hw]; exact hc), ren_solid]
        exact h4.at_.solid r c hr hc
      · have hr : r < xs.length := by simpa [O.len, O.ren] using hr
        have hw : (xs.getD r []).length = k := h4.at_.wid r hr
        show VRel reg F w φ' (((O.rows k (xs.map (V.ren.goL σ))).row reg r).getD c .any) _
        rw [hrow r hr, getD_ren (by rw [hw]; exact hc)]
        exact ren_rel hφ (h4.at_.rel r c hr hc)

/-- What is shown of a function, once. -/
def SpecOk (P : Program) (f : FuncId) (S : Spec reg.T) : Prop :=
  There P f ∧ ∀ a, S.pre a = true → ∀ F φ w cargs, HRel reg F φ (fun j => j < (S.objs a).length) (canH (S.objs a)).get w → LRel F w φ (S.args a) cargs →
    ∀ q, (S.out a).K (· = q) → Calls P f cargs w (CallPost (fun j => j < (S.objs a).length) F φ (canH (S.objs a)) w fun r => CovR (S.objs a).length r q.1 q.2)

/-- How a contract is met: the arguments, and which objects they name. -/
structure Meet (S : Spec reg.T) where
  find : List (V reg.T) → (Nat → Option (O reg.T)) → Option (S.α × List Nat)
  ok : ∀ (args : List (V reg.T)) (g : Nat → Option (O reg.T)) (a : S.α) (ρ : List Nat), find args g = some (a, ρ) → covV.goL (at0 0 ρ) (S.args a) args ∧ ρ.length = (S.objs a).length ∧ ∀ (j : Nat) (o : O reg.T), (S.objs a)[j]? = some o → ∃ (i : Nat) (u : O reg.T), ρ[j]? = some i ∧ g i = some u ∧ covO (at0 0 ρ) o u

/-- The names behind a call. -/
def newN (n nx : Nat) (ρ : List Nat) (j : Nat) : Nat := match Nat.blt j n with | true => ρ.getD j 0 | false => Nat.add nx (Nat.sub j n)

def setOuts {T : Nat → Type} (σ : Nat → Nat) : List (Nat × Option (O T)) → Tr (O T) → Tr (O T)
  | [], t => t
  | (j, o) :: l, t => (setOuts σ l t).set (σ j) (match o with | some o => some (o.ren σ) | none => none)

/-- The contract, as the evaluator takes it. -/
def Spec.con (S : Spec reg.T) (M : Meet S) (args : List (V reg.T)) (h : Hp reg.T) : Out (V reg.T × Hp reg.T) :=
  match M.find args h.get with
  | none => .bad
  | some (a, ρ) =>
    .need (S.pre a) ((S.out a).bind fun q =>
      let n := ρ.length
      let nx := Nat.add h.nx (Nat.sub q.2.length n)
      let σ := newN n h.nx ρ
      Out.ask (nodupN ρ && ρ.all Tr.ok && Nat.ble n q.2.length && Tr.ok nx) (.ret (q.1.ren σ, ⟨setOuts σ (at0 0 q.2) h.h, nx, ρ ++ h.wr⟩)))

theorem lookN_at0 {α : Type} : ∀ (n : Nat) (l : List α) (j : Nat), lookN (at0 n l) j = if n ≤ j then l[j - n]? else none
  | n, [], j => by simp [at0, lookN]
  | n, y :: l, j => by
    simp only [at0, lookN]
    cases hb : Nat.beq n j with
    | true =>
      have := Nat.eq_of_beq_eq_true hb
      subst this
      simp
    | false =>
      have hne : n ≠ j := fun e => by subst e; simp [Nat.beq_refl] at hb
      rw [lookN_at0 (n + 1) l j]
      by_cases h : n ≤ j
      · rw [if_pos h, if_pos (by omega), show j - n = (j - (n + 1)) + 1 by omega]; simp
      · rw [if_neg h, if_neg (by omega)]

theorem nodupN_get : ∀ {l : List Nat}, nodupN l = true → ∀ {i j k : Nat}, l[i]? = some k → l[j]? = some k → i = j
  | x :: l, h, i, j, k, hi, hj => by
    simp only [nodupN, Bool.and_eq_true, Bool.not_eq_true'] at h
    have hn : ∀ m, l[m]? ≠ some x := fun m hm => by
      have : memN l x = true := memN_iff.2 (List.mem_of_getElem? hm)
      rw [h.1] at this; cases this
    cases i with
    | zero =>
      cases j with
      | zero => rfl
      | succ j => simp at hi hj; subst hi; exact (hn _ hj).elim
    | succ i =>
      cases j with
      | zero => simp at hi hj; subst hj; exact (hn _ hi).elim
      | succ j => simp at hi hj; rw [nodupN_get h.2 hi hj]

theorem lookN_val_inj {ρ : List (Nat × Nat)} (h : nodupN (ρ.map (·.2)) = true) {i j k : Nat} (hi : lookN ρ i = some k) (hj : lookN ρ j = some k) : i = j := nodupN_spec h (lookN_mem hi) (lookN_mem hj)

theorem canH_get {os : List (O reg.T)} (h : os.length ≤ 1000000000) (j : Nat) : (canH os).get j = os[j]? := by
  have key : ∀ (l : List (O reg.T)) (n : Nat), n + l.length ≤ 1000000000 → (setAll (at0 n l) .e).get j = if n ≤ j then l[j - n]? else none := by
    intro l
    induction l with
    | nil => intro n _; simp [at0, setAll, Tr.get_e]
    | cons o l ih =>
      intro n hn
      simp only [List.length_cons] at hn
      simp only [at0, setAll]
      rw [Tr.get_set (by unfold Tr.ok; simp; omega), ih (n + 1) (by omega)]
      by_cases hj : j = n
      · subst hj; simp
      · rw [if_neg hj]
        by_cases h1 : n ≤ j
        · rw [if_pos h1, if_pos (by omega), show j - n = (j - (n + 1)) + 1 by omega]; simp
        · rw [if_neg h1, if_neg (by omega)]
  have := key os 0 (by omega)
  simpa [canH, Hp.get] using this

theorem setOuts_get {σ : Nat → Nat} : ∀ {l : List (Nat × Option (O reg.T))} {t : Tr (O reg.T)}, (∀ p ∈ l, Tr.ok (σ p.1) = true) → (∀ p ∈ l, ∀ q ∈ l, σ p.1 = σ q.1 → p = q) →
    (∀ p ∈ l, (setOuts σ l t).get (σ p.1) = p.2.map (O.ren σ)) ∧ ∀ i, (∀ p ∈ l, i ≠ σ p.1) → (setOuts σ l t).get i = t.get i
  | [], t, _, _ => ⟨fun p hp => by simp at hp, fun i _ => rfl⟩
  | (j, o) :: l, t, hk, hd => by
    obtain ⟨h1, h2⟩ := setOuts_get (l := l) (t := t) (fun p hp => hk p (by simp [hp])) (fun p hp q hq => hd p (by simp [hp]) q (by simp [hq]))
    refine ⟨fun p hp => ?_, fun i hi => ?_⟩
    · simp only [setOuts]
      rw [Tr.get_set (hk (j, o) (by simp))]
      by_cases he : σ p.1 = σ j
      · have := hd p hp (j, o) (by simp) he
        subst this
        rw [if_pos rfl]
        cases o <;> rfl
      · rw [if_neg he]
        rcases List.mem_cons.1 hp with hp | hp
        · subst hp; exact (he rfl).elim
        · exact h1 p hp
    · simp only [setOuts]
      rw [Tr.get_set (hk (j, o) (by simp)), if_neg (hi (j, o) (by simp))]
      exact h2 i (fun p hp => hi p (by simp [hp]))

theorem phiC_at0 {ρ : List Nat} {φ : Phi} {j : Nat} {p : Nat × Nat × Nat × Nat} (h : phiC (at0 0 ρ) φ j = some p) : ∃ i, ρ[j]? = some i ∧ φ i = some p := by
  unfold phiC at h
  rw [lookN_at0] at h
  simp only [Nat.zero_le, if_true, Nat.sub_zero] at h
  split at h
  · rename_i i hi; exact ⟨i, hi, h⟩
  · cases h
theorem phiC_at0_eq {ρ : List Nat} {φ : Phi} {i j : Nat} (h : ρ[j]? = some i) : phiC (at0 0 ρ) φ j = φ i := by
  unfold phiC
  rw [lookN_at0]
  simp [h]

/-- A contract that was shown holds wherever it is met. -/
theorem Spec.con_ok {f : FuncId} {S : Spec reg.T} (hS : SpecOk P f S) (M : Meet S) (hsz : ∀ a, (S.objs a).length ≤ 1000000) : ∀ args h Q, (S.con M args h).K Q →
    There P f ∧ ∀ N F φ w cargs, (∀ r, Q r → Fresh N h.nx r.2.nx) → HR N F φ h w → LRel F w φ args cargs → Calls P f cargs w (CallPost N F φ h w Q) := by
  intro args h Q hq
  unfold Spec.con at hq
  split at hq
  · exact hq.elim
  rename_i a ρ hf
  obtain ⟨hp, hq⟩ := Out.K_need.1 hq
  rw [Out.K_bind, Out.K_iff] at hq
  obtain ⟨q, hout0, hq⟩ := hq
  obtain ⟨hc, hq⟩ := Out.K_ask.1 hq
  simp only [Bool.and_eq_true, List.all_eq_true] at hc
  obtain ⟨⟨⟨hnd, hok⟩, hle⟩, hnx⟩ := hc
  have hle : ρ.length ≤ q.2.length := Nat.le_of_ble_eq_true hle
  obtain ⟨hca, hln, hobj⟩ := M.ok args h.get a ρ hf
  have hsz := hsz a
  refine ⟨hS.1, fun N F φ w cargs hfr hH hl => ?_⟩
  have hfr := hfr _ hq
  have hfr : ∀ i, h.nx ≤ i → i < h.nx + (q.2.length - ρ.length) → ¬N i := hfr
  have hnx : Tr.ok (h.nx + (q.2.length - ρ.length)) = true := hnx
  have hget : ∀ j, (canH (S.objs a)).get j = (S.objs a)[j]? := canH_get (by omega)
  have hρ : ∀ j, j < ρ.length → ∃ (i : Nat) (u : O reg.T) (o : O reg.T), ρ[j]? = some i ∧ h.get i = some u ∧ (S.objs a)[j]? = some o ∧ covO (at0 0 ρ) o u := by
    intro j hj
    have hj' : j < (S.objs a).length := by omega
    obtain ⟨i, u, h1, h2, h3⟩ := hobj j _ (List.getElem?_eq_getElem hj')
    exact ⟨i, u, _, h1, h2, List.getElem?_eq_getElem hj', h3⟩
  have hρN : ∀ j i : Nat, ρ[j]? = some i → N i := by
    intro j i hi
    obtain ⟨i', u, o, h1, h2, _⟩ := hρ j (List.getElem?_eq_some_iff.1 hi).1
    rw [hi] at h1
    cases h1
    exact hH.lt i u h2
  have hc0 : HRel reg F (phiC (at0 0 ρ) φ) (fun j => j < (S.objs a).length) (canH (S.objs a)).get w := by
    refine ⟨fun j o ho => ?_, fun j o b s k ho hpj => ?_, fun j j' oj oj' b s1 k1 s2 k2 hj hj' hpj hpj' => ?_, fun j p hpj => ?_, fun j o ho => ?_, fun j hj => ?_, hH.frz, hH.lay⟩
    · rw [hget] at ho
      obtain ⟨i, u, h1, h2, h3⟩ := hobj j o ho
      exact covO_rel (by rw [lookN_at0]; simpa using h1) h3 (hH.obj i u h2)
    · rw [hget] at ho
      obtain ⟨i, u, h1, h2, h3⟩ := hobj j o ho
      rw [phiC_at0_eq h1] at hpj
      exact hH.own i u b s k h2 hpj
    · rw [hget] at hj hj'
      obtain ⟨i, u, h1, h2, _⟩ := hobj j oj hj
      obtain ⟨i', u', h1', h2', _⟩ := hobj j' oj' hj'
      rw [phiC_at0_eq h1] at hpj
      rw [phiC_at0_eq h1'] at hpj'
      have := hH.inj i i' u u' b s1 k1 s2 k2 h2 h2' hpj hpj'
      subst this
      exact nodupN_get hnd h1 h1'
    · obtain ⟨i, h1, _⟩ := phiC_at0 hpj
      have := (List.getElem?_eq_some_iff.1 h1).1
      show j < _
      omega
    · rw [hget] at ho
      exact (List.getElem?_eq_some_iff.1 ho).1
    · have hj : j < (S.objs a).length := hj
      unfold Tr.ok; simp; omega
  have hl0 : LRel F w (phiC (at0 0 ρ) φ) (S.args a) cargs := by
    obtain ⟨h1, h2⟩ := covL_get hca
    exact ⟨by rw [h1]; exact hl.1, fun j hj => (covV_rel (hl.2 j (by omega)) (h2 j hj)).1⟩
  refine (hS.2 a hp F _ w cargs hc0 hl0 q hout0).mono fun e w' he => ?_
  obtain ⟨cv, he, v1, h1, N1, F1, φ1, hcov, hv, hP, hG⟩ := he
  refine ⟨cv, he, ?_⟩
  obtain ⟨hcb, hcv, hch⟩ := (must_iff _ _).1 hcov
  generalize findOuts (S.objs a).length h1.h v1 q.1 q.2 = κ at hcb hcv hch
  simp only [Bool.and_eq_true, List.all_eq_true] at hcb
  obtain ⟨⟨⟨hself, hκ⟩, hκlt⟩, _⟩ := hcb
  have hself : ∀ j, j < ρ.length → lookN κ j = some j := fun j hj => selfB_get hself (by omega)
  have hκlt : ∀ j k, lookN κ j = some k → j < q.2.length := fun j k hk => by simpa using hκlt _ (lookN_mem hk)
  have hφ1 : ∀ j i : Nat, ρ[j]? = some i → phiC κ φ1 j = φ i := by
    intro j i hi
    have hj := (List.getElem?_eq_some_iff.1 hi).1
    unfold phiC
    rw [hself j hj]
    show φ1 j = φ i
    rw [hG.goes.phi j (show j < _ by omega), phiC_at0_eq hi]
  let σ := newN ρ.length h.nx ρ
  have hσold : ∀ j i : Nat, ρ[j]? = some i → σ j = i := by
    intro j i hi
    have hj := (List.getElem?_eq_some_iff.1 hi).1
    show newN ρ.length h.nx ρ j = i
    unfold newN
    rw [show Nat.blt j ρ.length = true by simpa using hj]
    simp [List.getD, hi]
  have hσnew : ∀ j, ρ.length ≤ j → σ j = h.nx + (j - ρ.length) := by
    intro j hj
    show newN ρ.length h.nx ρ j = _
    unfold newN
    rw [show Nat.blt j ρ.length = false by cases hb : Nat.blt j ρ.length with
    | false => rfl
    | true => have := Nat.le_of_ble_eq_true hb; omega]
    rfl
  let φ2 : Phi := fun i => if h.nx ≤ i ∧ i < h.nx + (q.2.length - ρ.length) then phiC κ φ1 (ρ.length + (i - h.nx)) else φ i
  have hφN : ∀ i, N i → φ2 i = φ i := fun i hi => if_neg (fun ⟨a1, a2⟩ => hfr i a1 a2 hi)
  have hφσ : ∀ j, j < q.2.length → φ2 (σ j) = phiC κ φ1 j := by
    intro j hj
    by_cases hjn : j < ρ.length
    · obtain ⟨i, _, _, hi, _⟩ := hρ j hjn
      rw [hσold j i hi, hφN i (hρN j i hi), hφ1 j i hi]
    · rw [hσnew j (by omega)]
      show (if _ then _ else _) = _
      rw [if_pos (by omega), show ρ.length + (h.nx + (j - ρ.length) - h.nx) = j by omega]
  have hφto : ∀ j p, phiC κ φ1 j = some p → φ2 (σ j) = some p := by
    intro j p hpj
    rw [hφσ j ?_, hpj]
    unfold phiC at hpj
    split at hpj
    · rename_i k hk; exact hκlt j k hk
    · cases hpj
  have hσinj : ∀ j j', j < q.2.length → j' < q.2.length → σ j = σ j' → j = j' := by
    have key : ∀ j j', j < ρ.length → ρ.length ≤ j' → j' < q.2.length → σ j ≠ σ j' := by
      intro j j' hj hj1 hj2 he
      obtain ⟨i, _, _, hi, _⟩ := hρ j hj
      rw [hσold j i hi, hσnew j' hj1] at he
      exact hfr i (by omega) (by omega) (hρN j i hi)
    intro j j' hj hj' he
    by_cases h1 : j < ρ.length <;> by_cases h2 : j' < ρ.length
    · obtain ⟨i, _, _, hi, _⟩ := hρ j h1
      obtain ⟨i', _, _, hi', _⟩ := hρ j' h2
      rw [hσold j i hi, hσold j' i' hi'] at he
      subst he
      exact nodupN_get hnd hi hi'
    · exact (key j j' h1 (by omega) hj' he).elim
    · exact (key j' j h2 (by omega) hj he.symm).elim
    · rw [hσnew j (by omega), hσnew j' (by omega)] at he; omega
  have hat : ∀ p ∈ at0 0 q.2, p.1 < q.2.length ∧ q.2[p.1]? = some p.2 := by
    rintro ⟨j, o⟩ hm
    have := ((at0_get 0 _ j o).1 hm).2
    simp only [Nat.sub_zero] at this
    exact ⟨(List.getElem?_eq_some_iff.1 this).1, this⟩
  have hσok : ∀ j, j < q.2.length → Tr.ok (σ j) = true := by
    intro j hj
    by_cases h1 : j < ρ.length
    · obtain ⟨i, _, _, hi, _⟩ := hρ j h1
      rw [hσold j i hi]
      exact hok i (List.mem_of_getElem? hi)
    · rw [hσnew j (by omega)]
      exact ok_lt hnx (by omega)
  obtain ⟨hs1, hs2⟩ := setOuts_get (σ := σ) (l := at0 0 q.2) (t := h.h) (fun p hp => hσok _ (hat p hp).1) (fun p hp q hq he => by
    have e := hσinj _ _ (hat p hp).1 (hat q hq).1 he
    have h1 := (hat p hp).2
    have h2 := (hat q hq).2
    rw [e, h2] at h1
    exact Prod.ext e (Option.some.inj h1).symm)
  let h2 : Hp reg.T := ⟨setOuts σ (at0 0 q.2) h.h, h.nx + (q.2.length - ρ.length), ρ ++ h.wr⟩
  have hout : ∀ (j : Nat) o, q.2[j]? = some o → h2.get (σ j) = o.map (O.ren σ) := fun j o ho => hs1 (j, o) ((at0_get 0 _ j o).2 ⟨Nat.zero_le _, by simpa using ho⟩)
  have hother : ∀ i, (∀ j, j < q.2.length → i ≠ σ j) → h2.get i = h.get i := fun i hi => hs2 i (fun p hp => hi _ (hat p hp).1)
  have cases' : ∀ i o, h2.get i = some o → (∃ (j : Nat) (oj : O reg.T) (k : Nat) (u : O reg.T), q.2[j]? = some (some oj) ∧ σ j = i ∧ o = oj.ren σ ∧ lookN κ j = some k ∧ h1.get k = some u ∧ covO κ oj u) ∨ (h.get i = some o ∧ ∀ j : Nat, ρ[j]? ≠ some i) := by
    intro i o hi
    by_cases hj : ∃ j, j < q.2.length ∧ i = σ j
    · obtain ⟨j, hj, rfl⟩ := hj
      have ho := List.getElem?_eq_getElem hj
      rw [hout j _ ho] at hi
      cases hoj : q.2[j] with
      | none => rw [hoj] at hi; simp at hi
      | some oj =>
        rw [hoj] at hi ho
        simp only [Option.map_some, Option.some.injEq] at hi
        obtain ⟨k, u, b1, b2, b3⟩ := covOuts_get hch ((at0_get 0 _ j _).2 ⟨Nat.zero_le _, by simpa using ho⟩)
        exact .inl ⟨j, oj, k, u, ho, rfl, hi.symm, b1, b2, b3⟩
    · have hj : ∀ j, j < q.2.length → i ≠ σ j := fun j h1 h2 => hj ⟨j, h1, h2⟩
      rw [hother i hj] at hi
      refine .inr ⟨hi, fun j hρj => ?_⟩
      exact hj j (Nat.lt_of_lt_of_le (List.getElem?_eq_some_iff.1 hρj).1 hle) (hσold j i hρj).symm
  -- what lies outside
  have hOwn : ∀ b, Owned reg (phiC (at0 0 ρ) φ) (canH (S.objs a)).get b → Owned reg φ h.get b := by
    rintro b ⟨j, o, s, k, hj, hpj⟩
    rw [hget] at hj
    obtain ⟨i, u, g1, g2, _⟩ := hobj j o hj
    rw [phiC_at0_eq g1] at hpj
    exact ⟨i, u, s, k, g2, hpj⟩
  have apart : ∀ i o b s k, h.get i = some o → (∀ j : Nat, ρ[j]? ≠ some i) → φ i = some (b, s, k) → ¬Owned reg (phiC (at0 0 ρ) φ) (canH (S.objs a)).get b := by
    rintro i o b s k hi hn hpi ⟨j, oj, s', k', hj, hpj⟩
    rw [hget] at hj
    obtain ⟨i', u, g1, g2, _⟩ := hobj j oj hj
    rw [phiC_at0_eq g1] at hpj
    have := hH.inj i i' o u b s k s' k' hi g2 hpi hpj
    subst this
    exact hn j g1
  have keep := hG.goes.keep hc0
  have keepφ : ∀ i p, φ i = some p → φ2 i = some p := fun i p hpi => (hφN i (hH.dom i p hpi)).trans hpi
  have oldb : ∀ i o b s k, h.get i = some o → (∀ j : Nat, ρ[j]? ≠ some i) → φ i = some (b, s, k) → w'.heap[b]? = w.heap[b]? := fun i o b s k hi hl hpi => hG.goes.block b (hH.own i o b s k hi hpi).2 (apart i o b s k hi hl hpi)
  have oldF : ∀ i o b s k, h.get i = some o → (∀ j : Nat, ρ[j]? ≠ some i) → φ i = some (b, s, k) → ¬F1 b := by
    intro i o b s k hi hl hpi hF
    rcases hG.goes.fnew b hF with g | g | g
    · exact (hH.own i o b s k hi hpi).1 g
    · have := (hH.own i o b s k hi hpi).2; omega
    · exact apart i o b s k hi hl hpi g
  have inner : ∀ (j : Nat) oj k u, q.2[j]? = some (some oj) → lookN κ j = some k → h1.get k = some u → φ2 (σ j) = φ1 k := by
    intro j oj k u ho hk hu
    rw [hφσ j (List.getElem?_eq_some_iff.1 ho).1]
    unfold phiC
    rw [hk]
  have mixed : ∀ k u i o b s z s' z', h1.get k = some u → φ1 k = some (b, s, z) → h.get i = some o → (∀ j : Nat, ρ[j]? ≠ some i) → φ i = some (b, s', z') → False := by
    intro k u i o b s z s' z' hk hpk hi hn hpi
    rcases hG.goes.dom b ⟨k, u, s, z, hk, hpk⟩ with g | g
    · exact apart i o b s' z' hi hn hpi g
    · have := (hH.own i o b s' z' hi hpi).2; omega
  refine ⟨q.1.ren σ, h2, fun i => N i ∨ (h.nx ≤ i ∧ i < h.nx + (q.2.length - ρ.length)), F1, φ2, hq, ren_rel hφto (covV_rel hv hcv).1, ?_, ?_⟩
  · refine ⟨fun i o hi => ?_, fun i o b s k hi hpi => ?_, fun i i' o o' b s k s' k' hi hi' hpi hpi' => ?_, fun i p hpi => ?_, fun i o hi => ?_, fun i hi => ?_, hP.frz, hP.lay⟩
    · rcases cases' i o hi with ⟨j, oj, k, u, ho, rfl, rfl, hk, hu, hcj⟩ | ⟨hi, hn⟩
      · exact ren_orel hφto (fun e => by rw [hφσ j (List.getElem?_eq_some_iff.1 ho).1]; exact e) (covO_rel hk hcj (hP.obj k u hu))
      · exact (hH.obj i o hi).mono reg keep.1 keepφ (fun e => (hφN i (hH.lt i o hi)).trans e) (fun b s k hpi => oldb i o b s k hi hn hpi)
    · rcases cases' i o hi with ⟨j, oj, k', u, ho, rfl, rfl, hk, hu, hcj⟩ | ⟨hi, hn⟩
      · rw [inner j oj k' u ho hk hu] at hpi
        exact hP.own k' u b s k hu hpi
      · rw [hφN i (hH.lt i o hi)] at hpi
        exact ⟨oldF i o b s k hi hn hpi, Nat.lt_of_lt_of_le (hH.own i o b s k hi hpi).2 hG.goes.size⟩
    · rcases cases' i o hi with ⟨j, oj, m, u, ho, rfl, rfl, hk, hu, hcj⟩ | ⟨hi, hn⟩ <;> rcases cases' i' o' hi' with ⟨j', oj', m', u', ho', rfl, rfl, hk', hu', hcj'⟩ | ⟨hi', hn'⟩
      · rw [inner j oj m u ho hk hu] at hpi
        rw [inner j' oj' m' u' ho' hk' hu'] at hpi'
        have := hP.inj m m' u u' b s k s' k' hu hu' hpi hpi'
        subst this
        rw [lookN_val_inj hκ hk hk']
      · rw [inner j oj m u ho hk hu] at hpi
        rw [hφN i' (hH.lt i' o' hi')] at hpi'
        exact (mixed m u i' o' b s k s' k' hu hpi hi' hn' hpi').elim
      · rw [inner j' oj' m' u' ho' hk' hu'] at hpi'
        rw [hφN i (hH.lt i o hi)] at hpi
        exact (mixed m' u' i o b s' k' s k hu' hpi' hi hn hpi).elim
      · rw [hφN i (hH.lt i o hi)] at hpi
        rw [hφN i' (hH.lt i' o' hi')] at hpi'
        exact hH.inj i i' o o' b s k s' k' hi hi' hpi hpi'
    · by_cases hnew : h.nx ≤ i ∧ i < h.nx + (q.2.length - ρ.length)
      · exact .inr hnew
      · have : φ2 i = φ i := if_neg hnew
        rw [this] at hpi
        exact .inl (hH.dom i p hpi)
    · rcases cases' i o hi with ⟨j, oj, m, u, ho, rfl, rfl, hk, hu, hcj⟩ | ⟨hi, hn⟩
      · by_cases hjn : j < ρ.length
        · obtain ⟨i, _, _, hi, _⟩ := hρ j hjn
          rw [hσold j i hi]
          exact .inl (hρN j i hi)
        · have := (List.getElem?_eq_some_iff.1 ho).1
          rw [hσnew j (by omega)]
          exact .inr (by omega)
      · exact .inl (hH.lt i o hi)
    · rcases hi with hi | hi
      · exact hH.ok i hi
      · exact ok_lt hnx hi.2
  · refine ⟨⟨hG.goes.os, hG.goes.tape, hG.goes.output, hG.goes.size, fun b hb hn => hG.goes.block b hb (fun g => hn (hOwn b g)), hG.goes.fsub, fun b hb => ?_, hφN, fun i hi => .inl hi, fun b hb => ?_, fun i p hpi => ?_⟩, ?_, fun i hi => hi⟩
    · rcases hG.goes.fnew b hb with g | g | g
      · exact .inl g
      · exact .inr (.inl g)
      · exact .inr (.inr (hOwn b g))
    · obtain ⟨i, o, s, k, hi, hpi⟩ := hb
      rcases cases' i o hi with ⟨j, oj, m, u, ho, rfl, rfl, hk, hu, hcj⟩ | ⟨hi, hn⟩
      · rw [inner j oj m u ho hk hu] at hpi
        rcases hG.goes.dom b ⟨m, u, s, k, hu, hpi⟩ with g | g
        · exact .inl (hOwn b g)
        · exact .inr g
      · rw [hφN i (hH.lt i o hi)] at hpi
        exact .inl ⟨i, o, s, k, hi, hpi⟩
    · by_cases hnew : h.nx ≤ i ∧ i < h.nx + (q.2.length - ρ.length)
      · have e : φ2 i = phiC κ φ1 (ρ.length + (i - h.nx)) := if_pos hnew
        rw [e] at hpi
        unfold phiC at hpi
        split at hpi
        · rename_i m hm
          rcases hG.goes.new m p hpi with g | g | g
          · have g : m < (S.objs a).length := g
            have := lookN_val_inj hκ hm (hself m (by omega))
            omega
          · exact .inr (.inl g)
          · exact .inr (.inr (hOwn _ g))
        · cases hpi
      · have : φ2 i = φ i := if_neg hnew
        rw [this] at hpi
        exact .inl (hH.dom i p hpi)
    · refine ⟨Nat.le_add_right _ _, ρ, rfl, fun i hi1 hi2 => hother i (fun j hj he => ?_)⟩
      by_cases hjn : j < ρ.length
      · obtain ⟨i', _, _, hi', _⟩ := hρ j hjn
        rw [hσold j i' hi'] at he
        subst he
        exact hi1 (List.mem_of_getElem? hi')
      · rw [hσnew j (by omega)] at he
        apply hi2
        show h.nx ≤ i ∧ i < h.nx + (q.2.length - ρ.length)
        omega

/-- A contract, shown by the evaluator. -/
theorem specOk_of_ex (hm : P.follows .mixedOrders = true) {hd : Hd reg.T} (hHd : HdSound P hd) (hno : ∀ (f : FuncId) fn, P.funcs[f]? = some fn → fn.body.isNone = false → (fn.name == "runtime.NumGoroutine") = false) {fuel : Nat} {f : FuncId} {S : Spec reg.T}
    (ht : There P f) (h : ∀ a, S.pre a = true → (exFun P hd fuel f (S.args a) (canH (S.objs a))).K fun r => (S.out a).All fun q => CovR (S.objs a).length r q.1 q.2) : SpecOk P f S := by
  refine ⟨ht, fun a hp F φ w cargs hH hl q hq => ?_⟩
  refine (exFun_sound hm hHd hno fuel f _ _ _ (Out.K_mono (h a hp) (fun r h2 => Out.All_of h2 q hq))).2 _ F φ w cargs (fun r _ i hi hj hN => ?_) hH hl
  have hN : i < (S.objs a).length := hN
  have hi : (S.objs a).length ≤ i := hi
  omega

/-- The same, new slices made data, and ways joined. -/
theorem specOk_of_tidy (hm : P.follows .mixedOrders = true) {hd : Hd reg.T} (hHd : HdSound P hd) (hno : ∀ (f : FuncId) fn, P.funcs[f]? = some fn → fn.body.isNone = false → (fn.name == "runtime.NumGoroutine") = false) {fuel : Nat} {f : FuncId} {S : Spec reg.T}
    (ht : There P f) (h : ∀ a, S.pre a = true → (tidyOut reg (canH (S.objs a)) (exFun P hd fuel f (S.args a) (canH (S.objs a)))).K fun r => (S.out a).All fun q => CovR (S.objs a).length r q.1 q.2) : SpecOk P f S := by
  refine ⟨ht, fun a hp F φ w cargs hH hl q hq => ?_⟩
  have h1 := Out.K_mono (h a hp) (fun r h2 => Out.All_of h2 q hq)
  refine ((exFun_sound hm hHd hno fuel f _ _ _ (tidyOut_ok h1)).2 _ F φ w cargs (fun r _ i hi hj hN => ?_) hH hl).mono fun e w' he => ?_
  · have hN : i < (S.objs a).length := hN
    have hi : (S.objs a).length ≤ i := hi
    omega
  · obtain ⟨cv, he, v, h', N', F', φ', ⟨r', hq', ht⟩, hv, hH', hG⟩ := he
    obtain ⟨v2, h2', N2, F2, φ2, e2, a, b, c⟩ := ht.2 _ F φ w cv w' ⟨v, h', N', F', φ', rfl, hv, hH', hG⟩
    exact ⟨cv, he, v2, h2', N2, F2, φ2, e2 ▸ hq', a, b, c⟩

/-- The same, new slices made data. -/
theorem specOk_of_leaf (hm : P.follows .mixedOrders = true) {hd : Hd reg.T} (hHd : HdSound P hd) (hno : ∀ (f : FuncId) fn, P.funcs[f]? = some fn → fn.body.isNone = false → (fn.name == "runtime.NumGoroutine") = false) {fuel : Nat} {f : FuncId} {S : Spec reg.T}
    (ht : There P f) (h : ∀ a, S.pre a = true → ((exFun P hd fuel f (S.args a) (canH (S.objs a))).bind (tidyLeaf reg (canH (S.objs a)))).K fun r => (S.out a).All fun q => CovR (S.objs a).length r q.1 q.2) : SpecOk P f S := by
  refine ⟨ht, fun a hp F φ w cargs hH hl q hq => ?_⟩
  have h1 := h a hp
  rw [Out.K_bind] at h1
  have h1 : (exFun P hd fuel f (S.args a) (canH (S.objs a))).K fun r => ∃ r', CovR (S.objs a).length r' q.1 q.2 ∧ Turns (canH (S.objs a)) r r' := Out.K_mono h1 (fun r h2 => by
    obtain ⟨r2, h4, h5⟩ := (Out.K_iff _ _).1 h2
    exact ⟨r2, Out.All_of h5 q hq, tidyLeaf_ok h4⟩)
  refine ((exFun_sound hm hHd hno fuel f _ _ _ h1).2 _ F φ w cargs (fun r _ i hi hj hN => ?_) hH hl).mono fun e w' he => ?_
  · have hN : i < (S.objs a).length := hN
    have hi : (S.objs a).length ≤ i := hi
    omega
  · obtain ⟨cv, he, v, h', N', F', φ', ⟨r', hq', ht⟩, hv, hH', hG⟩ := he
    obtain ⟨v2, h2', N2, F2, φ2, e2, a, b, c⟩ := ht.2 _ F φ w cv w' ⟨v, h', N', F', φ', rfl, hv, hH', hG⟩
    exact ⟨cv, he, v2, h2', N2, F2, φ2, e2 ▸ hq', a, b, c⟩

/-- A contract, shown of code with loops. -/
theorem specOk_of_awp (hm : P.follows .mixedOrders = true) {hd : Hd reg.T} (hHd : HdSound P hd) {fuel : Nat} {f : FuncId} {fn : Func} (hfn : P.funcs[f]? = some fn) {S : Spec reg.T}
    (ht : There P f) (h : ∀ a, S.pre a = true → ∃ (G : Type) (g : G) (A : _) (L : _) (J : _), awpFunH reg P hd fuel A L J g fn (S.args a) (canH (S.objs a)) fun r => (S.out a).All fun q => CovR (S.objs a).length r q.1 q.2) : SpecOk P f S := by
  refine ⟨ht, fun a hp F φ w cargs hH hl q hq => ?_⟩
  obtain ⟨G, g, A, L, J, h⟩ := h a hp
  refine (awpFunH_sound hm hHd hfn rfl h hH hl).mono fun e w' he => ?_
  obtain ⟨cv, he, v, h', N', F', φ', hq', hv, hH', hG⟩ := he
  exact ⟨cv, he, v, h', N', F', φ', Out.All_of hq' q hq, hv, hH', hG⟩

/-- The same, its answer as it is. -/
theorem specOk_of_awpN (hm : P.follows .mixedOrders = true) {hd : Hd reg.T} (hHd : HdSound P hd) {fuel : Nat} {f : FuncId} {fn : Func} (hfn : P.funcs[f]? = some fn) {S : Spec reg.T}
    (ht : There P f) (h : ∀ a, S.pre a = true → ∃ (G : Type) (g : G) (A : _) (L : _) (J : _), awpFunN reg P hd fuel A L J g fn (S.args a) (canH (S.objs a)) fun r => (S.out a).All fun q => CovR (S.objs a).length r q.1 q.2) : SpecOk P f S := by
  refine ⟨ht, fun a hp F φ w cargs hH hl q hq => ?_⟩
  obtain ⟨G, g, A, L, J, h⟩ := h a hp
  refine (awpFunN_sound hm hHd hfn rfl h hH hl).mono fun e w' he => ?_
  obtain ⟨cv, he, v, h', N', F', φ', hq', hv, hH', hG⟩ := he
  exact ⟨cv, he, v, h', N', F', φ', Out.All_of hq' q hq, hv, hH', hG⟩

/-- One contract, or another. -/
def Con.or {T : Nat → Type} (p : List (V T) → (Nat → Option (O T)) → Bool) (x y : List (V T) → Hp T → Out (V T × Hp T)) (args : List (V T)) (h : Hp T) : Out (V T × Hp T) := match p args h.get with
  | true => x args h
  | false => y args h
end
end Go.W
