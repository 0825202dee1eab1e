/- The evaluator with the loops' invariants given ahead: enough for the evaluator itself. No conditions. -/
import Derived.Test.YtaencddffbmdeaaVsQ
namespace Go.Vs
open Go Go.RowKit

/-- What is said of a loop: at its head the state is 'I x', for some x; each round is nearer the end. -/
structure LoopI (T : Nat → Type) where
  α : Type
  I : α → StL T
  μ : α → Nat
  x0 : α
  nb : Nat

/-- The number by which a loop is named: that of its first region. -/
def firstId : Code → Nat
  | .region id _ _ => id
  | .seq a _ => firstId a
  | .cond _ a _ => firstId a
  | .block _ c => firstId c
  | .loop c => firstId c
  | _ => 0

section
variable {T : Nat → Type}

/-! ### Equalities, taken apart -/
def eqV (T : Nat → Type) (a b : V T) : Prop := a = b
def eqO (T : Nat → Type) (a b : O T) : Prop := a = b

def VEq1 : V T → V T → Prop → Prop
  | .d (.int k a), .d (.int k' b), K => must (sameKind k k') (a = b ∧ K)
  | .d (.bool a), .d (.bool b), K => a = b ∧ K
  | .d (.str a), .d (.str b), K => a = b ∧ K
  | .ptr i g o, .ptr i' g' o', K => must (Nat.beq i i') (must (Nat.beq g g') (must (Nat.beq o o') K))
  | a, b, K => eqV T a b ∧ K

def VEqL : List (V T) → List (V T) → Prop → Prop
  | [], [], K => K
  | a :: as, b :: bs, K => VEq1 a b (VEqL as bs K)
  | _, _, _ => False

def VEq : V T → V T → Prop → Prop
  | .agg as, .agg bs, K => VEqL as bs K
  | .tup as, .tup bs, K => VEqL as bs K
  | a, b, K => VEq1 a b K

def OEq : O T → O T → Prop → Prop
  | .box g vs, .box g' us, K => must (Nat.beq g g') (VEqL vs us K)
  | .dead g, .dead g', K => must (Nat.beq g g') K
  | a, b, K => eqO T a b ∧ K

theorem VEq1_iff (a b : V T) (K : Prop) (h : VEq1 a b K) : a = b ∧ K := by
  unfold VEq1 at h
  split at h <;> (try simp only [must_iff] at h)
  · obtain ⟨h1, h2, h3⟩ := h
    rw [h2]
    rename_i k a k' b
    cases k <;> cases k' <;> first | exact ⟨rfl, h3⟩ | simp [sameKind] at h1
  · exact ⟨by rw [h.1], h.2⟩
  · exact ⟨by rw [h.1], h.2⟩
  · obtain ⟨h1, h2, h3, h4⟩ := h
    rw [Nat.eq_of_beq_eq_true h1, Nat.eq_of_beq_eq_true h2, Nat.eq_of_beq_eq_true h3]
    exact ⟨rfl, h4⟩
  · exact h

theorem VEqL_iff : ∀ (as bs : List (V T)) (K : Prop), VEqL as bs K → as = bs ∧ K
  | [], [], K, h => ⟨rfl, h⟩
  | a :: as, b :: bs, K, h => by
    obtain ⟨h1, h2⟩ := VEq1_iff _ _ _ h
    obtain ⟨h3, h4⟩ := VEqL_iff as bs K h2
    exact ⟨by rw [h1, h3], h4⟩
  | [], _ :: _, _, h => h.elim
  | _ :: _, [], _, h => h.elim

theorem VEq_iff (a b : V T) (K : Prop) (h : VEq a b K) : a = b ∧ K := by
  unfold VEq at h
  split at h
  · obtain ⟨h1, h2⟩ := VEqL_iff _ _ _ h; exact ⟨by rw [h1], h2⟩
  · obtain ⟨h1, h2⟩ := VEqL_iff _ _ _ h; exact ⟨by rw [h1], h2⟩
  · exact VEq1_iff _ _ _ h

theorem OEq_iff (a b : O T) (K : Prop) (h : OEq a b K) : a = b ∧ K := by
  unfold OEq at h
  split at h <;> (try simp only [must_iff] at h)
  · obtain ⟨h1, h⟩ := h
    obtain ⟨h2, h3⟩ := VEqL_iff _ _ _ h
    rw [Nat.eq_of_beq_eq_true h1, h2]
    exact ⟨rfl, h3⟩
  · rw [Nat.eq_of_beq_eq_true h.1]
    exact ⟨rfl, h.2⟩
  · exact h

def coverEI (env : Nat → Option (V T)) : List (Nat × V T) → Prop → Prop
  | [], K => K
  | (t, v) :: l, K => (match env t with | some v' => VEq v' v (coverEI env l K) | none => False)
def coverOI (H : Nat → Option (O T)) : List (Nat × O T) → Prop → Prop
  | [], K => K
  | (t, v) :: l, K => (match H t with | some v' => OEq v' v (coverOI H l K) | none => False)
def coversI (st : St T) (L : StL T) (K : Prop) : Prop := coverEI st.env L.1 (coverOI st.H L.2 K)

theorem coversI_iff {st : St T} {L : StL T} {K : Prop} (h : coversI st L K) : covers st L ∧ K := by
  have hO : ∀ (l : List (Nat × O T)) (K : Prop), coverOI st.H l K → coverO st.H l ∧ K := by
    intro l
    induction l with
    | nil => intro K h; exact ⟨trivial, h⟩
    | cons p l ih =>
      intro K h
      obtain ⟨t, v⟩ := p
      simp only [coverOI] at h
      split at h
      · rename_i v' hv'
        obtain ⟨h0, h'⟩ := OEq_iff _ _ _ h
        obtain ⟨h1, h2⟩ := ih K h'
        exact ⟨⟨by rw [hv', h0], h1⟩, h2⟩
      · exact h.elim
  have hE : ∀ (l : List (Nat × V T)) (K : Prop), coverEI st.env l K → coverE st.env l ∧ K := by
    intro l
    induction l with
    | nil => intro K h; exact ⟨trivial, h⟩
    | cons p l ih =>
      intro K h
      obtain ⟨t, v⟩ := p
      simp only [coverEI] at h
      split at h
      · rename_i v' hv'
        obtain ⟨h0, h'⟩ := VEq_iff _ _ _ h
        obtain ⟨h1, h2⟩ := ih K h'
        exact ⟨⟨by rw [hv', h0], h1⟩, h2⟩
      · exact h.elim
  obtain ⟨h1, h2⟩ := hE _ _ h
  obtain ⟨h3, h4⟩ := hO _ _ h2
  exact ⟨⟨h1, h3⟩, h4⟩

/-- What a round must come to, with the equalities taken apart. -/
def roundI {α : Type} (c : Code) (I : α → StL T) (μ : α → Nat) (nb : Nat) (st : St T) (Q : AExit → St T → Prop) (x : α) : AExit → St T → Prop
  | .normal, st' => must (Nat.beq (st'.wr ||| loopBits c nb) (loopBits c nb)) <| ∃ x', coversI st' (I x') (μ x' < μ x)
  | e, st' => Q e (st'.wrote (st.wr ||| loopBits c nb))

theorem roundI_enough {α : Type} {c : Code} {I : α → StL T} {μ : α → Nat} {nb : Nat} {st : St T} {Q : AExit → St T → Prop} {x : α} {e : AExit} {s : St T} (h : roundI c I μ nb st Q x e s) : roundK c I μ nb st Q x e s := by
  cases e with
  | normal =>
    simp only [roundI, must_iff] at h
    obtain ⟨h1, x', h2⟩ := h
    obtain ⟨h3, h4⟩ := coversI_iff h2
    exact (must_iff _ _).2 ⟨h1, x', h3, h4⟩
  | exit j => exact h
  | ret => exact h

abbrev Inv (T : Nat → Type) := Nat → St T → Option (LoopI T)

def awpI (P : Program) (C : FuncId → Option (PureC T)) (nt : Nat) (L : Inv T) : Code → (AExit → St T → Prop) → St T → Prop
  | .skip, Q, st => Q .normal st
  | .region _ ops draw, Q, st => awpOps P C nt ops ops.toList 0 st [] fun st tr =>
      (match draw with
      | false => Q .normal st
      | true => (match okTrace ops tr with | true => Q .normal st | false => False))
  | .seq a b, Q, st => awpI P C nt L a (AExit.then (awpI P C nt L b Q) Q) st
  | .cond c a b, Q, st => (match c with
    | .tmp t => (match st.env t with
      | some (.d (.bool v)) => branch v (awpI P C nt L a Q (st.put (some t) (.d (.bool true)))) (awpI P C nt L b Q (st.put (some t) (.d (.bool false))))
      | _ => False)
    | _ => False)
  | .block id c, Q, st => awpI P C nt L c (AExit.inBlock id Q) st
  | .exit id, Q, st => Q (.exit id) st
  | .ret, Q, st => Q .ret st
  | .loop c, Q, st => (match L (firstId c) st with
    | some l => coversI st (l.I l.x0) ((∀ x, must (Nat.beq (nameBits (l.I x).2) l.nb) True) ∧ ∀ x γ, awpI P C nt L c (roundI c l.I l.μ l.nb st Q x) (headSt st c (l.I x) γ))
    | none => False)
  | _, _, _ => False

theorem awpOps_mono {P : Program} {C : FuncId → Option (PureC T)} {nt : Nat} {ops : Array Oper} {rest : List Oper} {n : Nat} {st : St T} {tr : List Foot} {Q Q' : St T → List Foot → Prop}
    (h : awpOps P C nt ops rest n st tr Q) (hQ : ∀ s t, Q s t → Q' s t) : awpOps P C nt ops rest n st tr Q' := by
  induction rest generalizing n st tr with
  | nil => exact hQ _ _ h
  | cons o rest ih =>
    simp only [awpOps] at h ⊢
    split at h
    · exact h.elim
    · rename_i hd
      have run : ∀ st : St T, (lexec P C o.op (valOf st.env) st.H (keyOf o.dst) fun v u =>
          awpOps P C nt ops rest (n + 1) ((st.put o.dst v).upd u) (⟨n, reads o.op (valOf st.env), writes o.op (valOf st.env) (keyOf o.dst)⟩ :: tr) Q) →
          lexec P C o.op (valOf st.env) st.H (keyOf o.dst) fun v u =>
          awpOps P C nt ops rest (n + 1) ((st.put o.dst v).upd u) (⟨n, reads o.op (valOf st.env), writes o.op (valOf st.env) (keyOf o.dst)⟩ :: tr) Q' := by
        intro st h
        obtain ⟨v, u, h1, h2, _⟩ := lexec_real h
        exact h2 _ (ih h1)
      cases hg : o.guard with
      | none => rw [hg] at h; exact run _ h
      | some jw =>
        obtain ⟨j, want⟩ := jw
        rw [hg] at h
        simp only at h ⊢
        cases hdj : (ops[j]?).bind (·.dst) with
        | none => rw [hdj] at h; exact h.elim
        | some d =>
          rw [hdj] at h
          simp only at h ⊢
          split at h
          · rename_i b _
            rw [branch_iff] at h ⊢
            refine ⟨fun hb => ?_, fun hb => ?_⟩
            · have := h.1 hb; cases want
              · exact ih this
              · exact run _ this
            · have := h.2 hb; cases want
              · exact run _ this
              · exact ih this
          · exact ih h
          · exact h.elim

theorem awp_mono {P : Program} {C : FuncId → Option (PureC T)} {nt : Nat} : ∀ {c : Code} {Q Q' : AExit → St T → Prop} {st : St T}, awp P C nt c Q st → (∀ e s, Q e s → Q' e s) → awp P C nt c Q' st := by
  intro c
  induction c with
  | skip => intro Q Q' st h hQ; exact hQ _ _ h
  | region id ops draw =>
    intro Q Q' st h hQ
    refine awpOps_mono h fun s t hs => ?_
    cases draw with
    | false => exact hQ _ _ hs
    | true =>
      simp only at hs ⊢
      split at hs
      · exact hQ _ _ hs
      · exact hs.elim
  | seq a b iha ihb =>
    intro Q Q' st h hQ
    simp only [awp] at h ⊢
    refine iha h fun e s he => ?_
    cases e with
    | normal => exact ihb he hQ
    | exit j => exact hQ _ _ he
    | ret => exact hQ _ _ he
  | cond c a b iha ihb =>
    intro Q Q' st h hQ
    cases c <;> simp only [awp] at h ⊢ <;> try exact h.elim
    split at h
    · rw [branch_iff] at h ⊢
      exact ⟨fun hb => iha (h.1 hb) hQ, fun hb => ihb (h.2 hb) hQ⟩
    · exact h.elim
  | block id c ih =>
    intro Q Q' st h hQ
    simp only [awp] at h ⊢
    refine ih h fun e s he => ?_
    cases e with
    | normal => exact hQ _ _ he
    | ret => exact hQ _ _ he
    | exit j =>
      simp only [AExit.inBlock] at he ⊢
      split at he <;> exact hQ _ _ he
  | exit id => intro Q Q' st h hQ; exact hQ _ _ h
  | ret => intro Q Q' st h hQ; exact hQ _ _ h
  | loop c ih =>
    intro Q Q' st h hQ
    simp only [awp] at h ⊢
    obtain ⟨α, I, μ, x0, nb, h1, h2, h3⟩ := h
    refine ⟨α, I, μ, x0, nb, h1, h2, fun x γ => ih (h3 x γ) fun e s he => ?_⟩
    cases e with
    | normal => exact he
    | exit j => exact hQ _ _ he
    | ret => exact hQ _ _ he
  | _ => intro Q Q' st h hQ; simp only [awp] at h

theorem awpI_enough {P : Program} {C : FuncId → Option (PureC T)} {nt : Nat} {L : Inv T} : ∀ {c : Code} {Q : AExit → St T → Prop} {st : St T}, awpI P C nt L c Q st → awp P C nt c Q st := by
  intro c
  induction c with
  | skip => intro Q st h; exact h
  | region id ops draw => intro Q st h; exact h
  | seq a b iha ihb =>
    intro Q st h
    simp only [awpI] at h
    simp only [awp]
    refine awp_mono (iha h) fun e s he => ?_
    cases e with
    | normal => exact ihb he
    | exit j => exact he
    | ret => exact he
  | cond c a b iha ihb =>
    intro Q st h
    cases c <;> simp only [awpI] at h <;> simp only [awp] <;> try exact h.elim
    split at h
    · rename_i hv
      simp only [hv]
      rw [branch_iff] at h ⊢
      exact ⟨fun hb => iha (h.1 hb), fun hb => ihb (h.2 hb)⟩
    · exact h.elim
  | block id c ih => intro Q st h; exact ih h
  | exit id => intro Q st h; exact h
  | ret => intro Q st h; exact h
  | loop c ih =>
    intro Q st h
    simp only [awpI] at h
    simp only [awp]
    split at h
    · rename_i l _
      obtain ⟨h1, h2, h3⟩ := coversI_iff h
      exact ⟨l.α, l.I, l.μ, l.x0, l.nb, h1, fun x => Nat.eq_of_beq_eq_true ((must_iff _ _).1 (h2 x)).1, fun x γ => awp_mono (ih (h3 x γ)) fun e s => roundI_enough⟩
    · exact h.elim
  | _ => intro Q st h; simp only [awpI] at h

/-- A function that only takes and answers pure data, with its loops' invariants. -/
def awpFunI (P : Program) (C : FuncId → Option (PureC T)) (L : Inv T) (fn : Func) (args : List (V T)) (Q : V T → Prop) : Prop :=
  match fn.body with
  | none => False
  | some c => (match V.pure.goL args && Nat.ble args.length fn.ntmps with
    | false => False
    | true => awpI P C fn.ntmps L c (finK P fn Q) ⟨initEnv args, fun _ => none, 0⟩)

theorem awpFunI_enough {P : Program} {C : FuncId → Option (PureC T)} {L : Inv T} {fn : Func} {args : List (V T)} {Q : V T → Prop} (h : awpFunI P C L fn args Q) : awpFun P C fn args Q := by
  unfold awpFunI at h
  unfold awpFun
  cases hb : fn.body with
  | none => rw [hb] at h; exact h.elim
  | some c =>
    rw [hb] at h
    simp only at h ⊢
    split at h
    · exact h.elim
    · rename_i e
      rw [e]
      exact awpI_enough h

/-- The functions' contracts, listed. -/
def AllC (reg : Reg) (P : Program) : List (Nat × PureC reg.T) → Prop
  | [] => True
  | (f, S) :: l => CSound reg P f S ∧ AllC reg P l

theorem AllC.look {reg : Reg} {P : Program} : ∀ {l : List (Nat × PureC reg.T)}, AllC reg P l → ∀ f S, lookL l f = some S → CSound reg P f S := by
  intro l
  induction l with
  | nil => intro _ f S h; simp [lookL] at h
  | cons p l ih =>
    obtain ⟨k, v⟩ := p
    intro h f S hS
    simp only [lookL] at hS
    split at hS
    · rename_i e
      have := Nat.eq_of_beq_eq_true e
      subst this
      cases hS
      exact h.1
    · exact ih h.2 f S hS
end
end Go.Vs
