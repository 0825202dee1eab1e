/- That code and functions do what the evaluator says. No conditions. -/
import Derived.Test.YtmnkbfflpgmkmaaGreatDoorWQ
import Derived.Sort.LoopGhostIn
import Derived.Scope
namespace Go.W
open Go Go.RowKit

section
variable {reg : Reg} {P : Program} {hd : Hd reg.T} {nt : Nat} {dl : List Deferred}

theorem exReg_mono (hnt : nt ≤ 1000000) {ops : Array Oper} {draw : Bool} {st : St reg.T} {Q : St reg.T → Prop} (h : (exReg P hd nt ops draw st).K Q) : (exReg P hd nt ops draw st).K fun st' => Q st' ∧ st.hp.nx ≤ st'.hp.nx := by
  cases draw with
  | false => exact exOps_mono h
  | true =>
    simp only [exReg] at h ⊢
    rw [Out.K_bind] at h ⊢
    obtain ⟨r, h1, h2⟩ := (Out.K_iff _ _).1 h
    obtain ⟨l, st', _, h3, _, h4, _⟩ := exOpsD_chain (ops := ops) hnt h1 (fun j => by simp)
    refine (Out.K_iff _ _).2 ⟨r, h1, ?_⟩
    obtain ⟨h5, h6⟩ := Out.K_ask.1 h2
    refine Out.K_ask.2 ⟨h5, h6, ?_⟩
    rw [← h3]
    exact h4.1

theorem loopN_mono {body : St reg.T → Out (AExit × St reg.T)} (hb : ∀ (st : St reg.T) (Q : AExit × St reg.T → Prop), (body st).K Q → (body st).K fun r => Q r ∧ st.hp.nx ≤ r.2.hp.nx) :
    ∀ (n : Nat) {st : St reg.T} {Q : AExit × St reg.T → Prop}, (loopN body n st).K Q → (loopN body n st).K fun r => Q r ∧ st.hp.nx ≤ r.2.hp.nx := by
  intro n
  induction n with
  | zero => intro st Q h; exact h.elim
  | succ n ih =>
    intro st Q h
    simp only [loopN] at h ⊢
    rw [Out.K_bind] at h ⊢
    refine Out.K_mono (hb st _ h) (fun r ⟨h1, h2⟩ => ?_)
    obtain ⟨e, st'⟩ := r
    cases e with
    | normal => exact Out.K_mono (ih h1) (fun r ⟨h3, h4⟩ => ⟨h3, Nat.le_trans h2 h4⟩)
    | exit id => exact ⟨h1, h2⟩
    | ret => exact ⟨h1, h2⟩

theorem ex_mono (hnt : nt ≤ 1000000) {fuel : Nat} : ∀ (c : Code) (st : St reg.T) (Q : AExit × St reg.T → Prop), (ex P hd nt fuel c st).K Q → (ex P hd nt fuel c st).K fun r => Q r ∧ st.hp.nx ≤ r.2.hp.nx := by
  intro c
  induction c with
  | skip => intro st Q h; exact ⟨h, Nat.le_refl _⟩
  | region id ops draw =>
    intro st Q h
    simp only [ex] at h ⊢
    rw [Out.K_bind] at h ⊢
    exact Out.K_mono (exReg_mono hnt h) (fun r ⟨h1, h2⟩ => ⟨h1, h2⟩)
  | seq x y ihx ihy =>
    intro st Q h
    simp only [ex] at h ⊢
    rw [Out.K_bind] at h ⊢
    refine Out.K_mono (ihx st _ h) (fun r ⟨h1, h2⟩ => ?_)
    obtain ⟨e, st'⟩ := r
    cases e with
    | normal => exact Out.K_mono (ihy st' _ h1) (fun r ⟨h3, h4⟩ => ⟨h3, Nat.le_trans h2 h4⟩)
    | exit id => exact ⟨h1, h2⟩
    | ret => exact ⟨h1, h2⟩
  | cond o x y ihx ihy =>
    intro st Q h
    simp only [ex] at h ⊢
    split at h
    · split at h
      · rename_i v hv
        cases v with
        | true => simp only [Out.K, branch, St.fix_same hv] at h ⊢; exact ihx st _ h
        | false => simp only [Out.K, branch, St.fix_same hv] at h ⊢; exact ihy st _ h
      · exact h.elim
    · rename_i v
      cases v with
      | true => exact ihx st _ h
      | false => exact ihy st _ h
    · exact h.elim
  | block id c ih =>
    intro st Q h
    simp only [ex] at h ⊢
    rw [Out.K_bind] at h ⊢
    refine Out.K_mono (ih st _ h) (fun r ⟨h1, h2⟩ => ?_)
    obtain ⟨e, st'⟩ := r
    cases e with
    | normal => exact ⟨h1, h2⟩
    | exit j =>
      simp only [blockX] at h1 ⊢
      cases hb : Nat.beq j id with
      | true => rw [hb] at h1; exact ⟨h1, h2⟩
      | false => rw [hb] at h1; exact ⟨h1, h2⟩
    | ret => exact ⟨h1, h2⟩
  | loop c ih => intro st Q h; exact loopN_mono ih fuel h
  | exit id => intro st Q h; exact ⟨h, Nat.le_refl _⟩
  | ret => intro st Q h; exact ⟨h, Nat.le_refl _⟩
  | rangeFunc f ps c1 c2 _ _ => intro st Q h; exact h.elim
  | scope c ih => intro st Q h; exact ih st Q h
  | label l => intro st Q h; exact ⟨h, Nat.le_refl _⟩
  | goto l => intro st Q h; exact h.elim
  | refuse s => intro st Q h; exact h.elim

abbrev RS (dl : List Deferred) (N F : Nat → Prop) (φ : Phi) (nt : Nat) (st : St reg.T) (a : Act) (w : World) : Prop := RF dl N F φ nt ⟨st.env.get, st.hp.get⟩ a w

def Come (dl : List Deferred) (Q : AExit × St reg.T → Prop) (nt : Nat) (N F : Nat → Prop) (φ : Phi) (h : Hp reg.T) (w : World) (e : AExit) (a' : Act) (w' : World) : Prop :=
  ∃ st' N' F' φ', Q (e, st') ∧ RS dl N' F' φ' nt st' a' w' ∧ GO N F φ h w N' F' φ' st'.hp w'

def XPost (dl : List Deferred) (Q : AExit × St reg.T → Prop) (nt : Nat) (N F : Nat → Prop) (φ : Phi) (h : Hp reg.T) (w : World) : Exit → Act → World → Prop
  | .normal, a', w' => Come dl Q nt N F φ h w .normal a' w'
  | .exit id, a', w' => Come dl Q nt N F φ h w (.exit id) a' w'
  | .ret, a', w' => Come dl Q nt N F φ h w .ret a' w'
  | _, _, _ => False

theorem Come.from {Q : AExit × St reg.T → Prop} {N N' F F' : Nat → Prop} {φ φ' : Phi} {h h' : Hp reg.T} {w w' : World} {e : AExit} {a' : Act} {w'' : World} (g : GO N F φ h w N' F' φ' h' w') (c : Come dl Q nt N' F' φ' h' w' e a' w'') : Come dl Q nt N F φ h w e a' w'' := by
  obtain ⟨st', N'', F'', φ'', h1, h2, h3⟩ := c
  exact ⟨st', N'', F'', φ'', h1, h2, g.trans h3⟩

theorem XPost.from {Q : AExit × St reg.T → Prop} {N N' F F' : Nat → Prop} {φ φ' : Phi} {h h' : Hp reg.T} {w w' : World} {e : Exit} {a' : Act} {w'' : World} (g : GO N F φ h w N' F' φ' h' w') (c : XPost dl Q nt N' F' φ' h' w' e a' w'') : XPost dl Q nt N F φ h w e a' w'' := by
  cases e with
  | normal => exact Come.from g c
  | exit id => exact Come.from g c
  | ret => exact Come.from g c
  | goto l => exact c.elim
  | panic ch => exact c.elim
  | outgrown => exact c.elim

/-- Names that are free stay free. -/
theorem fresh_next {N N' : Nat → Prop} {x y z : Nat} (hf : Fresh N x z) (hxy : x ≤ y) (hN : ∀ i, N' i → N i ∨ (x ≤ i ∧ i < y)) : Fresh N' y z := by
  intro i hi1 hi2 hi3
  rcases hN i hi3 with h | h
  · exact hf i (Nat.le_trans hxy hi1) hi2 h
  · omega
theorem fresh_less {N : Nat → Prop} {x y z : Nat} (hf : Fresh N x z) (hyz : y ≤ z) : Fresh N x y := fun i h1 h2 => hf i h1 (Nat.lt_of_lt_of_le h2 hyz)

theorem stepR_scope {P : Program} {b : Frame} {a : Act} {k : List Item} {cs : List Frame} {w : World} {c : Code} : step P (lone (b.atR a (.code (.scope c) :: k)) cs w) = .next (lone (b.atR a (.code c :: .inScope c :: k)) cs w) :=
  step_lone_go (by simp [stepG, stepG.exec, Frame.atR])
theorem stepR_inScope {P : Program} {b : Frame} {a : Act} {k : List Item} {cs : List Frame} {w : World} {c : Code} : step P (lone (b.atR a (.inScope c :: k)) cs w) = .next (lone (b.atR a k) cs w) :=
  step_lone_go (by simp [stepG, stepG.exec, Frame.atR])
theorem wpIn_scope_straight {F : Fence} {n : Nat} {P : Program} {Q : Exit → Act → World → Prop} {a : Act} {w : World} {c : Code} (h : c.wpIn F n P (Exit.noGoto Q) a w) : (Code.scope c).wpIn F n P Q a w := by
  intro b k cs hro hb hr
  have h0 : (lone (b.atR a (.code (.scope c) :: k)) cs w).fenced P F := fenced_calm hb hr rfl
  obtain ⟨e, a₁, w₁, hq, harr⟩ := h b (.inScope c :: k) cs hro hb hr
  cases e with
  | normal => exact ⟨.normal, a₁, w₁, hq, .head h0 stepR_scope (StepsIn.trans harr (.one (fenced_calm hb hr rfl) stepR_inScope))⟩
  | exit id =>
    have hx : exitTo id (.inScope c :: k) = exitTo id k := by simp [exitTo]
    exact ⟨.exit id, a₁, w₁, hq, fun k' hk => .head h0 stepR_scope (harr.1 k' (by rw [hx]; exact hk)),
      fun hr' hk => let ⟨k₁, h1, h2⟩ := harr.2 hr' (by rw [hx]; exact hk); ⟨k₁, h1, .head h0 stepR_scope h2⟩⟩
  | goto l => exact hq.elim
  | ret => exact ⟨_, a₁, w₁, hq, .of_steps (.one h0 stepR_scope) harr⟩
  | panic ch => exact ⟨_, a₁, w₁, hq, .of_steps (.one h0 stepR_scope) harr⟩
  | outgrown => exact ⟨_, a₁, w₁, hq, .of_steps (.one h0 stepR_scope) harr⟩
def CodeOk (P : Program) (nt : Nat) (c : Code) (run : St reg.T → Out (AExit × St reg.T)) : Prop :=
  ∀ (st : St reg.T) (Q : AExit × St reg.T → Prop), (run st).K Q → ∀ {dl : List Deferred} {N F : Nat → Prop} {φ : Phi} {a : Act} {w : World}, RS dl N F φ nt st a w → (∀ r, Q r → Fresh N st.hp.nx r.2.hp.nx) → ∀ (r : Option Nat) (m : Nat), c.wpIn (Fr r) m P (XPost dl Q nt N F φ st.hp w) a w

theorem loop_sound {c : Code} {body : St reg.T → Out (AExit × St reg.T)} (hb : ∀ (st : St reg.T) (Q : AExit × St reg.T → Prop), (body st).K Q → (body st).K fun r => Q r ∧ st.hp.nx ≤ r.2.hp.nx)
    (hc : CodeOk P nt c body) (n : Nat) : CodeOk P nt (.loop c) (loopN body n) := by
  intro st Q h dl N F φ a w hR hfr ro m
  obtain ⟨r, hr, hq⟩ := (Out.K_iff _ _).1 h
  have hf0 := hfr r hq
  refine wpIn_loop_ghost (fun n a' w' => ∃ st' N' F' φ', (loopN body n st').K (· = r) ∧ RS dl N' F' φ' nt st' a' w' ∧ GO N F φ st.hp w N' F' φ' st'.hp w') n ⟨st, N, F, φ, hr, hR, GO.refl hR.heap⟩ ?_
  rintro n a' w' ⟨st', N', F', φ', h1, h2, h3⟩
  cases n with
  | zero => exact h1.elim
  | succ n =>
    simp only [loopN] at h1
    rw [Out.K_bind] at h1
    obtain ⟨⟨e, st2⟩, h4, h5⟩ := (Out.K_iff _ _).1 h1
    obtain ⟨_, hx, hle⟩ := (Out.K_iff _ _).1 (hb _ _ h4)
    have hle2 : st2.hp.nx ≤ r.2.hp.nx := by
      cases e with
      | normal => obtain ⟨_, _, hx', hy'⟩ := (Out.K_iff _ _).1 (loopN_mono hb n h5); exact hx' ▸ hy'
      | exit id => have : (AExit.exit id, st2) = r := h5; rw [← this]; exact Nat.le_refl _
      | ret => have : (AExit.ret, st2) = r := h5; rw [← this]; exact Nat.le_refl _
    have hf1 := fresh_next hf0 h3.grow.1 h3.names
    refine wpIn_mono (hc st' _ h4 h2 (by rintro r' rfl; exact fresh_less hf1 hle2) ro m) (fun e' a'' w'' he => ?_)
    cases e' with
    | normal =>
      obtain ⟨st3, N3, F3, φ3, e3, h6, h7⟩ := he
      cases e3
      exact ⟨n, Nat.lt_succ_self _, st2, N3, F3, φ3, h5, h6, h3.trans h7⟩
    | exit id =>
      obtain ⟨st3, N3, F3, φ3, e3, h6, h7⟩ := he
      cases e3
      have : (AExit.exit id, st2) = r := h5
      exact ⟨st2, N3, F3, φ3, this ▸ hq, h6, h3.trans h7⟩
    | ret =>
      obtain ⟨st3, N3, F3, φ3, e3, h6, h7⟩ := he
      cases e3
      have : (AExit.ret, st2) = r := h5
      exact ⟨st2, N3, F3, φ3, this ▸ hq, h6, h3.trans h7⟩
    | goto l => exact he.elim
    | panic ch => exact he.elim
    | outgrown => exact he.elim

theorem ex_in (hm : P.follows .mixedOrders = true) (hHd : HdSound P hd) (hnt : nt ≤ 1000000) {fuel : Nat} : ∀ (c : Code), CodeOk P nt c (ex P hd nt fuel c) := by
  intro c
  induction c with
  | skip => intro st Q h dl N F φ a w hR hfr ro m; exact wpIn_skip ⟨st, N, F, φ, h, hR, GO.refl hR.heap⟩
  | region id ops draw =>
    intro st Q h dl N F φ a w hR hfr ro m
    simp only [ex] at h
    rw [Out.K_bind] at h
    exact exReg_in hm hHd hnt h hR (fun st' hq => hfr _ hq) (fun st' N' F' φ' a' w' hq hR' hG' => ⟨st', N', F', φ', hq, hR', hG'⟩)
  | seq x y ihx ihy =>
    intro st Q h dl N F φ a w hR hfr ro m
    obtain ⟨r, hr, hq⟩ := (Out.K_iff _ _).1 h
    have hf0 := hfr r hq
    simp only [ex] at hr
    rw [Out.K_bind] at hr
    obtain ⟨⟨e, st2⟩, h4, h5⟩ := (Out.K_iff _ _).1 hr
    have hle2 : st2.hp.nx ≤ r.2.hp.nx := by
      cases e with
      | normal => obtain ⟨_, _, hx', hy'⟩ := (Out.K_iff _ _).1 (ex_mono hnt y st2 _ h5); exact hx' ▸ hy'
      | exit id => have : (AExit.exit id, st2) = r := h5; rw [← this]; exact Nat.le_refl _
      | ret => have : (AExit.ret, st2) = r := h5; rw [← this]; exact Nat.le_refl _
    refine wpIn_seq (wpIn_mono (ihx st _ h4 hR (by rintro r' rfl; exact fresh_less hf0 hle2) ro m) fun e' a' w' he => ?_)
    cases e' with
    | normal =>
      obtain ⟨st3, N3, F3, φ3, e3, h6, h7⟩ := he
      cases e3
      have hf1 := fresh_next hf0 h7.grow.1 h7.names
      refine wpIn_mono (ihy st2 _ h5 h6 (by rintro r' rfl; exact hf1) ro m) (fun e'' a'' w'' he => ?_)
      refine XPost.from h7 ?_
      cases e'' with
      | normal => obtain ⟨st4, N4, F4, φ4, e4, h8, h9⟩ := he; exact ⟨st4, N4, F4, φ4, e4 ▸ hq, h8, h9⟩
      | exit id => obtain ⟨st4, N4, F4, φ4, e4, h8, h9⟩ := he; exact ⟨st4, N4, F4, φ4, e4 ▸ hq, h8, h9⟩
      | ret => obtain ⟨st4, N4, F4, φ4, e4, h8, h9⟩ := he; exact ⟨st4, N4, F4, φ4, e4 ▸ hq, h8, h9⟩
      | goto l => exact he.elim
      | panic ch => exact he.elim
      | outgrown => exact he.elim
    | exit id =>
      obtain ⟨st3, N3, F3, φ3, e3, h6, h7⟩ := he
      cases e3
      have : (AExit.exit id, st2) = r := h5
      exact ⟨st2, N3, F3, φ3, this ▸ hq, h6, h7⟩
    | ret =>
      obtain ⟨st3, N3, F3, φ3, e3, h6, h7⟩ := he
      cases e3
      have : (AExit.ret, st2) = r := h5
      exact ⟨st2, N3, F3, φ3, this ▸ hq, h6, h7⟩
    | goto l => exact he.elim
    | panic ch => exact he.elim
    | outgrown => exact he.elim
  | cond o x y ihx ihy =>
    intro st Q h dl N F φ a w hR hfr ro m
    simp only [ex] at h
    split at h
    · rename_i t
      split at h
      · rename_i v hv
        have he : a.eval (.tmp t) = .bool v := (valOf_rel hR (x := .tmp t) hv).bool_inv
        cases v with
        | true => simp only [Out.K, branch, St.fix_same hv] at h; exact wpIn_cond_true he (ihx st Q h hR hfr ro m)
        | false => simp only [Out.K, branch, St.fix_same hv] at h; exact wpIn_cond_false he (ihy st Q h hR hfr ro m)
      · exact h.elim
    · rename_i v
      cases v with
      | true => exact wpIn_cond_true (by rfl) (ihx st Q h hR hfr ro m)
      | false => exact wpIn_cond_false (by rfl) (ihy st Q h hR hfr ro m)
    · exact h.elim
  | block id c ih =>
    intro st Q h dl N F φ a w hR hfr ro m
    obtain ⟨r, hr, hq⟩ := (Out.K_iff _ _).1 h
    have hf0 := hfr r hq
    simp only [ex] at hr
    rw [Out.K_bind] at hr
    obtain ⟨⟨e, st2⟩, h4, h5⟩ := (Out.K_iff _ _).1 hr
    have h2 : r.2 = st2 := by
      cases e with
      | normal => have : (AExit.normal, st2) = r := h5; rw [← this]
      | exit j =>
        simp only [blockX] at h5
        cases hb : Nat.beq j id with
        | true => rw [hb] at h5; have : (AExit.normal, st2) = r := h5; rw [← this]
        | false => rw [hb] at h5; have : (AExit.exit j, st2) = r := h5; rw [← this]
      | ret => have : (AExit.ret, st2) = r := h5; rw [← this]
    refine wpIn_block (wpIn_mono (ih st _ h4 hR (by rintro r' rfl; rw [← h2]; exact hf0) ro m) fun e' a' w' he => ?_)
    cases e' with
    | normal =>
      obtain ⟨st3, N3, F3, φ3, e3, h6, h7⟩ := he
      cases e3
      have : (AExit.normal, st2) = r := h5
      exact ⟨st2, N3, F3, φ3, this ▸ hq, h6, h7⟩
    | exit j =>
      obtain ⟨st3, N3, F3, φ3, e3, h6, h7⟩ := he
      cases e3
      simp only [blockX] at h5
      cases hb : Nat.beq j id with
      | true =>
        rw [hb] at h5
        have : j = id := Nat.eq_of_beq_eq_true hb
        simp only [Exit.inBlock, this, if_true]
        have : (AExit.normal, st2) = r := h5
        exact ⟨st2, N3, F3, φ3, this ▸ hq, h6, h7⟩
      | false =>
        rw [hb] at h5
        have : j ≠ id := fun e => by subst e; simp [Nat.beq_refl] at hb
        simp only [Exit.inBlock, this, if_false]
        have : (AExit.exit j, st2) = r := h5
        exact ⟨st2, N3, F3, φ3, this ▸ hq, h6, h7⟩
    | ret =>
      obtain ⟨st3, N3, F3, φ3, e3, h6, h7⟩ := he
      cases e3
      have : (AExit.ret, st2) = r := h5
      exact ⟨st2, N3, F3, φ3, this ▸ hq, h6, h7⟩
    | goto l => exact he.elim
    | panic ch => exact he.elim
    | outgrown => exact he.elim
  | exit id => intro st Q h dl N F φ a w hR hfr ro m; exact wpIn_exit ⟨st, N, F, φ, h, hR, GO.refl hR.heap⟩
  | ret => intro st Q h dl N F φ a w hR hfr ro m; exact wpIn_ret ⟨st, N, F, φ, h, hR, GO.refl hR.heap⟩
  | loop c ih => exact loop_sound (ex_mono hnt c) ih fuel
  | rangeFunc f ps c1 c2 _ _ => intro st Q h; exact h.elim
  | scope c ih => intro st Q h dl N F φ a w hR hfr ro m; exact wpIn_scope_straight (wpIn_mono (ih st Q h hR hfr ro m) (fun e' a' w' he => by cases e' <;> first | exact he | exact he.elim))
  | label l => intro st Q h dl N F φ a w hR hfr ro m; exact wpIn_label ⟨st, N, F, φ, h, hR, GO.refl hR.heap⟩
  | goto l => intro st Q h; exact h.elim
  | refuse s => intro st Q h; exact h.elim

theorem ex_sound (hm : P.follows .mixedOrders = true) (hHd : HdSound P hd) (hnt : nt ≤ 1000000) {fuel : Nat} (c : Code) (st : St reg.T) (Q : AExit × St reg.T → Prop) (h : (ex P hd nt fuel c st).K Q) {N F : Nat → Prop} {φ : Phi} {a : Act} {w : World} (hR : RS dl N F φ nt st a w) (hfr : ∀ r, Q r → Fresh N st.hp.nx r.2.hp.nx) : c.wp P (XPost dl Q nt N F φ st.hp w) a w :=
  (wpIn_wide (n := 0)).1 (ex_in hm hHd hnt c st Q h hR hfr none 0)

/-! ### Functions -/
def resOne (tmps : Array Value) : ResultVar → Sem Value
  | .tmp t => pure (tmps.getD t undef)
  | .cell a t => do loadVar t (← asAddr (tmps.getD a undef))

theorem res_sound {N F : Nat → Prop} {φ : Phi} {st : St reg.T} {a : Act} {w : World} (hR : RS dl N F φ nt st a w) {r : ResultVar} {v : V reg.T} (h : resV P st r = some v) :
    ∃ cv, (resOne a.tmps r).run P w = .ok cv w ∧ VRel reg F w φ v cv := by
  cases r with
  | tmp t => exact ⟨_, rfl, (hR.env t v h).2⟩
  | cell t ty =>
    simp only [resV] at h
    split at h
    · rename_i i r o ht
      split at h
      · rename_i ob hi
        split at h
        · rename_i hc
          simp only [Bool.and_eq_true] at hc
          have hr : r < ob.len reg := Nat.le_of_ble_eq_true hc.2
          have hrel := (hR.env t _ ht).2
          obtain ⟨b, s, k, z, hp, he⟩ := hrel.ptr_inv
          have e : (resOne a.tmps (.cell t ty)) = Instr.loadAt ty (.pointer (some ⟨b, s + r * k + o, none⟩)) := by
            simp only [resOne]
            rw [he]
            rfl
          rw [e]
          obtain ⟨_, rfl, _, _, C, tt, fz, h1, _, h2, _⟩ := row_at hR.heap hi hp hc.1
          have hlen : (((ob.row reg r).drop o).take (P.cellsOf ty)).length ≤ ob.k reg - o := by have := h2.at_.wid r hr; simp; omega
          obtain ⟨cv, h3, h4⟩ := load_main (P := P) (F := F) (φ := φ) h h1 (o := s + r * ob.k reg + o) (fun j hj => by
              have hjk : o + j < ob.k reg := by omega
              have := cell_lt hr hjk h2.size
              omega) (fun j hj => by
              have hjk : o + j < ob.k reg := by omega
              have := h2.at_.rel r (o + j) hr hjk
              rw [show s + (r * ob.k reg + (o + j)) = s + r * ob.k reg + o + j by omega] at this
              have e : (((ob.row reg r).drop o).take (P.cellsOf ty)).getD j .any = (ob.row reg r).getD (o + j) .any := by
                simp only [List.length_take, List.length_drop] at hj
                simp only [List.getD, List.getElem?_take, List.getElem?_drop]
                rw [if_pos (by omega)]
              rw [e]; exact this)
          exact ⟨cv, h4, h3⟩
        · simp at h
      · simp at h
    · simp at h

theorem mapM_sound {N F : Nat → Prop} {φ : Phi} {st : St reg.T} {a : Act} {w : World} (hR : RS dl N F φ nt st a w) : ∀ (rs : List ResultVar) (vs : List (V reg.T)), allSome (rs.map (resV P st)) = some vs →
    ∃ cvs : List Value, (rs.mapM (resOne a.tmps)).run P w = .ok cvs w ∧ vs.length = cvs.length ∧ ∀ j, j < vs.length → VRel reg F w φ (vs.getD j .any) (cvs.getD j undef) := by
  intro rs
  induction rs with
  | nil => intro vs h; simp [allSome] at h; subst h; exact ⟨[], rfl, rfl, fun j hj => by simp at hj⟩
  | cons r rs ih =>
    intro vs h
    simp only [List.map_cons] at h
    cases hr : resV P st r with
    | none => rw [hr] at h; simp [allSome] at h
    | some v =>
      rw [hr] at h
      simp only [allSome] at h
      cases hl : allSome (rs.map (resV P st)) with
      | none => rw [hl] at h; simp at h
      | some us =>
        rw [hl] at h
        simp only [Option.some.injEq] at h
        subst h
        obtain ⟨cv, h1, h2⟩ := res_sound hR hr
        obtain ⟨cvs, h3, h4, h5⟩ := ih us hl
        refine ⟨cv :: cvs, ?_, by simp [h4], fun j hj => ?_⟩
        · rw [List.mapM_cons, Sem.run_bind, h1]
          simp only [Result.andThen_ok, Sem.run_bind, h3]
          rfl
        · cases j with
          | zero => simpa using h2
          | succ j => simpa using h5 j (by simpa using hj)

theorem ret_sound {N F : Nat → Prop} {φ : Phi} {st : St reg.T} {a : Act} {w : World} (hR : RS dl N F φ nt st a w) {fn : Func} {v : V reg.T} (h : retV P fn st = some v) :
    ∃ cv, (results fn a.tmps).run P w = .ok cv w ∧ VRel reg F w φ v cv := by
  have e : results fn a.tmps = (do let vs ← fn.results.mapM (resOne a.tmps); pure (if h : vs.size = 1 then vs[0] else .tuple vs)) := by
    unfold results
    congr 1
  have all : ∀ us, allSome (fn.results.toList.map (resV P st)) = some us → ∃ cvs : Array Value, (fn.results.mapM (resOne a.tmps)).run P w = .ok cvs w ∧ us.length = cvs.size ∧
      ∀ j, j < us.length → VRel reg F w φ (us.getD j .any) (cvs.getD j undef) := by
    intro us hus
    obtain ⟨cvs, h1, h2, h3⟩ := mapM_sound hR fn.results.toList us hus
    refine ⟨cvs.toArray, ?_, by simpa using h2, fun j hj => by simpa [Array.getD_eq_getD_getElem?, List.getD] using h3 j hj⟩
    rw [← Array.toArray_toList (xs := fn.results), List.mapM_toArray]
    show ((List.toArray <$> fn.results.toList.mapM (resOne a.tmps) : Sem (Array Value))).run P w = _
    rw [map_eq_pure_bind, Sem.run_bind, h1]
    rfl
  unfold retV at h
  split at h
  · rename_i r hr
    obtain ⟨cvs, h1, h2, h3⟩ := all [v] (by rw [hr]; simp [allSome, h])
    refine ⟨cvs.getD 0 undef, ?_, by simpa using h3 0 (by simp)⟩
    rw [e, Sem.run_bind, h1]
    have hs : cvs.size = 1 := by simpa using h2.symm
    simp [hs, Array.getD]
  · rename_i hne
    split at h
    · rename_i us hus
      simp only [Option.some.injEq] at h
      subst h
      obtain ⟨cvs, h1, h2, h3⟩ := all us hus
      refine ⟨.tuple cvs, ?_, .tup us cvs h2 h3⟩
      rw [e, Sem.run_bind, h1]
      have hs : ¬ cvs.size = 1 := by
        intro hs
        have hl := congrArg List.length (allSome_spec hus)
        simp only [List.length_map] at hl
        obtain ⟨r, hr⟩ := List.length_eq_one_iff.1 (show fn.results.toList.length = 1 by omega)
        exact hne r hr
      simp [hs]
    · simp at h

theorem initEnv_get : ∀ (l : List (V reg.T)) (n : Nat) (t : Tr (V reg.T)), n + l.length ≤ 1000000 → ∀ j, (initEnv l n t).get j = if n ≤ j ∧ j < n + l.length then l[j - n]? else t.get j
  | [], n, t, _, j => by simp [initEnv]; omega
  | v :: l, n, t, h, j => by
    simp only [List.length_cons] at h
    rw [initEnv, initEnv_get l (n + 1) _ (by omega) j, Tr.get_set (by unfold Tr.ok; simp; omega)]
    by_cases h1 : n = j
    · subst h1; simp; omega
    · by_cases h2 : n + 1 ≤ j ∧ j < n + 1 + l.length
      · have e : j - n = (j - (n + 1)) + 1 := by omega
        rw [if_pos h2, if_pos (by simp only [List.length_cons]; omega), e]; simp
      · rw [if_neg h2, if_neg (Ne.symm h1), if_neg (by simp only [List.length_cons]; omega)]

/-- How a function is entered. -/
theorem enter_ok {N F : Nat → Prop} {φ : Phi} {h : Hp reg.T} {w : World} {args : List (V reg.T)} {cargs : Array Value} (hH : HR N F φ h w) (hl : LRel F w φ args cargs) (hle : args.length ≤ nt) (hnt : nt ≤ 1000000) :
    RS [] N F φ nt ⟨initEnv args 0 .e, h⟩ { tmps := cargs ++ Array.replicate (nt - cargs.size) undef, defers := [] } w := by
  have hsz := hl.1
  refine ⟨fun t x hx => ?_, by simp; omega, hH, rfl⟩
  simp only [initEnv_get args 0 .e (by omega), Tr.get_e] at hx
  split at hx
  · rename_i hlt
    have hlt : t < args.length := by omega
    refine ⟨by omega, ?_⟩
    have h1 := hl.2 t hlt
    have e1 : args.getD t .any = x := by
      simp only [Nat.sub_zero] at hx
      simp [List.getD, hx]
    rw [e1] at h1
    have e2 : (cargs ++ Array.replicate (nt - cargs.size) undef).getD t undef = cargs.getD t undef := by
      have : t < cargs.size := by omega
      simp [Array.getD_eq_getD_getElem?, Array.getElem?_append, this]
    rw [e2]
    exact h1
  · cases hx

theorem exFun_sound (hm : P.follows .mixedOrders = true) (hHd : HdSound P hd) (hno : ∀ (f : FuncId) fn, P.funcs[f]? = some fn → fn.body.isNone = false → (fn.name == "runtime.NumGoroutine") = false) (fuel : Nat) : HdSound P (exFun P hd fuel) := by
  intro f args h Q hq
  unfold exFun at hq
  split at hq
  · exact hq.elim
  rename_i fn hfn
  split at hq
  · exact hq.elim
  rename_i c hb
  obtain ⟨hc, hq⟩ := Out.K_ask.1 hq
  simp only [Bool.and_eq_true] at hc
  have hle : args.length ≤ fn.ntmps := by simpa using hc.1
  have hnt : fn.ntmps ≤ 1000000 := Nat.le_of_ble_eq_true hc.2
  rw [Out.K_bind] at hq
  have hbn : fn.body.isNone = false := by rw [hb]; rfl
  refine ⟨⟨fn, hfn, hno f fn hfn hbn, hbn⟩, fun N F φ w cargs hfr hH hl => ?_⟩
  have hfin : ∀ r : AExit × St reg.T, (finX P fn r).K Q → ∃ v, retV P fn r.2 = some v ∧ Q (v, r.2.hp) ∧ ∀ id, r.1 ≠ .exit id := by
    intro r hr
    obtain ⟨e, st⟩ := r
    cases e with
    | normal => obtain ⟨v, h1, h2⟩ := K_oneO hr; exact ⟨v, h1, h2, fun id => by simp⟩
    | ret => obtain ⟨v, h1, h2⟩ := K_oneO hr; exact ⟨v, h1, h2, fun id => by simp⟩
    | exit id => exact hr.elim
  refine calls_of_wp hfn hb (wp_mono (ex_sound hm hHd hnt c _ _ hq (enter_ok hH hl hle hnt) (fun r hr => ?_)) fun e a' w' he => ?_)
  · obtain ⟨v, _, h2, _⟩ := hfin r hr
    exact hfr _ h2
  · have fin : ∀ e', Come [] (fun r => (finX P fn r).K Q) fn.ntmps N F φ h w e' a' w' → a'.defers = [] ∧ ∃ cv, (results fn a'.tmps).run P w' = .ok cv w' ∧ CallPost N F φ h w Q (.returned cv) w' := by
      rintro e' ⟨st', N', F', φ', h1, h2, h3⟩
      obtain ⟨v, h4, h5, _⟩ := hfin _ h1
      obtain ⟨cv, h6, h7⟩ := ret_sound h2 h4
      exact ⟨h2.dfs, cv, h6, cv, rfl, v, st'.hp, N', F', φ', h5, h7, h2.heap, h3⟩
    cases e with
    | normal => exact fin _ he
    | ret => exact fin _ he
    | exit id =>
      obtain ⟨st', N', F', φ', h1, _⟩ := he
      obtain ⟨_, _, _, h6⟩ := hfin _ h1
      exact (h6 id rfl).elim
    | goto l => exact he.elim
    | panic ch => exact he.elim
    | outgrown => exact he.elim

/-- Contracts that hold. -/
def ConOk (P : Program) (C : Con reg.T) : Prop := ∀ f S, C f = some S → ∀ args h Q, (S args h).K Q → There P f ∧ ∀ N F φ w cargs, (∀ r, Q r → Fresh N h.nx r.2.nx) → HR N F φ h w → LRel F w φ args cargs → Calls P f cargs w (CallPost N F φ h w Q)

theorem hdN_sound (hm : P.follows .mixedOrders = true) (hno : ∀ (f : FuncId) fn, P.funcs[f]? = some fn → fn.body.isNone = false → (fn.name == "runtime.NumGoroutine") = false) {C : Con reg.T} (hC : ConOk P C) (fuel : Nat) :
    ∀ n, HdSound P (hdN P C fuel n) := by
  intro n
  induction n with
  | zero =>
    intro f args h Q hq
    simp only [hdN] at hq
    split at hq
    · rename_i S hS; exact hC f S hS args h Q hq
    · exact hq.elim
  | succ n ih =>
    intro f args h Q hq
    simp only [hdN] at hq
    split at hq
    · rename_i S hS; exact hC f S hS args h Q hq
    · exact exFun_sound hm ih hno fuel f args h Q hq
end
end Go.W
