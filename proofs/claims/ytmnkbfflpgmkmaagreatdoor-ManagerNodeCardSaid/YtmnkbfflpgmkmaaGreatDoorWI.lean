/- Functions that are ranged over: their code apart from the rounds. No conditions. -/
import Derived.Test.YtmnkbfflpgmkmaaGreatDoorWX
import Derived.RangeFuncSeq
namespace Go.W
open Go Go.RowKit

/-! ### An iterator's code, with the calls of yield kept in a list -/
section
variable {reg : Reg} (P : Program)

/-- 'ys': the temporaries that hold yield; 'out': what has come. -/
structure It (T : Nat → Type) where
  env : Tr (V T)
  hp : Hp T
  ys : List Nat
  out : List (List (V T))

def dropN (l : List Nat) : Option Nat → List Nat
  | none => l
  | some d => l.filter fun t => !Nat.beq t d

/-- Values without names, and without slices. -/
def V.bare {T : Nat → Type} : V T → Bool
  | .d (.bool _) => true
  | .d (.int _ _) => true
  | .d (.str _) => true
  | .d .nilp => true
  | .d .nilm => true
  | .d .nilf => true
  | .d .nili => true
  | .d .nils => true
  | .agg vs => goL vs
  | _ => false
where goL {T : Nat → Type} : List (V T) → Bool
  | [] => true
  | v :: vs => V.bare v && goL vs

def isYield (ys : List Nat) : Op → Option (Array Operand)
  | .call ⟨.value (.tmp t), args, _⟩ => (match memN ys t with | true => some args | false => none)
  | _ => none
def isYMove (ys : List Nat) (dst : Option Nat) : Op → Option Nat
  | .move (.tmp t) => (match memN ys t with | true => dst | false => none)
  | _ => none

def exOpsY (hd : Hd reg.T) (nt : Nat) : List Oper → It reg.T → Out (It reg.T)
  | [], s => .ret s
  | o :: rest, s =>
    match dstOk nt o.dst && o.guard.isNone with
    | false => .bad
    | true =>
      match isYMove s.ys o.dst o.op with
      | some d => exOpsY hd nt rest ⟨s.env.set d (some .any), s.hp, d :: s.ys, s.out⟩
      | none =>
        match isYield s.ys o.op with
        | some args =>
          (match allSome (args.toList.map (valOf s.env.get)) with
          | some vs => (match V.bare.goL vs with
            | true => exOpsY hd nt rest ⟨(St.put ⟨s.env, s.hp⟩ o.dst (.d (.bool true))).env, s.hp, dropN s.ys o.dst, s.out ++ [vs]⟩
            | false => .bad)
          | none => .bad)
        | none =>
          (lexec P hd o.op (valOf s.env.get) s.hp).bind fun r => Out.ask (Nat.beq s.hp.nx r.2.nx) (exOpsY hd nt rest ⟨(St.put ⟨s.env, r.2⟩ o.dst r.1).env, r.2, dropN s.ys o.dst, s.out⟩)

def thenY {T : Nat → Type} (k : It T → Out (AExit × It T)) (r : AExit × It T) : Out (AExit × It T) :=
  match r.1 with
  | .normal => k r.2
  | e => .ret (e, r.2)
def blockY {T : Nat → Type} (id : Nat) (r : AExit × It T) : Out (AExit × It T) :=
  match r.1 with
  | .exit j => (match Nat.beq j id with | true => .ret (.normal, r.2) | false => .ret (.exit j, r.2))
  | e => .ret (e, r.2)
def loopY {T : Nat → Type} (body : It T → Out (AExit × It T)) : Nat → It T → Out (AExit × It T)
  | 0, _ => .bad
  | n + 1, s => (body s).bind fun r => (match r.1 with | .normal => loopY body n r.2 | e => .ret (e, r.2))

def exY (hd : Hd reg.T) (nt fuel : Nat) : Code → It reg.T → Out (AExit × It reg.T)
  | .skip, s => .ret (.normal, s)
  | .region _ ops false, s => (exOpsY P hd nt ops.toList s).bind fun s => .ret (.normal, s)
  | .seq a b, s => (exY hd nt fuel a s).bind (thenY (exY hd nt fuel b))
  | .cond (.tmp t) a b, s => (match s.env.get t with
      | some (.d (.bool v)) => (match v with | true => exY hd nt fuel a s | false => exY hd nt fuel b s)
      | _ => .bad)
  | .block id c, s => (exY hd nt fuel c s).bind (blockY id)
  | .loop c, s => loopY (exY hd nt fuel c) fuel s
  | .exit id, s => .ret (.exit id, s)
  | .ret, s => .ret (.ret, s)
  | _, _ => .bad
end

/-! ### Bare values -/
section
variable {reg : Reg}
theorem V.bare_rel {v : V reg.T} {F F' : Nat → Prop} {w w' : World} {φ φ' : Phi} {cv : Value} (h : VRel reg F w φ v cv) (hb : v.bare = true) : VRel reg F' w' φ' v cv := by
  have key : ∀ (v : V reg.T) (cv : Value), VRel reg F w φ v cv → v.bare = true → VRel reg F' w' φ' v cv := by
    intro v cv h
    induction h with
    | d x v hd =>
      intro hb
      refine .d x v ?_
      cases hd with
      | bool b => exact .bool b
      | int k n => exact .int k n
      | str s => exact .str s
      | nilp => exact .nilp
      | nilm => exact .nilm
      | nilf => exact .nilf
      | nili => exact .nili
      | nils => exact .nils
      | emp _ hx hl base cap => exact .emp _ hx hl base cap
      | sl _ n a cap C t fz hx hl hF hb' hs hc hm hz hk hr =>
        cases x <;> first
          | (simp only [D.len?, Option.some.injEq] at hl; subst hl; exact .emp .nils hx rfl (some a) cap)
          | (simp [V.bare] at hb; done)
          | (simp [D.isSl] at hx; done)
    | agg vs cs hz _ ih =>
      intro hb
      refine .agg vs cs hz fun j hj => ih j hj ?_
      have : ∀ (vs : List (V reg.T)), V.bare.goL vs = true → ∀ j, j < vs.length → (vs.getD j .any).bare = true := by
        intro vs
        induction vs with
        | nil => intro _ j hj; simp at hj
        | cons x xs ihx =>
          intro hb j hj
          simp only [V.bare.goL, Bool.and_eq_true] at hb
          cases j with
          | zero => simpa using hb.1
          | succ j => simpa using ihx hb.2 j (by simpa using hj)
      exact this vs hb j hj
    | _ => intro hb; simp [V.bare] at hb
  exact key v cv h hb

theorem bareL_rel {vs : List (V reg.T)} {cs : Array Value} {F F' : Nat → Prop} {w w' : World} {φ φ' : Phi} (h : LRel F w φ vs cs) (hb : V.bare.goL vs = true) : LRel F' w' φ' vs cs := by
  refine ⟨h.1, fun j hj => V.bare_rel (h.2 j hj) ?_⟩
  have : ∀ (vs : List (V reg.T)), V.bare.goL vs = true → ∀ j, j < vs.length → (vs.getD j .any).bare = true := by
    intro vs
    induction vs with
    | nil => intro _ j hj; simp at hj
    | cons x xs ihx =>
      intro hb j hj
      simp only [V.bare.goL, Bool.and_eq_true] at hb
      cases j with
      | zero => simpa using hb.1
      | succ j => simpa using ihx hb.2 j (by simpa using hj)
  exact this vs hb j hj

/-- A heap whose blocks lie as they lay. -/
theorem HRel.later {F : Nat → Prop} {φ : Phi} {N : Nat → Prop} {H : Nat → Option (O reg.T)} {w w' : World} (h : HRel reg F φ N H w) (hs : w.heap.size ≤ w'.heap.size) (hb : ∀ b, F b ∨ Owned reg φ H b → w'.heap[b]? = w.heap[b]?) : HRel reg F φ N H w' := by
  have hF : ∀ b, F b → F b ∧ w'.heap[b]? = w.heap[b]? := fun b h1 => ⟨h1, hb b (.inl h1)⟩
  exact ⟨fun i o ho => (h.obj i o ho).mono reg hF (fun _ _ hp => hp) (fun hp => hp) (fun b s k hp => hb b (.inr ⟨i, o, s, k, ho, hp⟩)),
    fun i o b s k ho hp => ⟨(h.own i o b s k ho hp).1, Nat.lt_of_lt_of_le (h.own i o b s k ho hp).2 hs⟩, h.inj, h.dom, h.lt, h.ok, fun b h1 => Nat.lt_of_lt_of_le (h.frz b h1) hs, h.lay.mono reg hF⟩
end

/-! ### At the machine -/
section
variable {reg : Reg} {P : Program} {hd : Hd reg.T} {nt : Nat}

/-- What the caller of the iterator keeps between two rounds: so many have come; the blocks that the iterator may write; those that it looks at. -/
structure Keeps (J : Nat → (Nat → Prop) → (Nat → Prop) → World → Prop) : Prop where
  step : ∀ k O X W O' X' W', J k O X W → W.heap.size ≤ W'.heap.size → (∀ b, b < W.heap.size → ¬O b → W'.heap[b]? = W.heap[b]?) → W'.os = W.os → W'.tape = W.tape → W'.output = W.output → (∀ b, O' b → (O b ∨ W.heap.size ≤ b) ∧ b < W'.heap.size) → (∀ b, X' b → (X b ∨ W.heap.size ≤ b) ∧ b < W'.heap.size) → J k O' X' W'

/-- From one world to another: the iterator's blocks lie as they lay. -/
structure Past (X : Nat → Prop) (W W' : World) : Prop where
  size : W.heap.size ≤ W'.heap.size
  same : ∀ b, X b → b < W.heap.size → W'.heap[b]? = W.heap[b]?

/-- What a call of yield comes to. -/
def YOk (P : Program) (m l : Nat) (items : List (List (V reg.T))) (J : Nat → (Nat → Prop) → (Nat → Prop) → World → Prop) : Prop :=
  ∀ k O X W xs cxs, items[k]? = some xs → J k O X W → (∀ F φ, LRel (reg := reg) F W φ xs cxs) → YieldAt (Fr none) m P l cxs W fun e W' => e = .returned (.bool true) ∧ J (k + 1) O X W' ∧ Past X W W'

def XB (F : Nat → Prop) (φ : Phi) (h : Hp reg.T) (b : Nat) : Prop := F b ∨ Owned reg φ h.get b

/-- An iterator's frame, at the machine. -/
structure RI (nt l : Nat) (J : Nat → (Nat → Prop) → (Nat → Prop) → World → Prop) (s : It reg.T) (N F : Nat → Prop) (φ : Phi) (a : Act) (W : World) : Prop where
  rel : RF (reg := reg) [] N F φ nt ⟨s.env.get, s.hp.get⟩ a W
  ys : ∀ t ∈ s.ys, t < nt ∧ a.tmps.getD t undef = .func (.yield l) #[] #[]
  inv : J s.out.length (Owned reg φ s.hp.get) (XB F φ s.hp) W

/-- What has come is a front of what is to come. -/
def Front (items : List (List (V reg.T))) (s : It reg.T) : Prop := ∃ more, items = s.out ++ more

theorem mem_dropN {l : List Nat} {d : Option Nat} {t : Nat} (h : t ∈ dropN l d) : t ∈ l ∧ d ≠ some t := by
  cases d with
  | none => exact ⟨h, by simp⟩
  | some d =>
    simp only [dropN, List.mem_filter, Bool.not_eq_true'] at h
    refine ⟨h.1, fun e => ?_⟩
    simp only [Option.some.injEq] at e
    subst e
    have := h.2
    simp [Nat.beq_refl] at this

theorem put_other {a : Act} {d : Option Nat} {v : Value} {t : Nat} (h : d ≠ some t) : (a.put d v).tmps.getD t undef = a.tmps.getD t undef := by
  cases d with
  | none => rfl
  | some d =>
    have : d ≠ t := fun e => h (by rw [e])
    simp only [Act.put, Array.getD_eq_getD_getElem?, Array.getElem?_setIfInBounds]
    rw [if_neg this]
theorem put_here {a : Act} {d : Nat} {v : Value} (h : d < a.tmps.size) : (a.put (some d) v).tmps.getD d undef = v := by
  simp only [Act.put, Array.getD_eq_getD_getElem?, Array.getElem?_setIfInBounds]
  simp [h]

theorem exOpsY_out : ∀ {rest : List Oper} {s s' : It reg.T}, (exOpsY P hd nt rest s).K (· = s') → ∃ l, s'.out = s.out ++ l := by
  intro rest
  induction rest with
  | nil => intro s s' h; have h : s = s' := h; exact ⟨[], by rw [← h]; simp⟩
  | cons o rest ih =>
    intro s s' h
    simp only [exOpsY] at h
    split at h
    · exact h.elim
    split at h
    · obtain ⟨l, hl⟩ := ih h; exact ⟨l, hl⟩
    split at h
    · split at h
      · split at h
        · obtain ⟨l, hl⟩ := ih h; exact ⟨[_] ++ l, hl.trans (List.append_assoc _ _ _)⟩
        · exact h.elim
      · exact h.elim
    · rw [Out.K_bind] at h
      obtain ⟨r, _, h2⟩ := (Out.K_iff _ _).1 h
      obtain ⟨_, h2⟩ := Out.K_ask.1 h2
      obtain ⟨l, hl⟩ := ih h2; exact ⟨l, hl⟩

theorem exOpsY_sound {m l : Nat} {items : List (List (V reg.T))} {J : Nat → (Nat → Prop) → (Nat → Prop) → World → Prop} (hHd : HdSound P hd) (hnt : nt ≤ 1000000) (hJ : Keeps J) (hY : YOk P m l items J) {ops : Array Oper} {Qx : Exit → Act → World → Prop} :
    ∀ {rest : List Oper} {n : Nat} {s s' : It reg.T}, (exOpsY P hd nt rest s).K (· = s') → (∃ more, items = s'.out ++ more) → (∀ j, rest[j]? = ops[n + j]?) → ∀ {N F : Nat → Prop} {φ : Phi} {a : Act} {W : World}, RI nt l J s N F φ a W →
    (∀ N' F' φ' a' W', RI nt l J s' N' F' φ' a' W' → Qx .normal a' W') → wpOpsIn (Fr none) (m + 1) P ops Qx (List.range' n rest.length) a W := by
  intro rest
  induction rest with
  | nil => intro n s s' h _ _ N F φ a W hR hQ; have h : s = s' := h; subst h; exact hQ _ _ _ _ _ hR
  | cons o rest ih =>
    intro n s s' h hfr hr N F φ a W hR hQ
    have ho : ops[n]? = some o := by have := hr 0; simpa using this.symm
    have hr' : ∀ j, rest[j]? = ops[n + 1 + j]? := fun j => by have := hr (j + 1); simp only [List.getElem?_cons_succ] at this; rw [this]; congr 1; omega
    simp only [exOpsY] at h
    split at h
    · exact h.elim
    rename_i hok
    simp only [Bool.and_eq_true] at hok
    obtain ⟨hdst, hgd⟩ := hok
    have hgd : o.guard = none := by cases hg : o.guard with | none => rfl | some g => rw [hg] at hgd; cases hgd
    rw [List.length_cons, List.range'_succ, wpOpsIn_cons]
    unfold wpOpIn
    simp only [ho]
    rw [if_pos (by simp [Region.wanted, hgd])]
    split at h
    · -- yield is moved
      rename_i d hmv
      have hop : ∃ t, o.op = .move (.tmp t) ∧ memN s.ys t = true ∧ o.dst = some d := by
        unfold isYMove at hmv
        split at hmv
        · rename_i t heq
          split at hmv
          · rename_i hm; exact ⟨t, heq, hm, hmv⟩
          · cases hmv
        · cases hmv
      obtain ⟨t, hop, hm, hd'⟩ := hop
      have ht := hR.ys t (memN_iff.1 hm)
      have hd2 : d < nt := by rw [hd'] at hdst; simpa [dstOk] using hdst
      have hev : a.eval (.tmp t) = .func (.yield l) #[] #[] := by
        rw [← ht.2]; simp [Act.eval, Array.getD_eq_getD_getElem?]
      refine Oper.in_of_wp (fun c hc => by rw [hop] at hc; cases hc) ?_
      unfold Oper.wp
      have hrun : (execOp a.eval o).run P W = .ok (.value (a.eval (.tmp t))) W := by simp [execOp, hop]
      rw [hrun, hev]
      show wpOpsIn _ _ _ _ _ _ (a.put o.dst _) W
      refine ih (N := N) (F := F) (φ := φ) h hfr hr' ?_ hQ
      have hput := hR.rel.put hR.rel.heap (Goes.refl reg hR.rel.heap) hdst (v := .any) (cv := .func (.yield l) #[] #[]) (.any _)
      refine ⟨?_, ?_, hR.inv⟩
      · show RF [] N F φ nt ⟨(s.env.set d (some .any)).get, s.hp.get⟩ _ W
        have e : (s.env.set d (some .any)).get = setF s.env.get o.dst .any := by
          rw [← setF_get hnt hdst .any s.hp, hd']; rfl
        rw [e]; exact hput
      · intro t' ht'
        rcases List.mem_cons.1 ht' with e | h'
        · subst e
          refine ⟨hd2, ?_⟩
          rw [hd']; exact put_here (by rw [hR.rel.size]; exact hd2)
        · refine ⟨(hR.ys t' h').1, ?_⟩
          by_cases e : o.dst = some t'
          · rw [e]; exact put_here (by rw [hR.rel.size]; exact (hR.ys t' h').1)
          · rw [put_other e]; exact (hR.ys t' h').2
    split at h
    · -- yield is called
      rename_i args hyl
      have hop : ∃ t ts, o.op = .call ⟨.value (.tmp t), args, ts⟩ ∧ memN s.ys t = true := by
        unfold isYield at hyl
        split at hyl
        · rename_i t args' ts heq
          split at hyl
          · rename_i hm; cases hyl; exact ⟨t, ts, heq, hm⟩
          · cases hyl
        · cases hyl
      obtain ⟨t, ts, hop, hm⟩ := hop
      have ht := hR.ys t (memN_iff.1 hm)
      have hev : a.eval (.tmp t) = .func (.yield l) #[] #[] := by
        rw [← ht.2]; simp [Act.eval, Array.getD_eq_getD_getElem?]
      split at h
      · rename_i vs hvs
        split at h
        · rename_i hbare
          have hl := operands_rel (F := F) (w := W) (φ := φ) (fun x v hx => valOf_rel hR.rel hx) hvs
          obtain ⟨more, hmore⟩ := hfr
          obtain ⟨l', hl'⟩ := exOpsY_out h
          have hit : items[s.out.length]? = some vs := by
            rw [hmore, hl']; simp
          obtain ⟨fn, tmps, assign, body, hyr, hround⟩ := hY s.out.length _ _ W vs (args.map a.eval) hit hR.inv (fun F' φ' => bareL_rel hl hbare)
          have hrun : (Oper.semAt (Fr none).round a.eval o).run P W = .ok (.round l fn tmps assign body) W := by
            rw [show (Fr none).round = none from rfl, Oper.semAt_none]
            simp [execOp, hop, resolve, hev, Deferred.ofValue, invoke, hyr]
          refine ⟨fun _ _ => trivial, ?_⟩
          rw [hrun, Oper.uponIn_round]
          refine ⟨fun hh => (by cases hh), ?_⟩
          refine hround.mono (fun e W' he => ?_)
          obtain ⟨rfl, hj, hp⟩ := he
          show wpOpsIn _ _ _ _ _ _ (a.put o.dst _) W'
          have hlater := hR.rel.heap.later hp.size (fun b hb => hp.same b hb (by
            rcases hb with hb | ⟨i, ob, s0, k0, h1, h2⟩
            · exact hR.rel.heap.frz b hb
            · exact (hR.rel.heap.own i ob b s0 k0 h1 h2).2))
          have hRF : RF [] N F φ nt ⟨s.env.get, s.hp.get⟩ a W' :=
            ⟨fun t' v hv => ⟨(hR.rel.env t' v hv).1, (hR.rel.env t' v hv).2.mono reg (fun b hb => ⟨hb, hp.same b (.inl hb) (hR.rel.heap.frz b hb)⟩) (fun _ _ hx => hx)⟩, hR.rel.size, hlater, hR.rel.dfs⟩
          have hput := hRF.put hRF.heap (Goes.refl reg hRF.heap) hdst (v := .d (.bool true)) (cv := .bool true) (.d _ _ (.bool true))
          refine ih (N := N) (F := F) (φ := φ) h ⟨more, hmore⟩ hr' ⟨?_, ?_, ?_⟩ hQ
          · show RF [] N F φ nt ⟨(St.put ⟨s.env, s.hp⟩ o.dst (.d (.bool true))).env.get, s.hp.get⟩ _ W'
            rw [setF_get hnt hdst]; exact hput
          · intro t' ht'
            obtain ⟨h1, h2⟩ := mem_dropN ht'
            exact ⟨(hR.ys t' h1).1, by rw [put_other h2]; exact (hR.ys t' h1).2⟩
          · show J (s.out ++ [vs]).length _ _ W'
            rw [List.length_append]; exact hj
        · exact h.elim
      · exact h.elim
    · -- another operation
      rw [Out.K_bind] at h
      obtain ⟨⟨v, p'⟩, h1, h2⟩ := (Out.K_iff _ _).1 h
      obtain ⟨hnx, h2⟩ := Out.K_ask.1 h2
      have hnx : s.hp.nx = p'.nx := Nat.eq_of_beq_eq_true hnx
      simp only at h2
      refine lexec_in hHd (o := o) (Q := (· = (v, p'))) (val := valOf s.env.get) hR.rel.heap ?_ (fun x v hx => valOf_rel hR.rel hx) h1 (fun cv W' hres => ?_)
      · rintro r' rfl i hi1 hi2
        simp only at hi2
        omega
      · obtain ⟨v', h', N', F', φ', hq, hv, hH', hG⟩ := hres
        cases hq
        have hput := hR.rel.put hH' hG.goes hdst hv
        refine ih (N := N') (F := F') (φ := φ') h2 hfr hr' ⟨?_, ?_, ?_⟩ hQ
        · show RF [] N' F' φ' nt ⟨(St.put ⟨s.env, p'⟩ o.dst v).env.get, p'.get⟩ _ W'
          rw [setF_get hnt hdst]; exact hput
        · intro t' ht'
          obtain ⟨h3, h4⟩ := mem_dropN ht'
          exact ⟨(hR.ys t' h3).1, by rw [put_other h4]; exact (hR.ys t' h3).2⟩
        · refine hJ.step _ _ _ W _ _ W' hR.inv hG.goes.size hG.goes.block hG.goes.os hG.goes.tape hG.goes.output (fun b hb => ⟨hG.goes.dom b hb, by obtain ⟨i, o', s0, k0, e1, e2⟩ := hb; exact (hH'.own i o' b s0 k0 e1 e2).2⟩) (fun b hb => ?_)
          rcases hb with hb | hb
          · refine ⟨?_, hH'.frz b hb⟩
            rcases hG.goes.fnew b hb with h5 | h5 | h5
            · exact .inl (.inl h5)
            · exact .inr h5
            · exact .inl (.inr h5)
          · refine ⟨?_, by obtain ⟨i, o', s0, k0, e1, e2⟩ := hb; exact (hH'.own i o' b s0 k0 e1 e2).2⟩
            rcases hG.goes.dom b hb with h5 | h5
            · exact .inl (.inr h5)
            · exact .inr h5

/-- How an iterator's code is left. -/
def YPost (nt l : Nat) (J : Nat → (Nat → Prop) → (Nat → Prop) → World → Prop) (e : AExit) (s : It reg.T) : Exit → Act → World → Prop
  | .normal, a, W => e = .normal ∧ ∃ N F φ, RI nt l J s N F φ a W
  | .exit id, a, W => e = .exit id ∧ ∃ N F φ, RI nt l J s N F φ a W
  | .ret, a, W => e = .ret ∧ ∃ N F φ, RI nt l J s N F φ a W
  | _, _, _ => False

theorem loopY_out {body : It reg.T → Out (AExit × It reg.T)} (hb : ∀ (s : It reg.T) r, (body s).K (· = r) → ∃ l, r.2.out = s.out ++ l) : ∀ (n : Nat) {s : It reg.T} {r : AExit × It reg.T}, (loopY body n s).K (· = r) → ∃ l, r.2.out = s.out ++ l := by
  intro n
  induction n with
  | zero => intro s r h; exact h.elim
  | succ n ih =>
    intro s r h
    simp only [loopY] at h
    rw [Out.K_bind] at h
    obtain ⟨⟨e, s2⟩, h1, h2⟩ := (Out.K_iff _ _).1 h
    obtain ⟨l, hl⟩ := hb s _ h1
    cases e with
    | normal => obtain ⟨l2, hl2⟩ := ih h2; exact ⟨l ++ l2, by rw [hl2, hl]; simp⟩
    | exit id => have h2 : (AExit.exit id, s2) = r := h2; exact ⟨l, by rw [← h2]; exact hl⟩
    | ret => have h2 : (AExit.ret, s2) = r := h2; exact ⟨l, by rw [← h2]; exact hl⟩

theorem exY_out {fuel : Nat} : ∀ (c : Code) (s : It reg.T) (r : AExit × It reg.T), (exY P hd nt fuel c s).K (· = r) → ∃ l, r.2.out = s.out ++ l := by
  intro c
  induction c with
  | skip => intro s r h; have h : (AExit.normal, s) = r := h; exact ⟨[], by rw [← h]; simp⟩
  | region id ops draw =>
    intro s r h
    cases draw with
    | true => exact h.elim
    | false =>
      simp only [exY] at h
      rw [Out.K_bind] at h
      obtain ⟨s2, h1, h2⟩ := (Out.K_iff _ _).1 h
      have h2 : (AExit.normal, s2) = r := h2
      rw [← h2]; exact exOpsY_out h1
  | seq x y ihx ihy =>
    intro s r h
    simp only [exY] at h
    rw [Out.K_bind] at h
    obtain ⟨⟨e, s2⟩, h1, h2⟩ := (Out.K_iff _ _).1 h
    obtain ⟨l, hl⟩ := ihx s _ h1
    cases e with
    | normal => obtain ⟨l2, hl2⟩ := ihy s2 r h2; exact ⟨l ++ l2, by rw [hl2, hl]; simp⟩
    | exit id => have h2 : (AExit.exit id, s2) = r := h2; exact ⟨l, by rw [← h2]; exact hl⟩
    | ret => have h2 : (AExit.ret, s2) = r := h2; exact ⟨l, by rw [← h2]; exact hl⟩
  | cond o x y ihx ihy =>
    intro s r h
    cases o <;> simp only [exY] at h <;> (try exact h.elim)
    split at h
    · split at h
      · exact ihx s r h
      · exact ihy s r h
    · exact h.elim
  | block id c ih =>
    intro s r h
    simp only [exY] at h
    rw [Out.K_bind] at h
    obtain ⟨⟨e, s2⟩, h1, h2⟩ := (Out.K_iff _ _).1 h
    obtain ⟨l, hl⟩ := ih s _ h1
    refine ⟨l, ?_⟩
    have : r.2 = s2 := by
      cases e with
      | normal => have h2 : (AExit.normal, s2) = r := h2; rw [← h2]
      | ret => have h2 : (AExit.ret, s2) = r := h2; rw [← h2]
      | exit j =>
        simp only [blockY] at h2
        split at h2
        · have h2 : (AExit.normal, s2) = r := h2; rw [← h2]
        · have h2 : (AExit.exit j, s2) = r := h2; rw [← h2]
    rw [this]; exact hl
  | loop c ih => intro s r h; exact loopY_out (fun s r h => ih s r h) fuel h
  | exit id => intro s r h; have h : (AExit.exit id, s) = r := h; exact ⟨[], by rw [← h]; simp⟩
  | ret => intro s r h; have h : (AExit.ret, s) = r := h; exact ⟨[], by rw [← h]; simp⟩
  | rangeFunc => intro s r h; exact h.elim
  | scope => intro s r h; exact h.elim
  | label => intro s r h; exact h.elim
  | goto => intro s r h; exact h.elim
  | refuse => intro s r h; exact h.elim

theorem front_of {items l : List (List (V reg.T))} {s s' : It reg.T} (h : s'.out = s.out ++ l) (hf : ∃ more, items = s'.out ++ more) : ∃ more, items = s.out ++ more := by
  obtain ⟨m, hm⟩ := hf
  exact ⟨l ++ m, by rw [hm, h, List.append_assoc]⟩

theorem exY_sound {m l fuel : Nat} {items : List (List (V reg.T))} {J : Nat → (Nat → Prop) → (Nat → Prop) → World → Prop} (hHd : HdSound P hd) (hnt : nt ≤ 1000000) (hJ : Keeps J) (hY : YOk P m l items J) :
    ∀ (c : Code) (s : It reg.T) (r : AExit × It reg.T), (exY P hd nt fuel c s).K (· = r) → (∃ more, items = r.2.out ++ more) → ∀ {N F : Nat → Prop} {φ : Phi} {a : Act} {W : World}, RI nt l J s N F φ a W → c.wpIn (Fr none) (m + 1) P (YPost nt l J r.1 r.2) a W := by
  intro c
  induction c with
  | skip => intro s r h _ N F φ a W hR; have h : (AExit.normal, s) = r := h; subst h; exact wpIn_skip ⟨rfl, _, _, _, hR⟩
  | region id ops draw =>
    intro s r h hfr N F φ a W hR
    cases draw with
    | true => exact h.elim
    | false =>
      simp only [exY] at h
      rw [Out.K_bind] at h
      obtain ⟨s2, h1, h2⟩ := (Out.K_iff _ _).1 h
      have h2 : (AExit.normal, s2) = r := h2
      subst h2
      refine wpIn_region ?_
      have := exOpsY_sound (ops := ops) (n := 0) (Qx := YPost nt l J .normal s2) hHd hnt hJ hY h1 hfr (fun j => by simp) hR (fun N' F' φ' a' W' hR' => ⟨rfl, _, _, _, hR'⟩)
      rwa [← List.range_eq_range', Array.length_toList] at this
  | seq x y ihx ihy =>
    intro s r h hfr N F φ a W hR
    simp only [exY] at h
    rw [Out.K_bind] at h
    obtain ⟨⟨e, s2⟩, h1, h2⟩ := (Out.K_iff _ _).1 h
    have hfr2 : ∃ more, items = s2.out ++ more := by
      cases e with
      | normal => obtain ⟨l2, hl2⟩ := exY_out y s2 r h2; exact front_of hl2 hfr
      | exit id => have h2 : (AExit.exit id, s2) = r := h2; rw [← h2] at hfr; exact hfr
      | ret => have h2 : (AExit.ret, s2) = r := h2; rw [← h2] at hfr; exact hfr
    refine wpIn_seq (wpIn_mono (ihx s _ h1 hfr2 hR) fun e' a' W' he => ?_)
    cases e' with
    | normal =>
      obtain ⟨he, N2, F2, φ2, hR2⟩ := he
      simp only at he
      subst he
      exact ihy s2 r h2 hfr hR2
    | exit id =>
      obtain ⟨he, N2, F2, φ2, hR2⟩ := he
      simp only at he
      subst he
      have h2 : (AExit.exit id, s2) = r := h2
      subst h2
      exact ⟨rfl, _, _, _, hR2⟩
    | ret =>
      obtain ⟨he, N2, F2, φ2, hR2⟩ := he
      simp only at he
      subst he
      have h2 : (AExit.ret, s2) = r := h2
      subst h2
      exact ⟨rfl, _, _, _, hR2⟩
    | goto t => exact he.elim
    | panic ch => exact he.elim
    | outgrown => exact he.elim
  | cond o x y ihx ihy =>
    intro s r h hfr N F φ a W hR
    cases o <;> simp only [exY] at h <;> (try exact h.elim)
    rename_i t
    split at h
    · rename_i v hv
      have he : a.eval (.tmp t) = .bool v := (valOf_rel hR.rel (x := .tmp t) hv).bool_inv
      split at h
      · exact wpIn_cond_true he (ihx s r h hfr hR)
      · exact wpIn_cond_false he (ihy s r h hfr hR)
    · exact h.elim
  | block id c ih =>
    intro s r h hfr N F φ a W hR
    simp only [exY] at h
    rw [Out.K_bind] at h
    obtain ⟨⟨e, s2⟩, h1, h2⟩ := (Out.K_iff _ _).1 h
    have hr2 : r.2 = s2 := by
      cases e with
      | normal => have h2 : (AExit.normal, s2) = r := h2; rw [← h2]
      | ret => have h2 : (AExit.ret, s2) = r := h2; rw [← h2]
      | exit j =>
        simp only [blockY] at h2
        split at h2
        · have h2 : (AExit.normal, s2) = r := h2; rw [← h2]
        · have h2 : (AExit.exit j, s2) = r := h2; rw [← h2]
    refine wpIn_block (wpIn_mono (ih s _ h1 (by rw [← hr2]; exact hfr) hR) fun e' a' W' he => ?_)
    cases e' with
    | normal =>
      obtain ⟨he, N2, F2, φ2, hR2⟩ := he
      simp only at he
      subst he
      have h2 : (AExit.normal, s2) = r := h2
      subst h2
      exact ⟨rfl, _, _, _, hR2⟩
    | exit j =>
      obtain ⟨he, N2, F2, φ2, hR2⟩ := he
      simp only at he
      subst he
      simp only [blockY] at h2
      split at h2
      · rename_i hb
        have h2 : (AExit.normal, s2) = r := h2
        have hj := Nat.eq_of_beq_eq_true hb
        subst h2
        subst hj
        simp only [Exit.inBlock, if_true]
        exact ⟨rfl, _, _, _, hR2⟩
      · rename_i hb
        have h2 : (AExit.exit j, s2) = r := h2
        have hj : j ≠ id := fun e => by subst e; simp [Nat.beq_refl] at hb
        subst h2
        simp only [Exit.inBlock, if_neg hj]
        exact ⟨rfl, _, _, _, hR2⟩
    | ret =>
      obtain ⟨he, N2, F2, φ2, hR2⟩ := he
      simp only at he
      subst he
      have h2 : (AExit.ret, s2) = r := h2
      subst h2
      exact ⟨rfl, _, _, _, hR2⟩
    | goto t => exact he.elim
    | panic ch => exact he.elim
    | outgrown => exact he.elim
  | loop c ih =>
    intro s r h hfr N F φ a W hR
    refine wpIn_loop_ghost (fun n a' W' => ∃ s' N' F' φ', (loopY (exY P hd nt fuel c) n s').K (· = r) ∧ RI nt l J s' N' F' φ' a' W') fuel ⟨s, N, F, φ, h, hR⟩ ?_
    rintro n a' W' ⟨s', N', F', φ', h1, hR1⟩
    cases n with
    | zero => exact h1.elim
    | succ n =>
      simp only [loopY] at h1
      rw [Out.K_bind] at h1
      obtain ⟨⟨e, s2⟩, h4, h5⟩ := (Out.K_iff _ _).1 h1
      have hfr2 : ∃ more, items = s2.out ++ more := by
        cases e with
        | normal => obtain ⟨l2, hl2⟩ := loopY_out (fun s r h => exY_out c s r h) n h5; exact front_of hl2 hfr
        | exit id => have h5 : (AExit.exit id, s2) = r := h5; rw [← h5] at hfr; exact hfr
        | ret => have h5 : (AExit.ret, s2) = r := h5; rw [← h5] at hfr; exact hfr
      refine wpIn_mono (ih s' _ h4 hfr2 hR1) (fun e' a'' W'' he => ?_)
      cases e' with
      | normal =>
        obtain ⟨he, N2, F2, φ2, hR2⟩ := he
        simp only at he
        subst he
        exact ⟨n, Nat.lt_succ_self _, s2, N2, F2, φ2, h5, hR2⟩
      | exit id =>
        obtain ⟨he, N2, F2, φ2, hR2⟩ := he
        simp only at he
        subst he
        have h5 : (AExit.exit id, s2) = r := h5
        subst h5
        exact ⟨rfl, _, _, _, hR2⟩
      | ret =>
        obtain ⟨he, N2, F2, φ2, hR2⟩ := he
        simp only at he
        subst he
        have h5 : (AExit.ret, s2) = r := h5
        subst h5
        exact ⟨rfl, _, _, _, hR2⟩
      | goto t => exact he.elim
      | panic ch => exact he.elim
      | outgrown => exact he.elim
  | exit id => intro s r h _ N F φ a W hR; have h : (AExit.exit id, s) = r := h; subst h; exact wpIn_exit ⟨rfl, _, _, _, hR⟩
  | ret => intro s r h _ N F φ a W hR; have h : (AExit.ret, s) = r := h; subst h; exact wpIn_ret ⟨rfl, _, _, _, hR⟩
  | rangeFunc => intro s r h; exact h.elim
  | scope => intro s r h; exact h.elim
  | label => intro s r h; exact h.elim
  | goto => intro s r h; exact h.elim
  | refuse => intro s r h; exact h.elim
end
end Go.W
