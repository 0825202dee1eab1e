/- That the operations of a region, in whatever order it draws, do what the evaluator says. No conditions. -/
import Derived.Test.YtaencddffbmdeaaVsS
namespace Go.Vs
open Go Go.RowKit

section
variable {T : Nat → Type} {P : Program} {C : FuncId → Option (PureC T)}

/-- What an operation may come to. -/
def LOut (P : Program) (C : FuncId → Option (PureC T)) (op : Op) (val : Operand → Option (V T)) (H : Nat → Option (O T)) (key : Nat) (v : V T) (u : Upd T) : Prop :=
  ∀ K : V T → Upd T → Prop, K v u → lexec P C op val H key K

theorem intBin_real {op : BinOp} {k : IntKind} {a b : Int} {K : V T → Prop} (h : intBin op k a b K) : ∃ v, K v ∧ ∀ K' : V T → Prop, K' v → intBin op k a b K' := by
  cases op <;> (try simp only [intBin] at h) <;> (try exact h.elim)
  case quo => exact ⟨_, h.2, fun K' hk => ⟨h.1, hk⟩⟩
  case rem => exact ⟨_, h.2, fun K' hk => ⟨h.1, hk⟩⟩
  all_goals exact ⟨_, h, fun K' hk => hk⟩

theorem vBin_real {op : BinOp} {t : TypeId} {x y : V T} {K : V T → Prop} (h : vBin P op t x y K) : ∃ v, K v ∧ ∀ K' : V T → Prop, K' v → vBin P op t x y K' := by
  unfold vBin at h
  split at h
  · rename_i k a k' b
    split at h
    · rename_i hk
      obtain ⟨v, h1, h2⟩ := intBin_real h
      exact ⟨v, h1, fun K' hk' => by unfold vBin; simp only [hk]; exact h2 K' hk'⟩
    · exact h.elim
  · split at h
    · rename_i hb; exact ⟨_, h, fun K' hk' => by unfold vBin; simp only [hb]; exact hk'⟩
    · rename_i hb; exact ⟨_, h, fun K' hk' => by unfold vBin; simp only [hb]; exact hk'⟩
    · exact h.elim
  · exact h.elim

theorem okK_real {x : Option (V T)} {K : V T → Prop} (h : okK x K) : ∃ v, K v ∧ ∀ K' : V T → Prop, K' v → okK x K' := by
  cases x with
  | none => exact h.elim
  | some v => exact ⟨v, h, fun _ hk => hk⟩

theorem loadK_real {t : TypeId} {x : Option (V T)} {H : Nat → Option (O T)} {K : V T → Prop} (h : loadK P t x H K) : ∃ v, K v ∧ ∀ K' : V T → Prop, K' v → loadK P t x H K' := by
  unfold loadK at h
  split at h
  · split at h
    · rename_i hi
      obtain ⟨hg, h⟩ := (must_iff _ _).1 h
      obtain ⟨v, h1, h2⟩ := okK_real h
      exact ⟨v, h1, fun K' hk => by simp only [loadK, hi]; exact (must_iff _ _).2 ⟨hg, h2 K' hk⟩⟩
    · exact h.elim
  · obtain ⟨v, h1, h2⟩ := okK_real h
    exact ⟨v, h1, fun K' hk => by simp only [loadK]; exact h2 K' hk⟩
  · exact h.elim

theorem callV_real {f : Option FuncId} {vs : Option (List (V T))} {K : V T → Prop} (h : callV C f vs K) : ∃ v, K v ∧ ∀ K' : V T → Prop, K' v → callV C f vs K' := by
  unfold callV at h
  split at h
  · split at h
    · rename_i S hf
      split at h
      · split at h
        · rename_i hp
          split at h
          · rename_i p v hS
            obtain ⟨hp1, h⟩ := h
            split at h
            · rename_i hv
              exact ⟨v, h, fun K' hk => by simp only [callV, hf, hp, hS, hv]; exact ⟨hp1, hk⟩⟩
            · exact h.elim
          · exact h.elim
        · exact h.elim
      · exact h.elim
    · exact h.elim
  · exact h.elim

theorem lexec_real {op : Op} {val : Operand → Option (V T)} {H : Nat → Option (O T)} {key : Nat} {K : V T → Upd T → Prop} (h : lexec P C op val H key K) :
    ∃ v u, K v u ∧ LOut P C op val H key v u ∧ ∀ p ∈ u, p.1 ∈ writes op val key := by
  have one : (∃ v, K v [] ∧ ∀ K' : V T → Prop, K' v → lexec P C op val H key (fun v _ => K' v)) → (∀ K' : V T → Upd T → Prop, lexec P C op val H key (fun v _ => K' v []) → lexec P C op val H key K') →
      ∃ v u, K v u ∧ LOut P C op val H key v u ∧ ∀ p ∈ u, p.1 ∈ writes op val key := by
    rintro ⟨v, h1, h2⟩ h3
    exact ⟨v, [], h1, fun K' hk => h3 K' (h2 (K' · []) hk), fun p hp => by simp at hp⟩
  cases op <;> (try simp only [lexec] at h) <;> (try exact h.elim)
  case move x => obtain ⟨v, h1, h2⟩ := okK_real h; exact one ⟨v, h1, fun K' hk => by simp only [lexec]; exact h2 _ hk⟩ (fun K' hk => by simpa only [lexec] using hk)
  case assign x => obtain ⟨v, h1, h2⟩ := okK_real h; exact one ⟨v, h1, fun K' hk => by simp only [lexec]; exact h2 _ hk⟩ (fun K' hk => by simpa only [lexec] using hk)
  case pick c x y =>
    split at h
    · rename_i t ht
      cases t with
      | true =>
        simp only [branch] at h
        obtain ⟨v, h1, h2⟩ := okK_real h
        exact one ⟨v, h1, fun K' hk => by simp only [lexec, ht, branch]; exact h2 _ hk⟩ (fun K' hk => by simpa only [lexec] using hk)
      | false =>
        simp only [branch] at h
        obtain ⟨v, h1, h2⟩ := okK_real h
        exact one ⟨v, h1, fun K' hk => by simp only [lexec, ht, branch]; exact h2 _ hk⟩ (fun K' hk => by simpa only [lexec] using hk)
    · exact h.elim
  case box e x =>
    split at h
    · rename_i v hv
      split at h
      · exact h.elim
      · rename_i ha
        exact ⟨_, _, h, fun K' hk' => by simp only [lexec, hv, ha]; exact hk', fun p hp => by simp at hp; subst hp; simp [writes]⟩
    · exact h.elim
  case alloc t =>
    split at h
    · rename_i vs hz
      exact ⟨_, _, h, fun K' hk' => by simp only [lexec, hz]; exact hk', fun p hp => by simp at hp; subst hp; simp [writes]⟩
    · exact h.elim
  case fieldAddr s x f =>
    split at h
    · rename_i fs hs
      split at h
      · rename_i fl hf
        split at h
        · exact h.elim
        · rename_i n hn
          split at h
          · rename_i i g o hx
            exact one ⟨_, h, fun K' hk => by simp only [lexec, hs, hf, hx]; exact hk⟩ (fun K' hk => by simpa only [lexec] using hk)
          · rename_i row o hx
            exact one ⟨_, h, fun K' hk => by simp only [lexec, hs, hf, hx]; exact hk⟩ (fun K' hk => by simpa only [lexec] using hk)
          · exact h.elim
      · exact h.elim
    · exact h.elim
  case load t x => obtain ⟨v, h1, h2⟩ := loadK_real h; exact one ⟨v, h1, fun K' hk => by simp only [lexec]; exact h2 _ hk⟩ (fun K' hk => by simpa only [lexec] using hk)
  case store t x y =>
    split at h
    · rename_i i g o v hx hy
      split at h
      · rename_i g' vs hi
        split at h
        · rename_i e1 e2 e3 e4
          obtain ⟨hg, h⟩ := (must_iff _ _).1 h
          exact ⟨_, _, h, fun K' hk' => by simp only [lexec, hx, hy, hi, e1, e2, e3, e4]; exact (must_iff _ _).2 ⟨hg, hk'⟩, fun p hp => by simp at hp; subst hp; simp [writes, hx]⟩
        · exact h.elim
      · exact h.elim
    · exact h.elim
  case build t parts => obtain ⟨v, h1, h2⟩ := okK_real h; exact one ⟨v, h1, fun K' hk => by simp only [lexec]; exact h2 _ hk⟩ (fun K' hk => by simpa only [lexec] using hk)
  case nilCheck x =>
    split at h
    · rename_i i g o hx
      exact one ⟨_, h, fun K' hk => by simp only [lexec, hx]; exact hk⟩ (fun K' hk => by simpa only [lexec] using hk)
    · rename_i row o hx
      exact one ⟨_, h, fun K' hk => by simp only [lexec, hx]; exact hk⟩ (fun K' hk => by simpa only [lexec] using hk)
    · exact h.elim
  case binOp op t x y yt =>
    split at h
    · rename_i vx vy hx hy
      obtain ⟨v, h1, h2⟩ := vBin_real h
      exact one ⟨v, h1, fun K' hk => by simp only [lexec, hx, hy]; exact h2 _ hk⟩ (fun K' hk => by simpa only [lexec] using hk)
    · exact h.elim
  case unOp u t x =>
    cases u <;> (try simp only at h) <;> (try exact h.elim)
    split at h
    · rename_i b hx
      exact one ⟨_, h, fun K' hk => by simp only [lexec, hx]; exact hk⟩ (fun K' hk => by simpa only [lexec] using hk)
    · exact h.elim
  case extract x n =>
    split at h
    · rename_i vs hx
      obtain ⟨v, h1, h2⟩ := okK_real h
      exact one ⟨v, h1, fun K' hk => by simp only [lexec, hx]; exact h2 _ hk⟩ (fun K' hk => by simpa only [lexec] using hk)
    · exact h.elim
  case call c =>
    obtain ⟨v, h1, h2⟩ := callV_real h
    exact one ⟨v, h1, fun K' hk => by simp only [lexec]; exact h2 _ hk⟩ (fun K' hk => by simpa only [lexec] using hk)

theorem allSome_congr {α β : Type} {f g : α → Option β} {l : List α} (h : ∀ x ∈ l, f x = g x) : allSome (l.map f) = allSome (l.map g) := by
  rw [List.map_congr_left h]

/-- What an operation comes to hangs on its operands, and on the objects that it reads and writes. -/
theorem lexec_local {op : Op} {val val' : Operand → Option (V T)} {H H' : Nat → Option (O T)} {key : Nat} {K : V T → Upd T → Prop} (hv : ∀ x ∈ op.operands, val x = val' x)
    (hH : ∀ i, (i ∈ reads op val ∨ i ∈ writes op val key) → H i = H' i) (h : lexec P C op val H key K) : lexec P C op val' H' key K := by
  cases op <;> (try simp only [lexec] at h) <;> (try exact h.elim) <;> simp only [Op.operands, Call.operands] at hv
  case move x => simp only [lexec]; rwa [← hv x (by simp)]
  case assign x => simp only [lexec]; rwa [← hv x (by simp)]
  case pick c x y => simp only [lexec]; rwa [← hv x (by simp), ← hv y (by simp), ← hv c (by simp)]
  case box e x => simp only [lexec]; rwa [← hv x (by simp), ← hH key (.inr (by simp [writes]))]
  case alloc t => simp only [lexec]; rwa [← hH key (.inr (by simp [writes]))]
  case fieldAddr s x f => simp only [lexec]; rwa [← hv x (by simp)]
  case load t x =>
    simp only [lexec]
    rw [← hv x (by simp)]
    unfold loadK at h ⊢
    split at h
    · rename_i i g o hx
      rwa [← hH i (.inl (by simp [reads, hx]))]
    · exact h
    · exact h.elim
  case store t x y =>
    simp only [lexec]
    rw [← hv x (by simp), ← hv y (by simp)]
    split at h
    · rename_i i g o v hx hy
      rwa [← hH i (.inl (by simp [reads, hx]))]
    · exact h.elim
  case nilCheck x => simp only [lexec]; rwa [← hv x (by simp)]
  case build t parts =>
    simp only [lexec]
    have e : (parts.toList.map fun p => (p.1, val' p.2)) = parts.toList.map fun p => (p.1, val p.2) :=
      List.map_congr_left fun p hp => by rw [hv p.2 (by simp; exact ⟨p.1, by simpa using hp⟩)]
    rw [e]; exact h
  case binOp op t x y yt => simp only [lexec]; rwa [← hv x (by simp), ← hv y (by simp)]
  case unOp u t x =>
    cases u <;> (try simp only at h) <;> (try exact h.elim)
    simp only [lexec]; rwa [← hv x (by simp)]
  case extract x n => simp only [lexec]; rwa [← hv x (by simp)]
  case call c =>
    simp only [lexec]
    rwa [← allSome_congr (f := val) (g := val') (fun x hx => hv x (by simp at hx; simp; exact .inr hx))]

theorem reads_local {op : Op} {val val' : Operand → Option (V T)} (hv : ∀ x ∈ op.operands, val x = val' x) : reads op val = reads op val' := by
  cases op <;> simp only [reads] <;> simp only [Op.operands] at hv
  case load t x => rw [hv x (by simp)]
  case store t x y => rw [hv x (by simp)]

theorem writes_local {op : Op} {val val' : Operand → Option (V T)} {key : Nat} (hv : ∀ x ∈ op.operands, val x = val' x) : writes op val key = writes op val' key := by
  cases op <;> simp only [writes] <;> simp only [Op.operands] at hv
  case store t x y => rw [hv x (by simp)]

/-! ### States -/
theorem updH_out {u : Upd T} : ∀ {H : Nat → Option (O T)} {i : Nat}, (∀ p ∈ u, p.1 ≠ i) → updH H u i = H i := by
  induction u with
  | nil => intro H i _; rfl
  | cons p u ih =>
    intro H i h
    obtain ⟨k, o⟩ := p
    rw [updH, ih (fun q hq => h q (by simp [hq]))]
    have := h (k, o) (by simp)
    simp only at this
    have hb : Nat.beq i k = false := by
      cases hb : Nat.beq i k with
      | false => rfl
      | true => exact absurd (Nat.eq_of_beq_eq_true hb).symm this
    simp [hb]

theorem updH_congr {u : Upd T} : ∀ {H H' : Nat → Option (O T)} {i : Nat}, (H i = H' i) → updH H u i = updH H' u i := by
  induction u with
  | nil => intro H H' i h; exact h
  | cons p u ih =>
    intro H H' i h
    obtain ⟨k, o⟩ := p
    rw [updH, updH]
    refine ih ?_
    simp only [h]

theorem updH_in {u : Upd T} : ∀ {H H' : Nat → Option (O T)} {i : Nat}, (∃ p ∈ u, p.1 = i) → updH H u i = updH H' u i := by
  induction u with
  | nil => intro H H' i h; simp at h
  | cons p u ih =>
    intro H H' i h
    obtain ⟨k, o⟩ := p
    rw [updH, updH]
    by_cases hk : i = k
    · subst hk
      exact updH_congr (by simp [Nat.beq_refl])
    · obtain ⟨q, hq, he⟩ := h
      simp only [List.mem_cons] at hq
      rcases hq with rfl | hq
      · exact absurd he.symm hk
      · exact ih ⟨q, hq, he⟩

theorem updH_comm {u u' : Upd T} {H : Nat → Option (O T)} (h : ∀ p ∈ u, ∀ q ∈ u', p.1 ≠ q.1) : updH (updH H u) u' = updH (updH H u') u := by
  funext i
  by_cases h1 : ∃ p ∈ u, p.1 = i
  · have h2 : ∀ q ∈ u', q.1 ≠ i := by
      intro q hq e
      obtain ⟨p, hp, e'⟩ := h1
      exact h p hp q hq (e'.trans e.symm)
    rw [updH_out h2, updH_in h1]
  · have h1' : ∀ p ∈ u, p.1 ≠ i := fun p hp e => h1 ⟨p, hp, e⟩
    rw [updH_out (u := u) h1']
    exact updH_congr (updH_out h1')

theorem St.ext' {s s' : St T} (h1 : s.env = s'.env) (h2 : s.H = s'.H) (h3 : s.wr = s'.wr) : s = s' := by cases s; cases s'; simp_all

theorem valOf_put {st : St T} {dst : Option Nat} {v : V T} {x : Operand} (h : ∀ d, dst = some d → x ≠ .tmp d) : valOf (st.put dst v).env x = valOf st.env x := by
  cases dst with
  | none => rfl
  | some d =>
    cases x with
    | tmp t =>
      have := h d rfl
      have hb : Nat.beq t d = false := by
        cases hb : Nat.beq t d with
        | false => rfl
        | true => exact absurd (by rw [Nat.eq_of_beq_eq_true hb]) this
      simp [valOf, St.put, setEnv, hb]
    | const c => rfl
    | func f => rfl
    | global g => rfl

theorem env_put {st : St T} {dst : Option Nat} {v : V T} {t : Nat} (h : dst ≠ some t) : (st.put dst v).env t = st.env t := by
  have := valOf_put (st := st) (dst := dst) (v := v) (x := .tmp t) (fun d hd e => h (by cases e; exact hd))
  exact this

theorem put_same {st : St T} {d : Nat} {v : V T} (h : st.env d = some v) : st.put (some d) v = st := by
  refine St.ext' ?_ rfl rfl
  funext t
  simp only [St.put, setEnv]
  cases hb : Nat.beq t d with
  | false => rfl
  | true => rw [Nat.eq_of_beq_eq_true hb]; exact h.symm

theorem put_put_comm {st : St T} {x y : Option Nat} {v u : V T} (h : ∀ d, x = some d → y ≠ some d) : (st.put x v).put y u = (st.put y u).put x v := by
  cases x with
  | none => rfl
  | some d =>
    cases y with
    | none => rfl
    | some d' =>
      have hne : d ≠ d' := fun e => h d rfl (by rw [e])
      refine St.ext' ?_ rfl rfl
      funext t
      simp only [St.put, setEnv]
      cases h1 : Nat.beq t d' with
      | false => rfl
      | true =>
        have : Nat.beq t d = false := by
          cases h2 : Nat.beq t d with
          | false => rfl
          | true => exact absurd ((Nat.eq_of_beq_eq_true h2).symm.trans (Nat.eq_of_beq_eq_true h1)) hne
        simp [this]

theorem put_upd' (st : St T) (dst : Option Nat) (v : V T) (u : Upd T) : (st.put dst v).upd u = (st.upd u).put dst v := by cases dst <;> cases u <;> rfl

/-! ### Steps -/
/-- What operation 'o' makes of a state; what it read and wrote. -/
def Step (P : Program) (C : FuncId → Option (PureC T)) (nt : Nat) (ops : Array Oper) (o : Oper) (st st' : St T) (rd wr : List Nat) : Prop :=
  dstOk nt o.dst = true ∧
  ((wantedV ops o st.env = some true ∧ rd = reads o.op (valOf st.env) ∧ wr = writes o.op (valOf st.env) (keyOf o.dst) ∧
      ∃ v u, LOut P C o.op (valOf st.env) st.H (keyOf o.dst) v u ∧ (∀ p ∈ u, p.1 ∈ wr) ∧ st' = (st.put o.dst v).upd u) ∨
   (wantedV ops o st.env = some false ∧ rd = [] ∧ wr = [] ∧ st' = st.put o.dst .undef))

/-- The state behind a step: a slot, some objects. -/
theorem Step.form {nt : Nat} {ops : Array Oper} {o : Oper} {st st' : St T} {rd wr : List Nat} (h : Step P C nt ops o st st' rd wr) :
    ∃ v u, st' = (st.put o.dst v).upd u ∧ ∀ p ∈ u, p.1 ∈ wr := by
  rcases h.2 with ⟨_, _, _, v, u, _, h2, h3⟩ | ⟨_, _, _, h3⟩
  · exact ⟨v, u, h3, h2⟩
  · exact ⟨.undef, [], h3, fun p hp => by simp at hp⟩

theorem looksAt_op {ops : Array Oper} {o : Oper} {t : Tmp} (h : Operand.tmp t ∈ o.op.operands) : t ∈ o.looksAt ops := by
  unfold Oper.looksAt
  simp only [List.mem_append, List.mem_filterMap]
  exact .inl ⟨.tmp t, by simpa using h, rfl⟩

theorem wantedV_put {ops : Array Oper} {o : Oper} {st : St T} {dst : Option Nat} {v : V T} {u : Upd T} (h : ∀ d, dst = some d → d ∉ o.looksAt ops) :
    wantedV ops o ((st.put dst v).upd u).env = wantedV ops o st.env := by
  unfold wantedV
  cases hg : o.guard with
  | none => rfl
  | some g =>
    obtain ⟨j, want⟩ := g
    simp only
    cases hd : (ops[j]?).bind (·.dst) with
    | none => rfl
    | some d =>
      have hne : dst ≠ some d := fun e => h d e (by
        unfold Oper.looksAt
        simp only [hg, hd, List.mem_append]
        exact .inr (by simp))
      simp only
      have e : ((st.put dst v).upd u).env d = st.env d := by rw [upd_env]; exact env_put hne
      rw [e]

/-- Another state that agrees on what the operation looks at. -/
theorem Step.move {nt : Nat} {ops : Array Oper} {o : Oper} {st : St T} {dst : Option Nat} {x : V T} {ux : Upd T} {s2 : St T} {rd wr : List Nat}
    (h : Step P C nt ops o ((st.put dst x).upd ux) s2 rd wr) (hl : ∀ d, dst = some d → d ∉ o.looksAt ops) (hd : ∀ p ∈ ux, p.1 ∉ rd ∧ p.1 ∉ wr) :
    ∃ v u, (∀ p ∈ u, p.1 ∈ wr) ∧ s2 = (((st.put dst x).upd ux).put o.dst v).upd u ∧ Step P C nt ops o st ((st.put o.dst v).upd u) rd wr := by
  obtain ⟨h0, h⟩ := h
  have hval : ∀ y ∈ o.op.operands, valOf ((st.put dst x).upd ux).env y = valOf st.env y := fun y hy =>
    by rw [upd_env]; exact valOf_put (st := st) (dst := dst) (v := x) (fun d hd e => by subst e; exact hl d hd (looksAt_op hy))
  have hw : wantedV ops o ((st.put dst x).upd ux).env = wantedV ops o st.env := wantedV_put hl
  rcases h with ⟨h1, h2, h3, v, u, h4, h5, h6⟩ | ⟨h1, h2, h3, h6⟩
  · refine ⟨v, u, h5, h6, h0, .inl ⟨hw ▸ h1, h2.trans (reads_local hval), h3.trans (writes_local hval), v, u, fun K hk => ?_, h5, rfl⟩⟩
    refine lexec_local hval (fun i hi => ?_) (h4 K hk)
    rw [upd_H, updH_out (fun p hp e => ?_)]
    · cases dst <;> rfl
    · have := hd p hp
      rw [e] at this
      rcases hi with hi | hi
      · exact this.1 (h2 ▸ hi)
      · exact this.2 (h3 ▸ hi)
  · exact ⟨.undef, [], fun p hp => by simp at hp, h6, h0, .inr ⟨hw ▸ h1, h2, h3, rfl⟩⟩

/-- The other way: to a state that another operation has left. -/
theorem Step.onto {nt : Nat} {ops : Array Oper} {o : Oper} {st st' : St T} {dst : Option Nat} {x : V T} {ux : Upd T} {rd wr : List Nat}
    (h : Step P C nt ops o st st' rd wr) (hl : ∀ d, dst = some d → d ∉ o.looksAt ops) (hd : ∀ p ∈ ux, p.1 ∉ rd ∧ p.1 ∉ wr) :
    ∃ v u, (∀ p ∈ u, p.1 ∈ wr) ∧ st' = (st.put o.dst v).upd u ∧ Step P C nt ops o ((st.put dst x).upd ux) ((((st.put dst x).upd ux).put o.dst v).upd u) rd wr := by
  obtain ⟨h0, h⟩ := h
  have hval : ∀ y ∈ o.op.operands, valOf st.env y = valOf ((st.put dst x).upd ux).env y := fun y hy =>
    by rw [upd_env]; exact (valOf_put (st := st) (dst := dst) (v := x) (fun d hd e => by subst e; exact hl d hd (looksAt_op hy))).symm
  have hw : wantedV ops o ((st.put dst x).upd ux).env = wantedV ops o st.env := wantedV_put hl
  rcases h with ⟨h1, h2, h3, v, u, h4, h5, h6⟩ | ⟨h1, h2, h3, h6⟩
  · refine ⟨v, u, h5, h6, h0, .inl ⟨hw ▸ h1, h2.trans (reads_local hval), h3.trans (writes_local hval), v, u, fun K hk => ?_, h5, rfl⟩⟩
    refine lexec_local hval (fun i hi => ?_) (h4 K hk)
    rw [upd_H, updH_out (fun p hp e => ?_)]
    · cases dst <;> rfl
    · have := hd p hp
      rw [e] at this
      rcases hi with hi | hi
      · exact this.1 (h2 ▸ hi)
      · exact this.2 (h3 ▸ hi)
  · exact ⟨.undef, [], fun p hp => by simp at hp, h6, h0, .inr ⟨hw ▸ h1, h2, h3, rfl⟩⟩

/-- Two operations that are apart: the later one may be taken first. -/
theorem Step.swap {nt : Nat} {ops : Array Oper} {oa ob : Oper} {st s1 s2 : St T} {ra wa rb wb : List Nat} (ha : Step P C nt ops oa st s1 ra wa) (hb : Step P C nt ops ob s1 s2 rb wb)
    (hap : oa.apart ops ob = true) (h1 : ∀ i ∈ wa, i ∉ rb ∧ i ∉ wb) (h2 : ∀ i ∈ wb, i ∉ ra ∧ i ∉ wa) :
    ∃ s1', Step P C nt ops ob st s1' rb wb ∧ Step P C nt ops oa s1' s2 ra wa := by
  obtain ⟨p1, p2, p3⟩ := Oper.apart_spec hap
  obtain ⟨x, ux, e1, hux⟩ := ha.form
  subst e1
  obtain ⟨v, u, hu, e2, hb'⟩ := hb.move (fun d hd => p1 d hd) (fun p hp => h1 _ (hux p hp))
  obtain ⟨x', ux', hux', e3, ha'⟩ := ha.onto (dst := ob.dst) (x := v) (ux := u) (fun d hd => p3 d hd) (fun p hp => h2 _ (hu p hp))
  refine ⟨_, hb', ?_⟩
  rw [e3] at e2
  have : s2 = (((st.put ob.dst v).upd u).put oa.dst x').upd ux' := by
    rw [e2]
    simp only [put_upd']
    have hc : (st.upd ux').upd u = (st.upd u).upd ux' := St.ext' (by simp only [upd_env]) (by simp only [upd_H]; exact updH_comm (fun p hp q hq e => (h1 _ (hux' p hp)).2 (e ▸ hu q hq)))
      (by simp only [upd_wr, Nat.or_assoc, Nat.or_comm (updBits u)])
    rw [put_put_comm p2, hc]
  rw [this]
  exact ha'

/-- Steps, one behind the other. -/
inductive Ch (P : Program) (C : FuncId → Option (PureC T)) (nt : Nat) (ops : Array Oper) : List Foot → St T → St T → Prop
  | nil (st : St T) : Ch P C nt ops [] st st
  | cons (f : Foot) (l : List Foot) (o : Oper) (st s1 s2 : St T) (ho : ops[f.at_]? = some o) (hs : Step P C nt ops o st s1 f.rd f.wr) (h : Ch P C nt ops l s1 s2) : Ch P C nt ops (f :: l) st s2

def Apart (ops : Array Oper) (g f : Foot) : Prop := ∀ og of, ops[g.at_]? = some og → ops[f.at_]? = some of → og.apart ops of = true ∧ (∀ i ∈ g.wr, i ∉ f.rd ∧ i ∉ f.wr) ∧ ∀ i ∈ f.wr, i ∉ g.rd ∧ i ∉ g.wr

theorem Ch.front {nt : Nat} {ops : Array Oper} {f : Foot} {l2 : List Foot} : ∀ {l1 : List Foot} {st s2 : St T}, Ch P C nt ops (l1 ++ f :: l2) st s2 → (∀ g ∈ l1, Apart ops g f) →
    ∃ o s1, ops[f.at_]? = some o ∧ Step P C nt ops o st s1 f.rd f.wr ∧ Ch P C nt ops (l1 ++ l2) s1 s2 := by
  intro l1
  induction l1 with
  | nil =>
    intro st s2 h _
    cases h with
    | cons _ _ o _ s1 _ ho hs h => exact ⟨o, s1, ho, hs, h⟩
  | cons g l1 ih =>
    intro st s2 h hap
    cases h with
    | cons _ _ o _ s1 _ ho hs h =>
      obtain ⟨of, s1', hof, hsf, hrest⟩ := ih h (fun g' hg' => hap g' (by simp [hg']))
      obtain ⟨a1, a2, a3⟩ := hap g (by simp) o of ho hof
      obtain ⟨t, h1, h2⟩ := hs.swap hsf a1 a2 a3
      exact ⟨of, t, hof, h1, .cons g _ o t s1' s2 ho h2 hrest⟩
end
end Go.Vs
