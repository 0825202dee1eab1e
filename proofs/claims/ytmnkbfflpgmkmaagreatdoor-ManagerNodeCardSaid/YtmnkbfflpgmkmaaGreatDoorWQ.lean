/- That regions do what the evaluator says, in whatever order. No conditions. -/
import Derived.Test.YtmnkbfflpgmkmaaGreatDoorWP
namespace Go.W
open Go Go.RowKit

section
variable {reg : Reg} {P : Program} {hd : Hd reg.T} {nt : Nat} {dl : List Deferred}

theorem put_get {env : Tr (V reg.T)} {t : Nat} {v : V reg.T} (h : env.get t = some v) : setF env.get (some t) v = env.get := by
  funext j
  simp only [setF]
  by_cases hj : j = t
  · subst hj; simp [h]
  · simp [hj]

theorem put_hp (st : St reg.T) (dst : Option Nat) (v : V reg.T) : (st.put dst v).hp = st.hp := by cases dst <;> rfl

theorem ok_lt {i n : Nat} (h : Tr.ok n = true) (hi : i < n) : Tr.ok i = true := by unfold Tr.ok at *; simp at *; omega

theorem join_get {h p : Hp reg.T} {l : List Nat} (hl : ∀ i ∈ l, Tr.ok i = true) : (h.join p l).get = updF h.get l p.get := by
  funext j
  show (l.foldl (fun t i => t.set i (p.get i)) h.h).get j = _
  rw [foldl_set_get l _ hl j]
  rfl

theorem lexec_okwr {l wr : List Nat} {n0 n1 : Nat} (h : okPart l wr n0 n1 = true) : ∀ i ∈ wr ++ List.range' n0 (n1 - n0), Tr.ok i = true := by
  obtain ⟨h1, h2, h3, h4⟩ := okPart_spec h
  intro i hi
  rcases List.mem_append.1 hi with hi | hi
  · rcases h4 i hi with h | h
    · exact h3 i h
    · exact ok_lt h2 h.2
  · rw [List.mem_range'_1] at hi
    exact ok_lt h2 (by omega)

theorem join_grow {h p : Hp reg.T} {l : List Nat} (hok : okPart l p.wr h.nx p.nx = true) : Grow h (h.join p (p.wr ++ List.range' h.nx (p.nx - h.nx))) := by
  refine ⟨(okPart_spec hok).1, p.wr, rfl, fun i hi hn => ?_⟩
  rw [join_get (lexec_okwr hok)]
  simp only [updF]
  rw [if_neg]
  intro hm
  rcases List.mem_append.1 hm with h1 | h1
  · exact hi h1
  · rw [List.mem_range'_1] at h1
    exact hn ⟨h1.1, by show i < p.nx; omega⟩

/-- What a chain keeps of the numbers. -/
structure Rng (l : List Foot) (lo hi : Nat) : Prop where
  le : lo ≤ hi
  in_ : ∀ f ∈ l, lo ≤ f.n0 ∧ f.n0 ≤ f.n1 ∧ f.n1 ≤ hi
  ord : l.Pairwise (fun f g => f.n1 ≤ g.n0 ∨ g.n1 ≤ f.n0)

theorem exOpsD_chain (hnt : nt ≤ 1000000) {ops : Array Oper} : ∀ {rest : List Oper} {n : Nat} {st : St reg.T} {tr : List Foot} {Q : St reg.T × List Foot → Prop}, (exOpsD P hd nt ops rest n st tr).K Q →
    (∀ j, rest[j]? = ops[n + j]?) → ∃ l st', Ch P hd nt ops l ⟨st.env.get, st.hp.get⟩ ⟨st'.env.get, st'.hp.get⟩ ∧ Q (st', l.reverse ++ tr) ∧ l.map (·.at_) = List.range' n rest.length ∧ Grow st.hp st'.hp ∧ Rng l st.hp.nx st'.hp.nx := by
  intro rest
  induction rest with
  | nil => intro n st tr Q h _; exact ⟨[], st, .nil _, h, rfl, Grow.refl _, ⟨Nat.le_refl _, by simp, .nil⟩⟩
  | cons o rest ih =>
    intro n st tr Q h hr
    have ho : ops[n]? = some o := by have := hr 0; simpa using this.symm
    have hr' : ∀ j, rest[j]? = ops[n + 1 + j]? := fun j => by have := hr (j + 1); simp only [List.getElem?_cons_succ] at this; rw [this]; congr 1; omega
    simp only [exOpsD] at h
    split at h
    · exact h.elim
    rename_i hdst
    have run : wantedV ops o st.env.get = some true →
        ((lexec P hd o.op (valOf st.env.get) (partH st.hp.get st.hp.nx (lookAt o.op (valOf st.env.get) st.hp.get))).bind fun r =>
          Out.ask (okPart (lookAt o.op (valOf st.env.get) st.hp.get) r.2.wr st.hp.nx r.2.nx) (exOpsD P hd nt ops rest (n + 1) (St.put ⟨st.env, st.hp.join r.2 (r.2.wr ++ List.range' st.hp.nx (r.2.nx - st.hp.nx))⟩ o.dst r.1)
            (⟨n, lookAt o.op (valOf st.env.get) st.hp.get, r.2.wr ++ List.range' st.hp.nx (r.2.nx - st.hp.nx), st.hp.nx, r.2.nx⟩ :: tr))).K Q →
        ∃ l st', Ch P hd nt ops l ⟨st.env.get, st.hp.get⟩ ⟨st'.env.get, st'.hp.get⟩ ∧ Q (st', l.reverse ++ tr) ∧ l.map (·.at_) = List.range' n (rest.length + 1) ∧ Grow st.hp st'.hp ∧ Rng l st.hp.nx st'.hp.nx := by
      intro hw h
      rw [Out.K_bind] at h
      obtain ⟨⟨v, p'⟩, h1, h2⟩ := (Out.K_iff _ _).1 h
      obtain ⟨hok, h2⟩ := Out.K_ask.1 h2
      simp only at h2 hok
      obtain ⟨l, st', h4, h5, h6, h7, h8⟩ := ih h2 hr'
      rw [put_hp] at h7 h8
      have hg := (join_grow hok).trans h7
      have hle := (okPart_spec hok).1
      refine ⟨⟨n, _, _, st.hp.nx, p'.nx⟩ :: l, st', .cons _ l o _ _ _ ho ⟨hdst, .inl ⟨hw, rfl, v, p', h1, hok, rfl, rfl, rfl⟩⟩ ?_, by rw [List.reverse_cons, List.append_assoc]; exact h5, by simp [h6, List.range'_succ], hg, ⟨hg.1, fun f hf => ?_, ?_⟩⟩
      · have e : (⟨(St.put ⟨st.env, st.hp.join p' (p'.wr ++ List.range' st.hp.nx (p'.nx - st.hp.nx))⟩ o.dst v).env.get, (St.put ⟨st.env, st.hp.join p' (p'.wr ++ List.range' st.hp.nx (p'.nx - st.hp.nx))⟩ o.dst v).hp.get⟩ : FS reg.T) =
            FS.step ⟨st.env.get, st.hp.get⟩ o.dst v (p'.wr ++ List.range' st.hp.nx (p'.nx - st.hp.nx)) p'.get := by
          refine FS.ext' (setF_get hnt hdst v _) ?_
          rw [put_hp]
          exact join_get (lexec_okwr hok)
        rw [e] at h4
        exact h4
      · rcases List.mem_cons.1 hf with rfl | hf
        · exact ⟨Nat.le_refl _, hle, h8.le⟩
        · obtain ⟨a, b, c⟩ := h8.in_ f hf
          have a' : p'.nx ≤ f.n0 := a
          exact ⟨by omega, b, c⟩
      · refine List.pairwise_cons.2 ⟨fun g hg => .inl ?_, h8.ord⟩
        exact (h8.in_ g hg).1
    have skip : wantedV ops o st.env.get = some false → (exOpsD P hd nt ops rest (n + 1) (st.put o.dst .undef) (⟨n, [], [], st.hp.nx, st.hp.nx⟩ :: tr)).K Q →
        ∃ l st', Ch P hd nt ops l ⟨st.env.get, st.hp.get⟩ ⟨st'.env.get, st'.hp.get⟩ ∧ Q (st', l.reverse ++ tr) ∧ l.map (·.at_) = List.range' n (rest.length + 1) ∧ Grow st.hp st'.hp ∧ Rng l st.hp.nx st'.hp.nx := by
      intro hw h
      obtain ⟨l, st', h4, h5, h6, h7, h8⟩ := ih h hr'
      rw [put_hp] at h7 h8
      refine ⟨⟨n, [], [], st.hp.nx, st.hp.nx⟩ :: l, st', .cons _ l o _ _ _ ho ⟨hdst, .inr ⟨hw, rfl, rfl, rfl, rfl⟩⟩ ?_, by rw [List.reverse_cons, List.append_assoc]; exact h5, by simp [h6, List.range'_succ], h7, ⟨h8.le, fun f hf => ?_, ?_⟩⟩
      · have e : (⟨(St.put st o.dst .undef).env.get, (St.put st o.dst .undef).hp.get⟩ : FS reg.T) = FS.step ⟨st.env.get, st.hp.get⟩ o.dst .undef [] (fun _ => none) := by
          refine FS.ext' (setF_get (env := st.env) hnt hdst _ st.hp) ?_
          rw [put_hp]
          funext i; simp [FS.step, updF]
        rw [e] at h4
        exact h4
      · rcases List.mem_cons.1 hf with rfl | hf
        · exact ⟨Nat.le_refl _, Nat.le_refl _, h8.le⟩
        · exact h8.in_ f hf
      · exact List.pairwise_cons.2 ⟨fun g hg => .inl (h8.in_ g hg).1, h8.ord⟩
    cases hg : o.guard with
    | none =>
      rw [hg] at h
      exact run (by simp [wantedV, hg]) h
    | some g =>
      obtain ⟨j, want⟩ := g
      rw [hg] at h
      simp only at h
      cases hdj : (ops[j]?).bind (·.dst) with
      | none => rw [hdj] at h; exact h.elim
      | some d =>
        rw [hdj] at h
        simp only at h
        split at h
        · rename_i b hb
          have hw : wantedV ops o st.env.get = some (b == want) := by simp [wantedV, hg, hdj, hb]
          cases b <;> cases want <;> simp only [Out.K, branch, St.fix_same hb] at h <;> first | exact run (by simpa using hw) h | exact skip (by simpa using hw) h
        · rename_i hb
          exact skip (by simp [wantedV, hg, hdj, hb]) h
        · exact h.elim

/-- In the text's order. -/
theorem exOps_mono {ops : Array Oper} : ∀ {rest : List Oper} {st : St reg.T} {Q : St reg.T → Prop}, (exOps P hd nt ops rest st).K Q → (exOps P hd nt ops rest st).K fun st' => Q st' ∧ st.hp.nx ≤ st'.hp.nx := by
  intro rest
  induction rest with
  | nil => intro st Q h; exact ⟨h, Nat.le_refl _⟩
  | cons o rest ih =>
    intro st Q h
    simp only [exOps] at h ⊢
    split at h
    · exact h.elim
    have run : ((lexec P hd o.op (valOf st.env.get) st.hp).bind fun r => Out.ask (Nat.ble st.hp.nx r.2.nx) (exOps P hd nt ops rest (St.put ⟨st.env, r.2⟩ o.dst r.1))).K Q →
        ((lexec P hd o.op (valOf st.env.get) st.hp).bind fun r => Out.ask (Nat.ble st.hp.nx r.2.nx) (exOps P hd nt ops rest (St.put ⟨st.env, r.2⟩ o.dst r.1))).K fun st' => Q st' ∧ st.hp.nx ≤ st'.hp.nx := by
      intro h
      rw [Out.K_bind] at h ⊢
      refine Out.K_mono h (fun r hr => ?_)
      obtain ⟨h1, h2⟩ := Out.K_ask.1 hr
      refine Out.K_ask.2 ⟨h1, Out.K_mono (ih h2) (fun st' ⟨a, b⟩ => ⟨a, ?_⟩)⟩
      rw [put_hp] at b
      have h1' : st.hp.nx ≤ r.2.nx := by simpa using h1
      exact Nat.le_trans h1' b
    have skip : (exOps P hd nt ops rest (st.put o.dst .undef)).K Q → (exOps P hd nt ops rest (st.put o.dst .undef)).K fun st' => Q st' ∧ st.hp.nx ≤ st'.hp.nx := by
      intro h
      refine Out.K_mono (ih h) (fun st' ⟨a, b⟩ => ⟨a, ?_⟩)
      rwa [put_hp] at b
    cases hg : o.guard with
    | none => rw [hg] at h; exact run h
    | some g =>
      obtain ⟨j, want⟩ := g
      rw [hg] at h
      simp only at h ⊢
      cases hdj : (ops[j]?).bind (·.dst) with
      | none => rw [hdj] at h; exact h.elim
      | some d =>
        rw [hdj] at h
        simp only at h ⊢
        split at h
        · rename_i b hb
          cases b <;> cases want <;> simp only [Out.K, branch, St.fix_same hb] at h ⊢ <;> first | exact run h | exact skip h
        · exact skip h
        · exact h.elim

theorem exOps_sound {r : Option Nat} {m : Nat} (hHd : HdSound P hd) (hnt : nt ≤ 1000000) {ops : Array Oper} {Qx : Exit → Act → World → Prop} : ∀ {rest : List Oper} {n : Nat} {st : St reg.T} {Q : St reg.T → Prop}, (exOps P hd nt ops rest st).K Q →
    (∀ j, rest[j]? = ops[n + j]?) → ∀ {N F : Nat → Prop} {φ : Phi} {a : Act} {w : World}, RF dl N F φ nt ⟨st.env.get, st.hp.get⟩ a w → (∀ st', Q st' → Fresh N st.hp.nx st'.hp.nx) →
    (∀ st' N' F' φ' a' w', Q st' → RF dl N' F' φ' nt ⟨st'.env.get, st'.hp.get⟩ a' w' → GO N F φ st.hp w N' F' φ' st'.hp w' → Qx .normal a' w') → wpOpsIn (Fr r) m P ops Qx (List.range' n rest.length) a w := by
  intro rest
  induction rest with
  | nil => intro n st Q h _ N F φ a w hR _ hQ; exact hQ st _ _ _ _ _ h hR (GO.refl hR.heap)
  | cons o rest ih =>
    intro n st Q h hr N F φ a w hR hfr hQ
    have ho : ops[n]? = some o := by have := hr 0; simpa using this.symm
    have hr' : ∀ j, rest[j]? = ops[n + 1 + j]? := fun j => by have := hr (j + 1); simp only [List.getElem?_cons_succ] at this; rw [this]; congr 1; omega
    simp only [exOps] at h
    split at h
    · exact h.elim
    rename_i hdst
    rw [List.length_cons, List.range'_succ, wpOpsIn_cons]
    have run : wantedV ops o st.env.get = some true → ((lexec P hd o.op (valOf st.env.get) st.hp).bind fun r => Out.ask (Nat.ble st.hp.nx r.2.nx) (exOps P hd nt ops rest (St.put ⟨st.env, r.2⟩ o.dst r.1))).K Q →
        wpOpIn (Fr r) m P ops Qx n (wpOpsIn (Fr r) m P ops Qx (List.range' (n + 1) rest.length)) a w := by
      intro hw h
      unfold wpOpIn
      simp only [ho]
      rw [if_pos (wanted_rel hR hw)]
      rw [Out.K_bind] at h
      obtain ⟨⟨v, p'⟩, h1, h2⟩ := (Out.K_iff _ _).1 h
      obtain ⟨hle, h2⟩ := Out.K_ask.1 h2
      have hle : st.hp.nx ≤ p'.nx := by simpa using hle
      simp only at h2
      obtain ⟨rr, hrr, hrq, hrn⟩ := (Out.K_iff _ _).1 (exOps_mono h2)
      rw [put_hp] at hrn
      have hf0 := hfr rr hrq
      refine lexec_in hHd (o := o) (Q := (· = (v, p'))) (val := valOf st.env.get) hR.heap ?_ (fun x v hx => valOf_rel hR hx) h1 (fun cv w' hres => ?_)
      · rintro r' rfl i hi1 hi2
        exact hf0 i hi1 (Nat.lt_of_lt_of_le hi2 hrn)
      · obtain ⟨v', h', N', F', φ', hq, hv, hH', hG⟩ := hres
        cases hq
        have hput : RF dl N' F' φ' nt ⟨(St.put ⟨st.env, p'⟩ o.dst v).env.get, (St.put ⟨st.env, p'⟩ o.dst v).hp.get⟩ (a.put o.dst cv) w' := by
          rw [put_hp, setF_get hnt hdst]
          exact hR.put hH' hG.goes hdst hv
        refine ih (Q := (· = rr)) hrr hr' hput ?_ ?_
        · rintro st' rfl i hi1 hi2 hi3
          rw [put_hp] at hi1
          rcases hG.names i hi3 with h | h
          · exact hf0 i (Nat.le_trans hle hi1) hi2 h
          · have := h.2; simp only at hi1; omega
        · rintro st' N'' F'' φ'' a'' w'' rfl hR'' hG''
          rw [put_hp] at hG''
          exact hQ st' _ _ _ _ _ hrq hR'' (hG.trans hG'')
    have skip : wantedV ops o st.env.get = some false → (exOps P hd nt ops rest (st.put o.dst .undef)).K Q →
        wpOpIn (Fr r) m P ops Qx n (wpOpsIn (Fr r) m P ops Qx (List.range' (n + 1) rest.length)) a w := by
      intro hw h
      unfold wpOpIn
      simp only [ho]
      rw [if_neg (by rw [wanted_rel hR hw]; simp)]
      have hput : RF dl N F φ nt ⟨(St.put st o.dst .undef).env.get, (St.put st o.dst .undef).hp.get⟩ (a.put o.dst undef) w := by
        rw [put_hp, setF_get (env := st.env) hnt hdst]
        exact hR.put hR.heap (Goes.refl reg hR.heap) hdst .undef
      refine ⟨fun _ _ => trivial, ih h hr' hput (fun st' hq => ?_) (fun st' N' F' φ' a' w' hq hR' hG => ?_)⟩
      · rw [put_hp]; exact hfr st' hq
      · rw [put_hp] at hG; exact hQ st' _ _ _ _ _ hq hR' hG
    cases hg : o.guard with
    | none =>
      rw [hg] at h
      exact run (by simp [wantedV, hg]) h
    | some g =>
      obtain ⟨j, want⟩ := g
      rw [hg] at h
      simp only at h
      cases hdj : (ops[j]?).bind (·.dst) with
      | none => rw [hdj] at h; exact h.elim
      | some d =>
        rw [hdj] at h
        simp only at h
        split at h
        · rename_i b hb
          have hw : wantedV ops o st.env.get = some (b == want) := by simp [wantedV, hg, hdj, hb]
          cases b <;> cases want <;> simp only [Out.K, branch, St.fix_same hb] at h <;> first | exact run (by simpa using hw) h | exact skip (by simpa using hw) h
        · rename_i hb
          exact skip (by simp [wantedV, hg, hdj, hb]) h
        · exact h.elim

/-! ### In whatever order -/
/-- 'j' stands surely ahead of 'i'. -/
inductive Ahead (ops : Array Oper) : Nat → Nat → Prop
  | one (i j : Nat) (o : Oper) (e : Edge) (ho : ops[i]? = some o) (he : e ∈ o.after.toList) (hb : Region.binds .any e = true) (hj : e.on = j) : Ahead ops i j
  | more (i j : Nat) (o : Oper) (e : Edge) (ho : ops[i]? = some o) (he : e ∈ o.after.toList) (hb : Region.binds .any e = true) (hj : Ahead ops e.on j) : Ahead ops i j

theorem masks_fold {ops : Array Oper} {acc : List Nat} (hacc : ∀ i m j, acc[i]? = some m → m.testBit j = true → Ahead ops i j) {i : Nat} {o : Oper} (ho : ops[i]? = some o) :
    ∀ (es : List Edge), (∀ e ∈ es, e ∈ o.after.toList) → ∀ (s : Nat), (∀ j, s.testBit j = true → Ahead ops i j) → ∀ j,
      (es.foldl (fun s e => match Region.binds .any e with | true => s ||| 2 ^ e.on ||| acc.getD e.on 0 | false => s) s).testBit j = true → Ahead ops i j := by
  intro es
  induction es with
  | nil => intro _ s hs j h; exact hs j h
  | cons e es ih =>
    intro hes s hs j h
    rw [List.foldl_cons] at h
    refine ih (fun e' he' => hes e' (by simp [he'])) _ (fun j' hj' => ?_) j h
    cases hb : Region.binds .any e with
    | false => simp only [hb] at hj'; exact hs j' hj'
    | true =>
      simp only [hb, Nat.testBit_or, Bool.or_eq_true, Nat.testBit_two_pow, decide_eq_true_eq] at hj'
      rcases hj' with (hj' | hj') | hj'
      · exact hs j' hj'
      · exact .one i j' o e ho (hes e (by simp)) hb hj'
      · cases hm : acc[e.on]? with
        | none => simp [List.getD, hm] at hj'
        | some m =>
          simp only [List.getD, hm, Option.getD_some] at hj'
          exact .more i j' o e ho (hes e (by simp)) hb (hacc _ m j' hm hj')

theorem masks_spec {ops : Array Oper} : ∀ (r : List Oper) (acc : List Nat), (∀ j, r[j]? = ops[acc.length + j]?) → (∀ i m j, acc[i]? = some m → m.testBit j = true → Ahead ops i j) →
    ∀ i m j, (masks r acc)[i]? = some m → m.testBit j = true → Ahead ops i j := by
  intro r
  induction r with
  | nil => intro acc _ hacc; exact hacc
  | cons o r ih =>
    intro acc hr hacc
    have ho : ops[acc.length]? = some o := by have := hr 0; simpa using this.symm
    refine ih _ (fun j => ?_) (fun i m j hi hm => ?_)
    · have := hr (j + 1)
      simp only [List.getElem?_cons_succ] at this
      rw [this]
      congr 1
      simp
      omega
    · rcases Nat.lt_or_ge i acc.length with hlt | hge
      · rw [List.getElem?_append_left hlt] at hi
        exact hacc i m j hi hm
      · rw [List.getElem?_append_right hge] at hi
        have he : i - acc.length = 0 := by
          rcases Nat.eq_zero_or_pos (i - acc.length) with h | h
          · exact h
          · rw [List.getElem?_eq_none (by simp; omega)] at hi; simp at hi
        rw [he] at hi
        simp only [List.getElem?_cons_zero, Option.some.injEq] at hi
        subst hi
        have hi' : i = acc.length := by omega
        subst hi'
        exact masks_fold hacc ho _ (fun e he => he) 0 (fun j hj => by simp at hj) j hm

theorem meets_false {a b : List Nat} (h : meets a b = false) : ∀ i ∈ a, i ∉ b := by
  intro i hi hb
  have : meets a b = true := by
    unfold meets
    rw [List.any_eq_true]
    exact ⟨i, hi, by rw [List.any_eq_true]; exact ⟨i, hb, Nat.beq_refl i⟩⟩
  rw [h] at this
  simp at this

theorem back_spec {ops : Array Oper} : ∀ (r : List Oper) (n : Nat), (∀ j, r[j]? = ops[n + j]?) → back r n = true → ∀ i o, n ≤ i → ops[i]? = some o → ∀ e ∈ o.after.toList, Region.binds .any e = true → e.on < i := by
  intro r
  induction r with
  | nil =>
    intro n hr _ i o hni ho
    have := hr (i - n)
    rw [show n + (i - n) = i by omega, ho] at this
    simp at this
  | cons o' r ih =>
    intro n hr h i o hni ho e he hb
    simp only [back, Bool.and_eq_true] at h
    rcases Nat.eq_or_lt_of_le hni with heq | hlt
    · subst heq
      have h0 := hr 0
      simp only [List.getElem?_cons_zero, Nat.add_zero, ho, Option.some.injEq] at h0
      subst h0
      have := List.all_eq_true.1 h.1 e he
      simpa [hb] using this
    · exact ih (n + 1) (fun j => by have := hr (j + 1); simp only [List.getElem?_cons_succ] at this; rw [this]; congr 1; omega) h.2 i o (by omega) ho e he hb

theorem RF.drew {N F : Nat → Prop} {φ : Phi} {s : FS reg.T} {a : Act} {w : World} (h : RF dl N F φ nt s a w) : RF dl N F φ nt s a { w with drawn := w.drawn + 1 } := by
  have hm : ∀ b, F b → F b ∧ ({ w with drawn := w.drawn + 1 } : World).heap[b]? = w.heap[b]? := fun b hb => ⟨hb, rfl⟩
  exact ⟨fun t v hv => ⟨(h.env t v hv).1, (h.env t v hv).2.mono reg hm (fun _ _ e => e)⟩, h.size, h.heap.drew rfl, h.dfs⟩

theorem Goes.drew {N F N' F' : Nat → Prop} {φ φ' : Phi} {H H' : Nat → Option (O reg.T)} {w w' : World} (h : Goes reg F φ N H { w with drawn := w.drawn + 1 } F' φ' N' H' w') : Goes reg F φ N H w F' φ' N' H' w' :=
  ⟨h.os, h.tape, h.output, h.size, h.block, h.fsub, h.fnew, h.phi, h.names, h.dom, h.new⟩

theorem Ch.any {r : Option Nat} {m : Nat} (hHd : HdSound P hd) {ops : Array Oper} {Q : Exit → Act → World → Prop} (hback : ∀ i o, ops[i]? = some o → ∀ e ∈ o.after.toList, Region.binds .any e = true → e.on < i) {lo up : Nat} :
    ∀ (fuel : Nat) (l : List Foot) (s s' : FS reg.T) (listed : Array Bool), Ch P hd nt ops l s s' → l.length ≤ fuel → listed.size = ops.size →
      (∀ i, listed.getD i true = false ↔ i ∈ l.map (·.at_)) → (l.map (·.at_)).Pairwise (· < ·) →
      (∀ g ∈ l, ∀ f ∈ l, g.at_ < f.at_ → Ahead ops f.at_ g.at_ ∨ Apart ops g f) →
      (∀ i j, listed.getD i false = true → Ahead ops i j → listed.getD j false = true) → Rng l lo up →
      ∀ {N F : Nat → Prop} {φ : Phi} {a : Act} {w : World}, RF dl N F φ nt s a w → (∀ f ∈ l, Fresh N f.n0 f.n1) →
      (∀ N' F' φ' a' w', RF dl N' F' φ' nt s' a' w' → Goes reg F φ N s.H w F' φ' N' s'.H w' → (∀ i, N' i → N i ∨ (lo ≤ i ∧ i < up)) → Q .normal a' w') → wpAnyIn (Fr r) m P .any ops Q fuel listed a w := by
  intro fuel
  induction fuel with
  | zero =>
    intro l s s' listed h hf hsz hl _ _ _ _ N F φ a w hR _ hQ
    have : l = [] := List.length_eq_zero_iff.1 (by omega)
    subst this
    cases h
    refine ⟨?_, hQ _ _ _ _ _ hR (Goes.refl reg hR.heap) (fun i hi => .inl hi)⟩
    rw [List.eq_nil_iff_forall_not_mem]
    intro i hi
    have := (hl i).1 (mem_ready.1 hi).1
    simp at this
  | succ fuel ih =>
    intro l s s' listed h hf hsz hl hsort hap hdown hrng N F φ a w hR hfr hQ
    have hiff : ∀ i, listed.getD i false = true ↔ (i < ops.size ∧ i ∉ l.map (·.at_)) := by
      intro i
      rcases Nat.lt_or_ge i ops.size with hlt | hge
      · have h1 := hl i
        simp only [Array.getD_eq_getD_getElem?, Array.getElem?_eq_getElem (show i < listed.size by omega), Option.getD_some] at h1 ⊢
        constructor
        · intro e; exact ⟨hlt, fun hm => by rw [h1.2 hm] at e; simp at e⟩
        · rintro ⟨_, hm⟩
          cases hb : listed[i]'(by omega) with
          | true => rfl
          | false => exact absurd (h1.1 hb) hm
      · simp [Array.getElem?_eq_none (show listed.size ≤ i by omega)]
        omega
    refine ⟨fun hnone => ?_, fun i hi => ?_⟩
    · -- nothing is ready: all is done
      cases h with
      | nil => exact hQ _ _ _ _ _ hR (Goes.refl reg hR.heap) (fun i hi => .inl hi)
      | cons f l o _ s1 _ ho hs h =>
        exfalso
        have hr : f.at_ ∈ Region.ready .any ops listed := by
          rw [mem_ready]
          refine ⟨(hl f.at_).2 (by simp), o, ho, fun e he hb => ?_⟩
          have hlt := hback f.at_ o ho e (by simpa using he) hb
          have hfs := (Array.getElem?_eq_some_iff.1 ho).1
          rw [hiff]
          refine ⟨by omega, fun hm => ?_⟩
          simp only [List.map_cons, List.mem_cons] at hm
          rcases hm with hm | hm
          · omega
          · have := (List.pairwise_cons.1 (by simpa using hsort)).1 _ hm
            omega
        rw [hnone] at hr
        simp at hr
    · obtain ⟨hun, oi, hoi, hall⟩ := mem_ready.1 hi
      have him := (hl i).1 hun
      obtain ⟨f, hfl, hfi⟩ := List.mem_map.1 him
      obtain ⟨l1, l2, rfl⟩ := List.append_of_mem hfl
      subst hfi
      have hsort' : ∀ g ∈ l1, g.at_ < f.at_ := by
        intro g hg
        rw [List.map_append, List.pairwise_append] at hsort
        exact hsort.2.2 g.at_ (List.mem_map.2 ⟨g, hg, rfl⟩) f.at_ (by simp)
      have hnodup : ∀ g ∈ l1 ++ l2, g.at_ ≠ f.at_ := by
        intro g hg e
        rw [List.map_append, List.map_cons, List.pairwise_append] at hsort
        rcases List.mem_append.1 hg with h1 | h1
        · have := hsort' g h1; omega
        · have := (List.pairwise_cons.1 hsort.2.1).1 g.at_ (List.mem_map.2 ⟨g, h1, rfl⟩)
          omega
      have hfront := h.front (l1 := l1) (l2 := l2) (f := f) (fun g hg => by
        rcases hap g (by simp [hg]) f (by simp) (hsort' g hg) with ha | ha
        · exfalso
          -- all that stands ahead of it is listed
          have hlg : listed.getD g.at_ false = true := by
            cases ha with
            | one _ _ o e ho he hb hj =>
              rw [hoi] at ho; cases ho
              rw [← hj]
              exact hall e (by simpa using he) hb
            | more _ _ o e ho he hb hj =>
              rw [hoi] at ho; cases ho
              exact hdown _ _ (hall e (by simpa using he) hb) hj
          have := (hiff g.at_).1 hlg
          exact this.2 (List.mem_map.2 ⟨g, by simp [hg], rfl⟩)
        · exact ha)
      obtain ⟨o, s1, ho, hs, hrest⟩ := hfront
      -- the numbers of the others are another's
      have hother : ∀ g ∈ l1 ++ l2, g.n1 ≤ f.n0 ∨ f.n1 ≤ g.n0 := by
        have ho := hrng.ord
        rw [List.pairwise_append] at ho
        obtain ⟨_, h2, h3⟩ := ho
        intro g hg
        rcases List.mem_append.1 hg with h1 | h1
        · exact h3 g h1 f (by simp)
        · exact ((List.pairwise_cons.1 h2).1 g h1).symm
      have hrf := hrng.in_ f (by simp)
      have hrng' : Rng (l1 ++ l2) lo up := by
        refine ⟨hrng.le, fun g hg => hrng.in_ g (by simp at hg ⊢; rcases hg with h | h <;> simp [h]), ?_⟩
        have ho := hrng.ord
        rw [List.pairwise_append] at ho ⊢
        exact ⟨ho.1, (List.pairwise_cons.1 ho.2.1).2, fun x hx y hy => ho.2.2 x hx y (List.mem_cons_of_mem _ hy)⟩
      refine hs.sound hHd ho hR (hfr f (by simp)) (fun N' F' φ' a' w' hR' hG' hN' => ?_)
      have hfs := (Array.getElem?_eq_some_iff.1 ho).1
      refine ih (l1 ++ l2) s1 s' _ hrest (by simp at hf ⊢; omega) (by simpa using hsz) (fun j => ?_) ?_ ?_ ?_ hrng' hR' ?_ (fun N'' F'' φ'' a'' w'' hR'' hG'' hN'' => hQ _ _ _ _ _ hR'' (Goes.trans reg hG' hG'') (fun i hi => ?_))
      · by_cases hj : j = f.at_
        · subst hj
          have e : (listed.setIfInBounds f.at_ true).getD f.at_ true = true := by
            simp only [Array.getD_eq_getD_getElem?, Array.getElem?_setIfInBounds, if_true]
            split <;> rfl
          rw [e]
          simp only [Bool.true_eq_false, false_iff]
          intro hm
          obtain ⟨g, hg, he⟩ := List.mem_map.1 hm
          exact hnodup g hg he
        · rw [getD_set_ne true (Ne.symm hj), hl j]
          simp only [List.map_append, List.map_cons, List.mem_append, List.mem_cons]
          constructor
          · rintro (h | h | h)
            · exact .inl h
            · exact absurd h hj
            · exact .inr h
          · rintro (h | h)
            · exact .inl h
            · exact .inr (.inr h)
      · rw [List.map_append, List.map_cons, List.pairwise_append] at hsort
        rw [List.map_append, List.pairwise_append]
        exact ⟨hsort.1, (List.pairwise_cons.1 hsort.2.1).2, fun x hx y hy => hsort.2.2 x hx y (List.mem_cons_of_mem _ hy)⟩
      · intro g hg f' hf' hlt
        exact hap g (List.mem_append.2 ((List.mem_append.1 hg).imp id (List.mem_cons_of_mem _))) f' (List.mem_append.2 ((List.mem_append.1 hf').imp id (List.mem_cons_of_mem _))) hlt
      · intro j k hj hjk
        by_cases hjf : j = f.at_
        · subst hjf
          have hlk : listed.getD k false = true := by
            cases hjk with
            | one _ _ o' e ho' he hb hj' =>
              rw [hoi] at ho'; cases ho'
              rw [← hj']
              exact hall e (by simpa using he) hb
            | more _ _ o' e ho' he hb hj' =>
              rw [hoi] at ho'; cases ho'
              exact hdown _ _ (hall e (by simpa using he) hb) hj'
          exact getD_set_true hlk
        · rw [getD_set_ne false (Ne.symm hjf)] at hj
          exact getD_set_true (hdown j k hj hjk)
      · intro g hg i hi1 hi2 hi3
        rcases hN' i hi3 with h | h
        · exact hfr g (by simp at hg ⊢; rcases hg with h | h <;> simp [h]) i hi1 hi2 h
        · rcases hother g hg with h4 | h4 <;> omega
      · rcases hN'' i hi with h | h
        · rcases hN' i h with h | h
          · exact .inl h
          · exact .inr (by omega)
        · exact .inr h

theorem exReg_in {r : Option Nat} {m : Nat} (hm : P.follows .mixedOrders = true) (hHd : HdSound P hd) (hnt : nt ≤ 1000000) {id : Nat} {ops : Array Oper} {draw : Bool} {Q : St reg.T → Prop} {Qx : Exit → Act → World → Prop} {st : St reg.T}
    (h : (exReg P hd nt ops draw st).K Q) {N F : Nat → Prop} {φ : Phi} {a : Act} {w : World} (hR : RF dl N F φ nt ⟨st.env.get, st.hp.get⟩ a w) (hfr : ∀ st', Q st' → Fresh N st.hp.nx st'.hp.nx)
    (hQ : ∀ st' N' F' φ' a' w', Q st' → RF dl N' F' φ' nt ⟨st'.env.get, st'.hp.get⟩ a' w' → GO N F φ st.hp w N' F' φ' st'.hp w' → Qx .normal a' w') : (Code.region id ops draw).wpIn (Fr r) m P Qx a w := by
  cases draw with
  | false =>
    refine wpIn_region ?_
    have := exOps_sound (r := r) (m := m) (n := 0) hHd hnt h (fun j => by simp) hR hfr hQ
    rwa [← List.range_eq_range', Array.length_toList] at this
  | true =>
    simp only [exReg] at h
    rw [Out.K_bind] at h
    obtain ⟨l, st', hch, hq, hat, hgr, hrng⟩ := exOpsD_chain hnt h (fun j => by simp)
    rw [List.append_nil] at hq
    obtain ⟨hok, hq⟩ := Out.K_ask.1 hq
    have hq : Q st' := hq
    have hok : okTrace ops l.reverse = true := hok
    have hat' : l.map (·.at_) = List.range ops.size := by rw [hat, Array.length_toList, List.range_eq_range']
    unfold okTrace at hok
    simp only [Bool.and_eq_true] at hok
    obtain ⟨hb, hok⟩ := hok
    refine wpIn_region_any hm ?_
    have hbk := back_spec (ops := ops) ops.toList 0 (fun j => by simp) hb
    have hf0 := hfr st' hq
    refine Ch.any hHd (fun i o ho => hbk i o (Nat.zero_le _) ho) ops.size l _ _ _ hch ?_ (by simp) (fun i => ?_) ?_ (fun g hg f hf hlt => ?_) (fun i j hi _ => ?_) hrng hR.drew (fun f hf i hi1 hi2 => ?_) (fun N' F' φ' a' w' hR' hG' hN' => hQ _ _ _ _ _ _ hq hR' ⟨Goes.drew hG', hgr, hN'⟩)
    · have := congrArg List.length hat'
      simp at this
      omega
    · rw [hat']
      simp only [List.mem_range, Array.getD_eq_getD_getElem?, Array.getElem?_replicate]
      by_cases hi : i < ops.size <;> simp [hi]
    · rw [hat']
      exact List.pairwise_lt_range
    · have h1 := List.all_eq_true.1 hok f (by simpa using hf)
      have h2 := List.all_eq_true.1 h1 g (by simpa using hg)
      have hblt : Nat.blt g.at_ f.at_ = true := by simpa using hlt
      simp only [hblt, Bool.not_true, Bool.false_or, Bool.or_eq_true] at h2
      rcases h2 with h2 | h2
      · left
        cases hmk : (masks ops.toList [])[f.at_]? with
        | none => simp [List.getD, hmk] at h2
        | some m =>
          simp only [List.getD, hmk, Option.getD_some] at h2
          exact masks_spec (ops := ops) ops.toList [] (fun j => by simp) (fun i m j hi => by simp at hi) _ m _ hmk h2
      · right
        intro og of hog hof
        rw [hog, hof] at h2
        simp only [Bool.and_eq_true, Foot.apart, Bool.not_eq_true'] at h2
        obtain ⟨ha, ⟨hb1, hb2⟩, hb3⟩ := h2
        refine ⟨ha, fun i hi => ⟨meets_false hb1 i hi, meets_false hb2 i hi⟩, fun i hi => ⟨meets_false hb3 i hi, fun hi' => meets_false hb2 i hi' hi⟩⟩
    · simp only [Array.getD_eq_getD_getElem?, Array.getElem?_replicate] at hi
      split at hi <;> simp at hi
    · have := hrng.in_ f hf
      exact hf0 i (by omega) (by omega)

theorem exReg_sound (hm : P.follows .mixedOrders = true) (hHd : HdSound P hd) (hnt : nt ≤ 1000000) {id : Nat} {ops : Array Oper} {draw : Bool} {Q : St reg.T → Prop} {Qx : Exit → Act → World → Prop} {st : St reg.T}
    (h : (exReg P hd nt ops draw st).K Q) {N F : Nat → Prop} {φ : Phi} {a : Act} {w : World} (hR : RF dl N F φ nt ⟨st.env.get, st.hp.get⟩ a w) (hfr : ∀ st', Q st' → Fresh N st.hp.nx st'.hp.nx)
    (hQ : ∀ st' N' F' φ' a' w', Q st' → RF dl N' F' φ' nt ⟨st'.env.get, st'.hp.get⟩ a' w' → GO N F φ st.hp w N' F' φ' st'.hp w' → Qx .normal a' w') : (Code.region id ops draw).wp P Qx a w :=
  (wpIn_wide (n := 0)).1 (exReg_in (r := none) hm hHd hnt h hR hfr hQ)
end
end Go.W
