/- That the evaluator's verification condition is enough: regions, code, functions. No conditions. -/
import Derived.Test.YtaencddffbmdeaaVsO
import Derived.Deep.LoopGhost
namespace Go.Vs
open Go Go.RowKit

section
variable {T : Nat → Type} {P : Program} {C : FuncId → Option (PureC T)}

theorem awpOps_chain {nt : Nat} {ops : Array Oper} : ∀ {rest : List Oper} {n : Nat} {st : St T} {tr : List Foot} {Q : St T → List Foot → Prop}, awpOps P C nt ops rest n st tr Q →
    (∀ j, rest[j]? = ops[n + j]?) → ∃ l st', Ch P C nt ops l st st' ∧ Q st' (l.reverse ++ tr) ∧ l.map (·.at_) = List.range' n rest.length := by
  intro rest
  induction rest with
  | nil => intro n st tr Q h _; exact ⟨[], st, .nil st, h, rfl⟩
  | cons o rest ih =>
    intro n st tr Q h hr
    have ho : ops[n]? = some o := by have := hr 0; simpa using this.symm
    have hr' : ∀ j, rest[j]? = ops[n + 1 + j]? := fun j => by have := hr (j + 1); simp only [List.getElem?_cons_succ] at this; rw [this]; congr 1; omega
    simp only [awpOps] at h
    split at h
    · exact h.elim
    rename_i hd
    -- the operation is carried out
    have run : wantedV ops o st.env = some true → (lexec P C o.op (valOf st.env) st.H (keyOf o.dst) fun v u =>
        awpOps P C nt ops rest (n + 1) ((st.put o.dst v).upd u) (⟨n, reads o.op (valOf st.env), writes o.op (valOf st.env) (keyOf o.dst)⟩ :: tr) Q) →
        ∃ l st', Ch P C nt ops l st st' ∧ Q st' (l.reverse ++ tr) ∧ l.map (·.at_) = List.range' n (rest.length + 1) := by
      intro hw h
      obtain ⟨v, u, h1, h2, h3⟩ := lexec_real h
      obtain ⟨l, st', h4, h5, h6⟩ := ih h1 hr'
      exact ⟨⟨n, reads o.op (valOf st.env), writes o.op (valOf st.env) (keyOf o.dst)⟩ :: l, st', .cons _ l o st _ st' ho ⟨hd, .inl ⟨hw, rfl, rfl, v, u, h2, h3, rfl⟩⟩ h4, by rw [List.reverse_cons, List.append_assoc]; exact h5, by simp [h6, List.range'_succ]⟩
    have skip : wantedV ops o st.env = some false → awpOps P C nt ops rest (n + 1) (st.put o.dst .undef) (⟨n, [], []⟩ :: tr) Q →
        ∃ l st', Ch P C nt ops l st st' ∧ Q st' (l.reverse ++ tr) ∧ l.map (·.at_) = List.range' n (rest.length + 1) := by
      intro hw h
      obtain ⟨l, st', h4, h5, h6⟩ := ih h hr'
      exact ⟨⟨n, [], []⟩ :: l, st', .cons _ l o st _ st' ho ⟨hd, .inr ⟨hw, rfl, rfl, rfl⟩⟩ h4, by simpa using h5, by simp [h6, List.range'_succ]⟩
    cases hg : o.guard with
    | none =>
      rw [hg] at h
      exact run (by simp [wantedV, hg]) h
    | some g =>
      obtain ⟨j, want⟩ := g
      rw [hg] at h
      simp only at h
      cases hdj : (ops[j]?).bind (·.dst) with
      | none => rw [hdj] at h; exact h.elim
      | some d =>
        rw [hdj] at h
        simp only at h
        split at h
        · rename_i b hb
          have hw : wantedV ops o st.env = some (b == want) := by simp [wantedV, hg, hdj, hb]
          have hs : st.put (some d) (.d (.bool b)) = st := put_same hb
          cases b <;> cases want <;> simp only [branch] at h <;> rw [hs] at h <;> first | exact run (by simpa using hw) h | exact skip (by simpa using hw) h
        · rename_i hb
          exact skip (by simp [wantedV, hg, hdj, hb]) h
        · exact h.elim
end

section
variable {reg : Reg} {P : Program} {C : FuncId → Option (PureC reg.T)} {B : Base} {nt : Nat}

/-- One operation of a region, at the machine. -/
theorem Step.sound (hC : ∀ f S, C f = some S → CSound reg P f S) {ops : Array Oper} {i : Nat} {o : Oper} (hi : ops[i]? = some o) {st st' : St reg.T} {rd wr : List Nat}
    (h : Step P C nt ops o st st' rd wr) {F : Nat → Prop} {φ : Phi} {a : Act} {w : World} (hR : R reg B nt F φ st a w) {K : Act → World → Prop} {Q : Exit → Act → World → Prop}
    (hK : ∀ F' φ' a' w', R reg B nt F' φ' st' a' w' → K a' w') : wpOp P ops Q i K a w := by
  obtain ⟨hd, h⟩ := h
  -- whether it is wanted is seen alike
  have hwant : ∀ b, wantedV ops o st.env = some b → Region.wanted o (yielded ops a.tmps) = b := by
    intro b hb
    unfold wantedV at hb
    unfold Region.wanted
    cases hg : o.guard with
    | none => rw [hg] at hb; simpa using hb
    | some g =>
      obtain ⟨j, want⟩ := g
      rw [hg] at hb
      simp only at hb ⊢
      cases hdj : (ops[j]?).bind (·.dst) with
      | none => rw [hdj] at hb; simp at hb
      | some d =>
        rw [hdj] at hb
        simp only at hb
        split at hb
        · rename_i x hx
          have hv := (hR.env d _ hx).2
          have ht : (hR.env d _ hx).1 = (hR.env d _ hx).1 := rfl
          generalize hz : a.tmps.getD d undef = z at hv
          cases hv with
          | d _ _ hd' =>
            cases hd'
            have hlt : d < a.tmps.size := by rw [hR.size]; exact (hR.env d _ hx).1
            have he : a.tmps[d]? = some (.bool x) := by
              simp only [Array.getD_eq_getD_getElem?, Array.getElem?_eq_getElem hlt, Option.getD_some] at hz
              rw [Array.getElem?_eq_getElem hlt, hz]
            unfold yielded
            simp only [Option.some.injEq] at hb
            subst hb
            obtain ⟨oj, hoj, hdd⟩ := Option.bind_eq_some_iff.1 hdj
            simp [hoj, hdd, he]
        · rename_i hx
          have hv := (hR.env d _ hx).2
          generalize hz : a.tmps.getD d Go.undef = z at hv
          cases hv with
          | undef =>
            have hlt : d < a.tmps.size := by rw [hR.size]; exact (hR.env d _ hx).1
            have he : a.tmps[d]? = some Go.undef := by
              simp only [Array.getD_eq_getD_getElem?, Array.getElem?_eq_getElem hlt, Option.getD_some] at hz
              rw [Array.getElem?_eq_getElem hlt, hz]
            unfold yielded
            simp only [Option.some.injEq] at hb
            subst hb
            obtain ⟨oj, hoj, hdd⟩ := Option.bind_eq_some_iff.1 hdj
            simp [hoj, hdd, he, Go.undef]
        · simp at hb
  unfold wpOp
  simp only [hi]
  rcases h with ⟨h1, _, _, v, u, h2, _, h3⟩ | ⟨h1, _, _, h3⟩
  · rw [if_pos (hwant true h1)]
    refine .inl (lexec_sound hC (o := o) (Ka := fun v' u' => v' = v ∧ u' = u) (h2 _ ⟨rfl, rfl⟩) hR hd ?_)
    rintro v' u' F' φ' a' w' ⟨rfl, rfl⟩ hR'
    exact hK F' φ' a' w' (h3 ▸ hR')
  · rw [if_neg (by rw [hwant false h1]; simp)]
    exact hK F φ _ w (h3 ▸ hR.put hd .undef)

/-- In the text's order. -/
theorem Ch.lex (hC : ∀ f S, C f = some S → CSound reg P f S) {ops : Array Oper} {Q : Exit → Act → World → Prop} : ∀ {l : List Foot} {st st' : St reg.T}, Ch P C nt ops l st st' →
    ∀ {F : Nat → Prop} {φ : Phi} {a : Act} {w : World}, R reg B nt F φ st a w → (∀ F' φ' a' w', R reg B nt F' φ' st' a' w' → Q .normal a' w') → wpOps P ops Q (l.map (·.at_)) a w := by
  intro l st st' h
  induction h with
  | nil st => intro F φ a w hR hQ; exact hQ _ _ _ _ hR
  | cons f l o st s1 s2 ho hs _ ih =>
    intro F φ a w hR hQ
    rw [List.map_cons, wpOps_cons]
    exact hs.sound hC ho hR (fun F' φ' a' w' hR' => ih hR' hQ)

/-! ### In whatever order -/
/-- 'j' stands surely ahead of 'i'. -/
inductive Ahead (ops : Array Oper) : Nat → Nat → Prop
  | one (i j : Nat) (o : Oper) (e : Edge) (ho : ops[i]? = some o) (he : e ∈ o.after.toList) (hb : Region.binds .any e = true) (hj : e.on = j) : Ahead ops i j
  | more (i j : Nat) (o : Oper) (e : Edge) (ho : ops[i]? = some o) (he : e ∈ o.after.toList) (hb : Region.binds .any e = true) (hj : Ahead ops e.on j) : Ahead ops i j

theorem masks_fold {ops : Array Oper} {acc : List Nat} (hacc : ∀ i m j, acc[i]? = some m → m.testBit j = true → Ahead ops i j) {i : Nat} {o : Oper} (ho : ops[i]? = some o) :
    ∀ (es : List Edge), (∀ e ∈ es, e ∈ o.after.toList) → ∀ (s : Nat), (∀ j, s.testBit j = true → Ahead ops i j) → ∀ j,
      (es.foldl (fun s e => match Region.binds .any e with | true => s ||| 2 ^ e.on ||| acc.getD e.on 0 | false => s) s).testBit j = true → Ahead ops i j := by
  intro es
  induction es with
  | nil => intro _ s hs j h; exact hs j h
  | cons e es ih =>
    intro hes s hs j h
    rw [List.foldl_cons] at h
    refine ih (fun e' he' => hes e' (by simp [he'])) _ (fun j' hj' => ?_) j h
    cases hb : Region.binds .any e with
    | false => simp only [hb] at hj'; exact hs j' hj'
    | true =>
      simp only [hb, Nat.testBit_or, Bool.or_eq_true, Nat.testBit_two_pow, decide_eq_true_eq] at hj'
      rcases hj' with (hj' | hj') | hj'
      · exact hs j' hj'
      · exact .one i j' o e ho (hes e (by simp)) hb hj'
      · cases hm : acc[e.on]? with
        | none => simp [List.getD, hm] at hj'
        | some m =>
          simp only [List.getD, hm, Option.getD_some] at hj'
          exact .more i j' o e ho (hes e (by simp)) hb (hacc _ m j' hm hj')

theorem masks_spec {ops : Array Oper} : ∀ (r : List Oper) (acc : List Nat), (∀ j, r[j]? = ops[acc.length + j]?) → (∀ i m j, acc[i]? = some m → m.testBit j = true → Ahead ops i j) →
    ∀ i m j, (masks r acc)[i]? = some m → m.testBit j = true → Ahead ops i j := by
  intro r
  induction r with
  | nil => intro acc _ hacc; exact hacc
  | cons o r ih =>
    intro acc hr hacc
    have ho : ops[acc.length]? = some o := by have := hr 0; simpa using this.symm
    refine ih _ (fun j => ?_) (fun i m j hi hm => ?_)
    · have := hr (j + 1)
      simp only [List.getElem?_cons_succ] at this
      rw [this]
      congr 1
      simp
      omega
    · rcases Nat.lt_or_ge i acc.length with hlt | hge
      · rw [List.getElem?_append_left hlt] at hi
        exact hacc i m j hi hm
      · rw [List.getElem?_append_right hge] at hi
        have he : i - acc.length = 0 := by
          rcases Nat.eq_zero_or_pos (i - acc.length) with h | h
          · exact h
          · rw [List.getElem?_eq_none (by simp; omega)] at hi; simp at hi
        rw [he] at hi
        simp only [List.getElem?_cons_zero, Option.some.injEq] at hi
        subst hi
        have hi' : i = acc.length := by omega
        subst hi'
        exact masks_fold hacc ho _ (fun e he => he) 0 (fun j hj => by simp at hj) j hm

theorem meets_false {a b : List Nat} (h : meets a b = false) : ∀ i ∈ a, i ∉ b := by
  intro i hi hb
  have : meets a b = true := by
    unfold meets
    rw [List.any_eq_true]
    exact ⟨i, hi, by rw [List.any_eq_true]; exact ⟨i, hb, Nat.beq_refl i⟩⟩
  rw [h] at this
  simp at this

theorem back_spec {ops : Array Oper} : ∀ (r : List Oper) (n : Nat), (∀ j, r[j]? = ops[n + j]?) → back r n = true → ∀ i o, n ≤ i → ops[i]? = some o → ∀ e ∈ o.after.toList, Region.binds .any e = true → e.on < i := by
  intro r
  induction r with
  | nil =>
    intro n hr _ i o hni ho
    have := hr (i - n)
    rw [show n + (i - n) = i by omega, ho] at this
    simp at this
  | cons o' r ih =>
    intro n hr h i o hni ho e he hb
    simp only [back, Bool.and_eq_true] at h
    rcases Nat.eq_or_lt_of_le hni with heq | hlt
    · subst heq
      have h0 := hr 0
      simp only [List.getElem?_cons_zero, Nat.add_zero, ho, Option.some.injEq] at h0
      subst h0
      have := List.all_eq_true.1 h.1 e he
      simpa [hb] using this
    · exact ih (n + 1) (fun j => by have := hr (j + 1); simp only [List.getElem?_cons_succ] at this; rw [this]; congr 1; omega) h.2 i o (by omega) ho e he hb

theorem Ch.any (hC : ∀ f S, C f = some S → CSound reg P f S) {ops : Array Oper} {Q : Exit → Act → World → Prop} (hback : ∀ i o, ops[i]? = some o → ∀ e ∈ o.after.toList, Region.binds .any e = true → e.on < i) :
    ∀ (fuel : Nat) (l : List Foot) (st st' : St reg.T) (listed : Array Bool), Ch P C nt ops l st st' → l.length ≤ fuel → listed.size = ops.size →
      (∀ i, listed.getD i true = false ↔ i ∈ l.map (·.at_)) → (l.map (·.at_)).Pairwise (· < ·) →
      (∀ g ∈ l, ∀ f ∈ l, g.at_ < f.at_ → Ahead ops f.at_ g.at_ ∨ Apart ops g f) →
      (∀ i j, listed.getD i false = true → Ahead ops i j → listed.getD j false = true) →
      ∀ {F : Nat → Prop} {φ : Phi} {a : Act} {w : World}, R reg B nt F φ st a w → (∀ F' φ' a' w', R reg B nt F' φ' st' a' w' → Q .normal a' w') → wpAny P .any ops Q fuel listed a w := by
  intro fuel
  induction fuel with
  | zero =>
    intro l st st' listed h hf hsz hl _ _ _ F φ a w hR hQ
    have : l = [] := List.length_eq_zero_iff.1 (by omega)
    subst this
    cases h
    refine ⟨?_, hQ _ _ _ _ hR⟩
    rw [List.eq_nil_iff_forall_not_mem]
    intro i hi
    have := (hl i).1 (mem_ready.1 hi).1
    simp at this
  | succ fuel ih =>
    intro l st st' listed h hf hsz hl hsort hap hdown F φ a w hR hQ
    have hiff : ∀ i, listed.getD i false = true ↔ (i < ops.size ∧ i ∉ l.map (·.at_)) := by
      intro i
      rcases Nat.lt_or_ge i ops.size with hlt | hge
      · have h1 := hl i
        simp only [Array.getD_eq_getD_getElem?, Array.getElem?_eq_getElem (show i < listed.size by omega), Option.getD_some] at h1 ⊢
        constructor
        · intro e; exact ⟨hlt, fun hm => by rw [h1.2 hm] at e; simp at e⟩
        · rintro ⟨_, hm⟩
          cases hb : listed[i]'(by omega) with
          | true => rfl
          | false => exact absurd (h1.1 hb) hm
      · simp [Array.getElem?_eq_none (show listed.size ≤ i by omega)]
        omega
    refine ⟨fun hnone => ?_, fun i hi => ?_⟩
    · -- nothing is ready: all is done
      cases h with
      | nil => exact hQ _ _ _ _ hR
      | cons f l o _ s1 _ ho hs h =>
        exfalso
        have hr : f.at_ ∈ Region.ready .any ops listed := by
          rw [mem_ready]
          refine ⟨(hl f.at_).2 (by simp), o, ho, fun e he hb => ?_⟩
          have hlt := hback f.at_ o ho e (by simpa using he) hb
          have hfs := (Array.getElem?_eq_some_iff.1 ho).1
          rw [hiff]
          refine ⟨by omega, fun hm => ?_⟩
          simp only [List.map_cons, List.mem_cons] at hm
          rcases hm with hm | hm
          · omega
          · have := (List.pairwise_cons.1 (by simpa using hsort)).1 _ hm
            omega
        rw [hnone] at hr
        simp at hr
    · obtain ⟨hun, oi, hoi, hall⟩ := mem_ready.1 hi
      have him := (hl i).1 hun
      obtain ⟨f, hfl, hfi⟩ := List.mem_map.1 him
      obtain ⟨l1, l2, rfl⟩ := List.append_of_mem hfl
      subst hfi
      have hsort' : ∀ g ∈ l1, g.at_ < f.at_ := by
        intro g hg
        rw [List.map_append, List.pairwise_append] at hsort
        exact hsort.2.2 g.at_ (List.mem_map.2 ⟨g, hg, rfl⟩) f.at_ (by simp)
      have hnodup : ∀ g ∈ l1 ++ l2, g.at_ ≠ f.at_ := by
        intro g hg e
        rw [List.map_append, List.map_cons, List.pairwise_append] at hsort
        rcases List.mem_append.1 hg with h1 | h1
        · have := hsort' g h1; omega
        · have := (List.pairwise_cons.1 hsort.2.1).1 g.at_ (List.mem_map.2 ⟨g, h1, rfl⟩)
          omega
      have hfront := h.front (l1 := l1) (l2 := l2) (f := f) (fun g hg => by
        rcases hap g (by simp [hg]) f (by simp) (hsort' g hg) with ha | ha
        · exfalso
          -- all that stands ahead of it is listed
          have hlg : listed.getD g.at_ false = true := by
            cases ha with
            | one _ _ o e ho he hb hj =>
              rw [hoi] at ho; cases ho
              rw [← hj]
              exact hall e (by simpa using he) hb
            | more _ _ o e ho he hb hj =>
              rw [hoi] at ho; cases ho
              exact hdown _ _ (hall e (by simpa using he) hb) hj
          have := (hiff g.at_).1 hlg
          exact this.2 (List.mem_map.2 ⟨g, by simp [hg], rfl⟩)
        · exact ha)
      obtain ⟨o, s1, ho, hs, hrest⟩ := hfront
      refine hs.sound hC ho hR (fun F' φ' a' w' hR' => ?_)
      have hfs := (Array.getElem?_eq_some_iff.1 ho).1
      refine ih (l1 ++ l2) s1 st' _ hrest (by simp at hf ⊢; omega) (by simpa using hsz) (fun j => ?_) ?_ ?_ ?_ hR' hQ
      · by_cases hj : j = f.at_
        · subst hj
          have e : (listed.setIfInBounds f.at_ true).getD f.at_ true = true := by
            simp only [Array.getD_eq_getD_getElem?, Array.getElem?_setIfInBounds, if_true]
            split <;> rfl
          rw [e]
          simp only [Bool.true_eq_false, false_iff]
          intro hm
          obtain ⟨g, hg, he⟩ := List.mem_map.1 hm
          exact hnodup g hg he
        · rw [getD_set_ne true (Ne.symm hj), hl j]
          simp only [List.map_append, List.map_cons, List.mem_append, List.mem_cons]
          constructor
          · rintro (h | h | h)
            · exact .inl h
            · exact absurd h hj
            · exact .inr h
          · rintro (h | h)
            · exact .inl h
            · exact .inr (.inr h)
      · rw [List.map_append, List.map_cons, List.pairwise_append] at hsort
        rw [List.map_append, List.pairwise_append]
        exact ⟨hsort.1, (List.pairwise_cons.1 hsort.2.1).2, fun x hx y hy => hsort.2.2 x hx y (List.mem_cons_of_mem _ hy)⟩
      · intro g hg f' hf' hlt
        exact hap g (List.mem_append.2 ((List.mem_append.1 hg).imp id (List.mem_cons_of_mem _))) f' (List.mem_append.2 ((List.mem_append.1 hf').imp id (List.mem_cons_of_mem _))) hlt
      · intro j k hj hjk
        by_cases hjf : j = f.at_
        · subst hjf
          have hlk : listed.getD k false = true := by
            cases hjk with
            | one _ _ o' e ho' he hb hj' =>
              rw [hoi] at ho'; cases ho'
              rw [← hj']
              exact hall e (by simpa using he) hb
            | more _ _ o' e ho' he hb hj' =>
              rw [hoi] at ho'; cases ho'
              exact hdown _ _ (hall e (by simpa using he) hb) hj'
          exact getD_set_true hlk
        · rw [getD_set_ne false (Ne.symm hjf)] at hj
          exact getD_set_true (hdown j k hj hjk)

/-! ### Code -/
def Post (B : Base) (nt : Nat) (Q : AExit → St reg.T → Prop) : Exit → Act → World → Prop
  | .normal, a, w => ∃ st F φ, Q .normal st ∧ R reg B nt F φ st a w
  | .exit id, a, w => ∃ st F φ, Q (.exit id) st ∧ R reg B nt F φ st a w
  | .ret, a, w => ∃ st F φ, Q .ret st ∧ R reg B nt F φ st a w
  | _, _, _ => False

theorem R.drew {F : Nat → Prop} {φ : Phi} {st : St reg.T} {a : Act} {w : World} (h : R reg B nt F φ st a w) : R reg B nt F φ st a { w with drawn := w.drawn + 1 } := by
  have hm : ∀ b, F b → F b ∧ ({ w with drawn := w.drawn + 1 } : World).heap[b]? = w.heap[b]? := fun b hb => ⟨hb, rfl⟩
  exact ⟨fun t v hv => ⟨(h.env t v hv).1, (h.env t v hv).2.mono reg hm (fun _ _ _ e => e)⟩, h.size, fun i o ho => (h.obj i o ho).mono reg hm (fun _ _ _ e => e) (fun e => e) (fun _ _ _ => rfl),
    h.own, h.inj, h.dom, h.frz, h.keep, ⟨h.fr.os, h.fr.tape, h.fr.output, h.fr.size, h.fr.block⟩, h.dfs⟩

theorem region_sound (hm : P.follows .mixedOrders = true) (hC : ∀ f S, C f = some S → CSound reg P f S) {id : Nat} {ops : Array Oper} {draw : Bool} {Q : St reg.T → Prop} {Q' : Exit → Act → World → Prop} {st : St reg.T}
    (h : awpOps P C nt ops ops.toList 0 st [] fun st tr => (match draw with
      | false => Q st
      | true => (match okTrace ops tr with | true => Q st | false => False)))
    {F : Nat → Prop} {φ : Phi} {a : Act} {w : World} (hR : R reg B nt F φ st a w) (hQ : ∀ st F φ a w, Q st → R reg B nt F φ st a w → Q' .normal a w) : (Code.region id ops draw).wp P Q' a w := by
  obtain ⟨l, st', hch, hq, hat⟩ := awpOps_chain h (fun j => by simp)
  rw [List.append_nil] at hq
  have hat' : l.map (·.at_) = List.range ops.size := by rw [hat, Array.length_toList, List.range_eq_range']
  cases draw with
  | false =>
    refine wp_region ?_
    rw [← hat']
    exact hch.lex hC hR (fun F' φ' a' w' hR' => hQ _ _ _ _ _ hq hR')
  | true =>
    simp only at hq
    cases hok : okTrace ops l.reverse with
    | false => simp [hok] at hq
    | true =>
      simp only [hok] at hq
      unfold okTrace at hok
      simp only [Bool.and_eq_true] at hok
      obtain ⟨hb, hok⟩ := hok
      refine wp_region_any hm ?_
      have hbk := back_spec (ops := ops) ops.toList 0 (fun j => by simp) hb
      refine Ch.any hC (fun i o ho => hbk i o (Nat.zero_le _) ho) ops.size l st st' _ hch ?_ (by simp) (fun i => ?_) ?_ (fun g hg f hf hlt => ?_) (fun i j hi _ => ?_) hR.drew (fun F' φ' a' w' hR' => hQ _ _ _ _ _ hq hR')
      · have := congrArg List.length hat'
        simp at this
        omega
      · rw [hat']
        simp only [List.mem_range, Array.getD_eq_getD_getElem?, Array.getElem?_replicate]
        by_cases hi : i < ops.size <;> simp [hi]
      · rw [hat']
        exact List.pairwise_lt_range
      · have h1 := List.all_eq_true.1 hok f (by simpa using hf)
        have h2 := List.all_eq_true.1 h1 g (by simpa using hg)
        have hblt : Nat.blt g.at_ f.at_ = true := by simpa using hlt
        simp only [hblt, Bool.not_true, Bool.false_or, Bool.or_eq_true] at h2
        rcases h2 with h2 | h2
        · left
          cases hmk : (masks ops.toList [])[f.at_]? with
          | none => simp [List.getD, hmk] at h2
          | some m =>
            simp only [List.getD, hmk, Option.getD_some] at h2
            exact masks_spec (ops := ops) ops.toList [] (fun j => by simp) (fun i m j hi => by simp at hi) _ m _ hmk h2
        · right
          intro og of hog hof
          rw [hog, hof] at h2
          simp only [Bool.and_eq_true, Foot.apart, Bool.not_eq_true'] at h2
          obtain ⟨ha, ⟨hb1, hb2⟩, hb3⟩ := h2
          refine ⟨ha, fun i hi => ⟨meets_false hb1 i hi, meets_false hb2 i hi⟩, fun i hi => ⟨meets_false hb3 i hi, fun hi' => meets_false hb2 i hi' hi⟩⟩
      · simp only [Array.getD_eq_getD_getElem?, Array.getElem?_replicate] at hi
        split at hi <;> simp at hi

/-! ### Loops -/
/-- What has not been written is as it was. -/
def Same (W : Nat) (st st' : St reg.T) : Prop := (∀ t, W.testBit t = false → st'.env t = st.env t) ∧ (∀ i, st'.wr.testBit i = false → st'.H i = st.H i) ∧ ∀ i, st.wr.testBit i = true → st'.wr.testBit i = true

theorem Same.refl (W : Nat) (st : St reg.T) : Same W st st := ⟨fun _ _ => rfl, fun _ _ => rfl, fun _ h => h⟩
theorem Same.trans {W : Nat} {a b c : St reg.T} (h : Same W a b) (k : Same W b c) : Same W a c := by
  refine ⟨fun t ht => (k.1 t ht).trans (h.1 t ht), fun i hi => ?_, fun i hi => k.2.2 i (h.2.2 i hi)⟩
  have hb : b.wr.testBit i = false := by
    cases hb : b.wr.testBit i with
    | false => rfl
    | true => rw [k.2.2 i hb] at hi; simp at hi
  exact (k.2.1 i hi).trans (h.2.1 i hb)
theorem Same.put {W : Nat} (st : St reg.T) {dst : Option Nat} (v : V reg.T) (h : ∀ d, dst = some d → W.testBit d = true) : Same W st (st.put dst v) := by
  refine ⟨fun t ht => env_put (fun e => ?_), fun i _ => by cases dst <;> rfl, fun i hi => by cases dst <;> exact hi⟩
  rw [h t e] at ht
  simp at ht

theorem updBits_mem {u : Upd reg.T} {i : Nat} (h : (updBits u).testBit i = false) : ∀ p ∈ u, p.1 ≠ i := by
  induction u with
  | nil => intro p hp; simp at hp
  | cons q u ih =>
    obtain ⟨k, o⟩ := q
    simp only [updBits, Nat.testBit_or, Bool.or_eq_false_iff, Nat.testBit_two_pow, decide_eq_false_iff_not] at h
    intro p hp
    rcases List.mem_cons.1 hp with rfl | hp
    · exact h.1
    · exact ih h.2 p hp

theorem Same.upd {W : Nat} (st : St reg.T) (u : Upd reg.T) : Same W st (st.upd u) := by
  refine ⟨fun t _ => by rw [upd_env], fun i hi => ?_, fun i hi => by rw [upd_wr, Nat.testBit_or, hi]; rfl⟩
  rw [upd_wr, Nat.testBit_or, Bool.or_eq_false_iff] at hi
  rw [upd_H, updH_out (updBits_mem hi.2)]

theorem awpOps_frame {W : Nat} {ops : Array Oper} : ∀ {rest : List Oper} {n : Nat} {st : St reg.T} {tr : List Foot} {Q Q' : St reg.T → List Foot → Prop}, awpOps P C nt ops rest n st tr Q →
    (∀ o ∈ rest, ∀ d, o.dst = some d → W.testBit d = true) → (∀ st' tr', Q st' tr' → Same W st st' → Q' st' tr') → awpOps P C nt ops rest n st tr Q' := by
  intro rest
  induction rest with
  | nil => intro n st tr Q Q' h _ hq; exact hq st tr h (Same.refl W st)
  | cons o rest ih =>
    intro n st tr Q Q' h hW hq
    have hWo := hW o (by simp)
    have hWr : ∀ o' ∈ rest, ∀ d, o'.dst = some d → W.testBit d = true := fun o' ho' => hW o' (by simp [ho'])
    simp only [awpOps] at h ⊢
    cases hd : dstOk nt o.dst with
    | false => simp [hd] at h
    | true =>
      simp only [hd] at h ⊢
      have run : ∀ (s : St reg.T), Same W st s → (lexec P C o.op (valOf s.env) s.H (keyOf o.dst) fun v u => awpOps P C nt ops rest (n + 1) ((s.put o.dst v).upd u) (⟨n, reads o.op (valOf s.env), writes o.op (valOf s.env) (keyOf o.dst)⟩ :: tr) Q) →
          (lexec P C o.op (valOf s.env) s.H (keyOf o.dst) fun v u => awpOps P C nt ops rest (n + 1) ((s.put o.dst v).upd u) (⟨n, reads o.op (valOf s.env), writes o.op (valOf s.env) (keyOf o.dst)⟩ :: tr) Q') := by
        intro s hs h
        obtain ⟨v, u, h1, h2, _⟩ := lexec_real h
        exact h2 _ (ih h1 hWr (fun st' tr' hq' hsm => hq st' tr' hq' ((hs.trans (Same.put s v hWo)).trans ((Same.upd _ u).trans hsm))))
      have skip : ∀ (s : St reg.T), Same W st s → awpOps P C nt ops rest (n + 1) (s.put o.dst .undef) (⟨n, [], []⟩ :: tr) Q → awpOps P C nt ops rest (n + 1) (s.put o.dst .undef) (⟨n, [], []⟩ :: tr) Q' := by
        intro s hs h
        exact ih h hWr (fun st' tr' hq' hsm => hq st' tr' hq' ((hs.trans (Same.put s .undef hWo)).trans hsm))
      cases hg : o.guard with
      | none => rw [hg] at h; exact run st (Same.refl W st) h
      | some g =>
        obtain ⟨j, want⟩ := g
        rw [hg] at h
        simp only at h ⊢
        cases hdj : (ops[j]?).bind (·.dst) with
        | none => rw [hdj] at h; exact h.elim
        | some d =>
          rw [hdj] at h
          simp only at h ⊢
          split at h
          · rename_i b hb
            have hs : st.put (some d) (.d (.bool b)) = st := put_same hb
            cases b <;> cases want <;> simp only [branch] at h ⊢ <;> rw [hs] at h ⊢ <;> first | exact run st (Same.refl W st) h | exact skip st (Same.refl W st) h
          · exact skip st (Same.refl W st) h
          · exact h.elim

theorem Same.wide {W W' : Nat} {a b : St reg.T} (h : Same W a b) (hw : ∀ t, W'.testBit t = false → W.testBit t = false) : Same W' a b := ⟨fun t ht => h.1 t (hw t ht), h.2⟩

theorem testBit_or_false {a b t : Nat} (h : (a ||| b).testBit t = false) : a.testBit t = false ∧ b.testBit t = false := by
  rwa [Nat.testBit_or, Bool.or_eq_false_iff] at h

theorem region_bits (l : List Oper) : ∀ (s : Nat) (t : Nat), (l.foldl (fun s o => s ||| dstBit o) s).testBit t = true ↔ s.testBit t = true ∨ ∃ o ∈ l, o.dst = some t := by
  induction l with
  | nil => intro s t; simp
  | cons o l ih =>
    intro s t
    rw [List.foldl_cons, ih, Nat.testBit_or]
    have hb : (dstBit o).testBit t = true ↔ o.dst = some t := by
      unfold dstBit
      cases o.dst with
      | none => simp
      | some d => simp [Nat.testBit_two_pow]
    simp only [Bool.or_eq_true, hb, List.mem_cons]
    constructor
    · rintro ((h | h) | ⟨o', h1, h2⟩)
      · exact .inl h
      · exact .inr ⟨o, .inl rfl, h⟩
      · exact .inr ⟨o', .inr h1, h2⟩
    · rintro (h | ⟨o', rfl | h1, h2⟩)
      · exact .inl (.inl h)
      · exact .inl (.inr h2)
      · exact .inr ⟨o', h1, h2⟩

/-- The names that stand ahead of a loop's head, or are laid in it. -/
theorem loopBits_spec {c : Code} {nb i : Nat} (h : (loopBits c nb).testBit i = false) : nb.testBit i = false ∧ ¬(64 ≤ i ∧ (wbits c).testBit (i - 64) = true) := by
  unfold loopBits at h
  obtain ⟨h1, h2⟩ := testBit_or_false h
  refine ⟨h1, fun ⟨h3, h4⟩ => ?_⟩
  rw [Nat.testBit_shiftLeft] at h2
  simp [h3, h4] at h2

theorem nameBits_spec {α : Type} {l : List (Nat × α)} {i : Nat} (h : (nameBits l).testBit i = false) : lookL l i = none := by
  induction l with
  | nil => rfl
  | cons p l ih =>
    obtain ⟨k, v⟩ := p
    simp only [nameBits, Nat.testBit_or, Bool.or_eq_false_iff, Nat.testBit_two_pow, decide_eq_false_iff_not] at h
    simp only [lookL]
    have : Nat.beq i k = false := by
      cases hb : Nat.beq i k with
      | false => rfl
      | true => exact absurd (Nat.eq_of_beq_eq_true hb).symm h.1
    rw [this]
    exact ih h.2

theorem blt_false {i n : Nat} (h : Nat.blt i n = false) : n ≤ i := by
  rcases Nat.lt_or_ge i n with h' | h'
  · have : Nat.blt i n = true := by simpa using h'
    rw [h] at this
    simp at this
  · exact h'
theorem blt_true {i n : Nat} (h : Nat.blt i n = true) : i < n := by simpa using h

theorem nameBits_true {α : Type} {l : List (Nat × α)} {i : Nat} (h : (nameBits l).testBit i = true) : ∃ o, lookL l i = some o := by
  induction l with
  | nil => simp [nameBits] at h
  | cons p l ih =>
    obtain ⟨k, u⟩ := p
    simp only [nameBits, Nat.testBit_or, Bool.or_eq_true, Nat.testBit_two_pow, decide_eq_true_eq] at h
    simp only [lookL]
    cases hbk : Nat.beq i k with
    | true => exact ⟨u, rfl⟩
    | false =>
      rcases h with rfl | h
      · simp [Nat.beq_refl] at hbk
      · exact ih h

/-- What stands at a loop's head under a name. -/
theorem headSt_cases (st : St reg.T) (c : Code) (L : StL reg.T) (γ i : Nat) : (∃ o, lookL L.2 i = some o ∧ (headSt st c L γ).H i = some o) ∨
    (64 ≤ i ∧ (wbits c).testBit (i - 64) = true ∧ (headSt st c L γ).H i = some (.dead γ)) ∨
    ((loopBits c (nameBits L.2)).testBit i = false ∧ (headSt st c L γ).H i = st.H i) := by
  cases hl : lookL L.2 i with
  | some o => exact .inl ⟨o, rfl, by simp only [headSt, hl]⟩
  | none =>
    have hn : (nameBits L.2).testBit i = false := by
      cases hb : (nameBits L.2).testBit i with
      | false => rfl
      | true => obtain ⟨o, ho⟩ := nameBits_true hb; rw [hl] at ho; cases ho
    cases hb1 : Nat.blt i 64 with
    | true =>
      refine .inr (.inr ⟨?_, by simp only [headSt, hl, hb1]⟩)
      unfold loopBits
      rw [Nat.testBit_or, hn, Nat.testBit_shiftLeft]
      have := blt_true hb1
      simp
      omega
    | false =>
      cases hw : (wbits c).testBit (i - 64) with
      | true => exact .inr (.inl ⟨blt_false hb1, rfl, by simp only [headSt, hl, hb1, hw]⟩)
      | false =>
        refine .inr (.inr ⟨?_, by simp only [headSt, hl, hb1, hw]⟩)
        unfold loopBits
        rw [Nat.testBit_or, hn, Nat.testBit_shiftLeft, hw]
        simp

theorem headSt_H {st : St reg.T} {c : Code} {L : StL reg.T} {γ i : Nat} (h : (loopBits c (nameBits L.2)).testBit i = false) : (headSt st c L γ).H i = st.H i := by
  obtain ⟨h1, h2⟩ := loopBits_spec h
  rcases headSt_cases st c L γ i with ⟨o, ho, _⟩ | ⟨h3, h4, _⟩ | ⟨_, h3⟩
  · rw [nameBits_spec h1] at ho; cases ho
  · exact absurd ⟨h3, h4⟩ h2
  · exact h3

/-- Behind a round that ended the loop. -/
theorem Same.loop {st st' : St reg.T} {c : Code} {L : StL reg.T} {γ : Nat} (h : Same (wbits c) (headSt st c L γ) st') : Same (wbits c) st (st'.wrote (st.wr ||| loopBits c (nameBits L.2))) := by
  refine ⟨fun t ht => ?_, fun i hi => ?_, fun i hi => ?_⟩
  · show st'.env t = st.env t
    rw [h.1 t ht]
    simp only [headSt, ht]
  · show st'.H i = st.H i
    have hi' : (st'.wr ||| (st.wr ||| loopBits c (nameBits L.2))).testBit i = false := hi
    obtain ⟨h1, h2⟩ := testBit_or_false hi'
    obtain ⟨_, h3⟩ := testBit_or_false h2
    rw [h.2.1 i h1, headSt_H h3]
  · show (st'.wr ||| (st.wr ||| loopBits c (nameBits L.2))).testBit i = true
    rw [Nat.testBit_or, Nat.testBit_or, hi]
    simp

theorem awp_frame : ∀ (c : Code) (Q Q' : AExit → St reg.T → Prop) (st : St reg.T), awp P C nt c Q st → (∀ e st', Q e st' → Same (wbits c) st st' → Q' e st') → awp P C nt c Q' st := by
  intro c
  induction c with
  | skip => intro Q Q' st h hq; exact hq _ _ h (Same.refl _ _)
  | region id ops draw =>
    intro Q Q' st h hq
    have hb : ∀ o ∈ ops.toList, ∀ d, o.dst = some d → (wbits (.region id ops draw)).testBit d = true := by
      intro o ho d hd
      simp only [wbits]
      rw [region_bits]
      exact .inr ⟨o, ho, hd⟩
    cases draw with
    | false => exact awpOps_frame h hb (fun st' tr' h1 h2 => hq _ _ h1 h2)
    | true =>
      refine awpOps_frame h hb (fun st' tr' h1 h2 => ?_)
      cases hok : okTrace ops tr' with
      | false => simp [hok] at h1
      | true => simp only [hok] at h1 ⊢; exact hq _ _ h1 h2
  | seq x y ihx ihy =>
    intro Q Q' st h hq
    have w1 : ∀ t, (wbits (x.seq y)).testBit t = false → (wbits x).testBit t = false := fun t ht => (testBit_or_false ht).1
    have w2 : ∀ t, (wbits (x.seq y)).testBit t = false → (wbits y).testBit t = false := fun t ht => (testBit_or_false ht).2
    refine ihx _ _ st h (fun e st' h1 h2 => ?_)
    cases e with
    | normal => exact ihy Q Q' st' h1 (fun e st'' h3 h4 => hq e st'' h3 ((h2.wide w1).trans (h4.wide w2)))
    | exit id => exact hq _ _ h1 (h2.wide w1)
    | ret => exact hq _ _ h1 (h2.wide w1)
  | cond o x y ihx ihy =>
    intro Q Q' st h hq
    simp only [awp] at h ⊢
    split at h
    · rename_i t
      split at h
      · rename_i v hv
        have hs : st.put (some t) (.d (.bool v)) = st := put_same hv
        cases v with
        | true =>
          simp only [branch] at h ⊢
          rw [hs] at h ⊢
          exact ihx Q Q' st h (fun e st' h1 h2 => hq e st' h1 (h2.wide (fun t ht => (testBit_or_false ht).1)))
        | false =>
          simp only [branch] at h ⊢
          rw [hs] at h ⊢
          exact ihy Q Q' st h (fun e st' h1 h2 => hq e st' h1 (h2.wide (fun t ht => (testBit_or_false ht).2)))
      · exact h.elim
    · exact h.elim
  | block id c ih =>
    intro Q Q' st h hq
    refine ih _ _ st h (fun e st' h1 h2 => ?_)
    cases e with
    | normal => exact hq _ _ h1 h2
    | ret => exact hq _ _ h1 h2
    | exit j =>
      simp only [AExit.inBlock] at h1 ⊢
      cases hb : Nat.beq j id with
      | true => rw [hb] at h1; exact hq _ _ h1 h2
      | false => rw [hb] at h1; exact hq _ _ h1 h2
  | exit id => intro Q Q' st h hq; exact hq _ _ h (Same.refl _ _)
  | ret => intro Q Q' st h hq; exact hq _ _ h (Same.refl _ _)
  | loop c ih =>
    intro Q Q' st h hq
    obtain ⟨α, I, μ, x0, nb, h0, hnb, hround⟩ := h
    refine ⟨α, I, μ, x0, nb, h0, hnb, fun x γ => ih _ _ _ (hround x γ) (fun e st' h1 h2 => ?_)⟩
    have h3 : Same (wbits c) st (st'.wrote (st.wr ||| loopBits c nb)) := by have := h2.loop; rwa [hnb x] at this
    cases e with
    | normal => exact h1
    | exit id => exact hq _ _ h1 h3
    | ret => exact hq _ _ h1 h3
  | rangeFunc f ps c1 c2 _ _ => intro Q Q' st h; simp [awp] at h
  | scope c _ => intro Q Q' st h; simp [awp] at h
  | label l => intro Q Q' st h; simp [awp] at h
  | goto l => intro Q Q' st h; simp [awp] at h
  | refuse s => intro Q Q' st h; simp [awp] at h

theorem coverE_look {T : Nat → Type} {env : Nat → Option (V T)} : ∀ {l : List (Nat × V T)}, coverE env l → ∀ {t v}, lookL l t = some v → env t = some v := by
  intro l
  induction l with
  | nil => intro _ t v h; simp [lookL] at h
  | cons q l ih =>
    intro h t v hv
    obtain ⟨k, u⟩ := q
    simp only [lookL] at hv
    cases hb : Nat.beq t k with
    | true => rw [hb] at hv; cases hv; rw [Nat.eq_of_beq_eq_true hb]; exact h.1
    | false => rw [hb] at hv; exact ih h.2 hv
theorem coverO_look {T : Nat → Type} {H : Nat → Option (O T)} : ∀ {l : List (Nat × O T)}, coverO H l → ∀ {t v}, lookL l t = some v → H t = some v := by
  intro l
  induction l with
  | nil => intro _ t v h; simp [lookL] at h
  | cons q l ih =>
    intro h t v hv
    obtain ⟨k, u⟩ := q
    simp only [lookL] at hv
    cases hb : Nat.beq t k with
    | true => rw [hb] at hv; cases hv; rw [Nat.eq_of_beq_eq_true hb]; exact h.1
    | false => rw [hb] at hv; exact ih h.2 hv

theorem gen_bound (H : Nat → Option (O reg.T)) : ∀ n, ∃ γ, ∀ i, i < n → ∀ o, H i = some o → o.gen < γ := by
  intro n
  induction n with
  | zero => exact ⟨0, fun i hi => by omega⟩
  | succ n ih =>
    obtain ⟨γ, h⟩ := ih
    refine ⟨max γ (nextGen (H n)), fun i hi o ho => ?_⟩
    by_cases hin : i = n
    · subst hin; rw [ho]; simp only [nextGen]; omega
    · have := h i (by omega) o ho; omega

theorem R.wrote {F : Nat → Prop} {φ : Phi} {st : St reg.T} {a : Act} {w : World} (hR : R reg B nt F φ st a w) (n : Nat) : R reg B nt F φ (st.wrote n) a w :=
  ⟨hR.env, hR.size, hR.obj, hR.own, hR.inj, hR.dom, hR.frz, hR.keep, hR.fr, hR.dfs⟩

/-- To a loop's head. -/
theorem R.head {F : Nat → Prop} {φ : Phi} {st0 st : St reg.T} {a : Act} {w : World} (hR : R reg B nt F φ st a w) {c : Code} {L : StL reg.T} (h : covers st L)
    (he : ∀ t, (wbits c).testBit t = false → st.env t = st0.env t) (hH : ∀ i, (loopBits c (nameBits L.2)).testBit i = false → st.H i = st0.H i) :
    ∃ γ, R reg B nt F φ (headSt st0 c L γ) a w := by
  obtain ⟨γ, hγ⟩ := gen_bound st.H (64 + wbits c)
  have hkey : ∀ i, 64 ≤ i → (wbits c).testBit (i - 64) = true → i < 64 + wbits c := by
    intro i h1 h2
    have := Nat.ge_two_pow_of_testBit h2
    have := Nat.lt_two_pow_self (n := i - 64)
    omega
  -- each object at the head is the one that is there, or a dead one
  have hobj : ∀ i o, (headSt st0 c L γ).H i = some o → st.H i = some o ∨ (o = .dead γ ∧ 64 ≤ i ∧ (wbits c).testBit (i - 64) = true) := by
    intro i o ho
    rcases headSt_cases st0 c L γ i with ⟨o', h1, h2⟩ | ⟨h1, h2, h3⟩ | ⟨h1, h2⟩
    · rw [h2] at ho; cases ho; exact .inl (coverO_look h.2 h1)
    · rw [h3] at ho; cases ho; exact .inr ⟨rfl, h1, h2⟩
    · rw [h2, ← hH i h1] at ho; exact .inl ho
  have hdead : ∀ i p, 64 ≤ i → (wbits c).testBit (i - 64) = true → φ i γ = some p → False := by
    intro i p h1 h2 hp
    obtain ⟨o, ho, hg⟩ := hR.dom i γ p hp
    have := hγ i (hkey i h1 h2) o ho
    omega
  refine ⟨γ, fun t v hv => ?_, hR.size, fun i o ho => ?_, fun i o b s ho hp => ?_, fun i j oi oj b s s' hi hj hp hp' => ?_, fun i g p hp => ?_, hR.frz, hR.keep, hR.fr, hR.dfs⟩
  · simp only [headSt] at hv
    cases hw : (wbits c).testBit t with
    | true => rw [hw] at hv; exact hR.env t v (coverE_look h.1 hv)
    | false => rw [hw] at hv; exact hR.env t v ((he t hw).trans hv)
  · rcases hobj i o ho with h1 | ⟨rfl, _, _⟩
    · exact hR.obj i o h1
    · trivial
  · rcases hobj i o ho with h1 | ⟨rfl, h2, h3⟩
    · exact hR.own i o b s h1 hp
    · exact (hdead i _ h2 h3 hp).elim
  · rcases hobj i oi hi with h1 | ⟨rfl, h2, h3⟩
    · rcases hobj j oj hj with h4 | ⟨rfl, h5, h6⟩
      · exact hR.inj i j oi oj b s s' h1 h4 hp hp'
      · exact (hdead j _ h5 h6 hp').elim
    · exact (hdead i _ h2 h3 hp).elim
  · obtain ⟨o, ho, hg⟩ := hR.dom i g p hp
    rcases headSt_cases st0 c L γ i with ⟨o', h1, h2⟩ | ⟨h1, h2, h3⟩ | ⟨h1, h2⟩
    · have := coverO_look h.2 h1
      rw [ho] at this
      cases this
      exact ⟨o, h2, hg⟩
    · exact ⟨.dead γ, h3, by have := hγ i (hkey i h1 h2) o ho; simp only [O.gen]; omega⟩
    · exact ⟨o, by rw [h2, ← hH i h1]; exact ho, hg⟩

theorem awp_sound (hm : P.follows .mixedOrders = true) (hC : ∀ f S, C f = some S → CSound reg P f S) : ∀ (c : Code) (Q : AExit → St reg.T → Prop) (st : St reg.T), awp P C nt c Q st →
    ∀ {F : Nat → Prop} {φ : Phi} {a : Act} {w : World}, R reg B nt F φ st a w → c.wp P (Post B nt Q) a w := by
  intro c
  induction c with
  | skip => intro Q st h F φ a w hR; exact wp_skip ⟨st, F, φ, h, hR⟩
  | region id ops draw =>
    intro Q st h F φ a w hR
    exact region_sound (Q := Q .normal) hm hC h hR (fun st F φ a w hq hR => ⟨st, F, φ, hq, hR⟩)
  | seq x y ihx ihy =>
    intro Q st h F φ a w hR
    refine wp_seq (wp_mono (ihx _ st h hR) fun e a w he => ?_)
    cases e with
    | normal => obtain ⟨st', F', φ', hq, hR'⟩ := he; exact ihy Q st' hq hR'
    | exit id => exact he
    | ret => exact he
    | goto l => exact he
    | panic c => exact he
    | outgrown => exact he
  | cond o x y ihx ihy =>
    intro Q st h F φ a w hR
    simp only [awp] at h
    split at h
    · rename_i t
      split at h
      · rename_i v hv
        have hrel := (hR.env t _ hv).2
        have he : a.eval (.tmp t) = .bool v := by
          show a.tmps.getD t undef = _
          generalize a.tmps.getD t undef = z at hrel
          cases hrel with | d _ _ hd => cases hd; rfl
        have hs : st.put (some t) (.d (.bool v)) = st := put_same hv
        cases v with
        | true => simp only [branch] at h; rw [hs] at h; exact wp_cond_true he (ihx Q st h hR)
        | false => simp only [branch] at h; rw [hs] at h; exact wp_cond_false he (ihy Q st h hR)
      · exact h.elim
    · exact h.elim
  | block id c ih =>
    intro Q st h F φ a w hR
    refine wp_block (wp_mono (ih _ st h hR) fun e a w he => ?_)
    cases e with
    | normal => exact he
    | exit j =>
      obtain ⟨st', F', φ', hq, hR'⟩ := he
      simp only [AExit.inBlock] at hq
      cases hb : Nat.beq j id with
      | true =>
        rw [hb] at hq
        have : j = id := Nat.eq_of_beq_eq_true hb
        simp only [Exit.inBlock, this, if_true]
        exact ⟨st', F', φ', hq, hR'⟩
      | false =>
        rw [hb] at hq
        have : j ≠ id := fun e => by subst e; simp [Nat.beq_refl] at hb
        simp only [Exit.inBlock, this, if_false]
        exact ⟨st', F', φ', hq, hR'⟩
    | ret => exact he
    | goto l => exact he
    | panic c => exact he
    | outgrown => exact he
  | exit id => intro Q st h F φ a w hR; exact wp_exit ⟨st, F, φ, h, hR⟩
  | ret => intro Q st h F φ a w hR; exact wp_ret ⟨st, F, φ, h, hR⟩
  | loop c ih =>
    intro Q st h F φ a w hR
    obtain ⟨α, I, μ, x0, nb, h0, hnb, hround⟩ := h
    obtain ⟨γ0, hR0⟩ := hR.head (st0 := st) (c := c) h0 (fun _ _ => rfl) (fun _ _ => rfl)
    refine wp_loop_ghost (fun n a w => ∃ x γ F φ, μ x = n ∧ R reg B nt F φ (headSt st c (I x) γ) a w) (μ x0) ⟨x0, γ0, F, φ, rfl, hR0⟩ ?_
    rintro n a w ⟨x, γ, F, φ, rfl, hR⟩
    have hr := awp_frame c _ (fun e st' => roundK c I μ nb st Q x e st' ∧ Same (wbits c) (headSt st c (I x) γ) st') _ (hround x γ) (fun e st' h1 h2 => ⟨h1, h2⟩)
    refine wp_mono (ih _ _ hr hR) fun e a w he => ?_
    cases e with
    | normal =>
      obtain ⟨st', F', φ', ⟨hrd, hs⟩, hR'⟩ := he
      obtain ⟨hwr, x', h1, h2⟩ := (must_iff _ _).1 hrd
      have hwr' : st'.wr ||| loopBits c nb = loopBits c nb := Nat.eq_of_beq_eq_true hwr
      have hun : ∀ i, (loopBits c nb).testBit i = false → st'.wr.testBit i = false := by
        intro i hi
        rw [← hwr'] at hi
        exact (testBit_or_false hi).1
      obtain ⟨γ', hR''⟩ := hR'.head (st0 := st) (c := c) h1 (fun t ht => by rw [hs.1 t ht]; simp only [headSt, ht]) (fun i hi => by
        rw [hnb x'] at hi
        rw [hs.2.1 i (hun i hi), headSt_H (by rw [hnb x]; exact hi)])
      exact ⟨μ x', h2, x', γ', F', φ', rfl, hR''⟩
    | exit id => obtain ⟨st', F', φ', ⟨h1, _⟩, hR'⟩ := he; exact ⟨_, F', φ', h1, hR'.wrote _⟩
    | ret => obtain ⟨st', F', φ', ⟨h1, _⟩, hR'⟩ := he; exact ⟨_, F', φ', h1, hR'.wrote _⟩
    | goto l => exact he
    | panic c => exact he
    | outgrown => exact he
  | rangeFunc f ps c1 c2 _ _ => intro Q st h; simp [awp] at h
  | scope c _ => intro Q st h; simp [awp] at h
  | label l => intro Q st h; simp [awp] at h
  | goto l => intro Q st h; simp [awp] at h
  | refuse s => intro Q st h; simp [awp] at h

/-! ### Functions -/
def resOne (tmps : Array Value) : ResultVar → Sem Value
  | .tmp t => pure (tmps.getD t undef)
  | .cell a t => do loadVar t (← asAddr (tmps.getD a undef))

theorem res_sound {F : Nat → Prop} {φ : Phi} {st : St reg.T} {a : Act} {w : World} (hR : R reg B nt F φ st a w) {r : ResultVar} {v : V reg.T} (h : resV P st r = some v) :
    ∃ cv, (resOne a.tmps r).run P w = .ok cv w ∧ VRel reg F w φ v cv := by
  cases r with
  | tmp t => exact ⟨_, rfl, (hR.env t v h).2⟩
  | cell t ty =>
    simp only [resV] at h
    split at h
    · rename_i i g o ht
      split at h
      · rename_i g' vs hi
        cases hg : Nat.beq g g' with
        | false => simp [hg] at h
        | true =>
        simp only [hg] at h
        have hl : loadK P ty (valOf st.env (.tmp t)) st.H (fun v' => v' = v) := by
          show loadK P ty (st.env t) st.H _
          simp only [loadK, ht, hi, h, okK]
          exact (must_iff _ _).2 ⟨hg, trivial⟩
        obtain ⟨v', cv, rfl, h2, h3⟩ := load_sound (P := P) hR hl
        refine ⟨cv, ?_, h2⟩
        have hrel := (hR.env t _ ht).2
        have e : (resOne a.tmps (.cell t ty)) = (do loadVar ty (← asAddr (a.tmps.getD t undef))) := rfl
        have e' : a.eval (.tmp t) = a.tmps.getD t undef := rfl
        rw [e'] at h3
        rw [e]
        generalize a.tmps.getD t undef = z at hrel h3
        cases hrel with
        | ptr _ _ _ b s hp => exact h3
      · simp at h
    · simp at h

theorem mapM_sound {F : Nat → Prop} {φ : Phi} {st : St reg.T} {a : Act} {w : World} (hR : R reg B nt F φ st a w) : ∀ (rs : List ResultVar) (vs : List (V reg.T)), allSome (rs.map (resV P st)) = some vs →
    ∃ cvs : List Value, (rs.mapM (resOne a.tmps)).run P w = .ok cvs w ∧ vs.length = cvs.length ∧ ∀ j, j < vs.length → VRel reg F w φ (vs.getD j .any) (cvs.getD j undef) := by
  intro rs
  induction rs with
  | nil => intro vs h; simp [allSome] at h; subst h; exact ⟨[], rfl, rfl, fun j hj => by simp at hj⟩
  | cons r rs ih =>
    intro vs h
    simp only [List.map_cons] at h
    cases hr : resV P st r with
    | none => rw [hr] at h; simp [allSome] at h
    | some v =>
      rw [hr] at h
      simp only [allSome] at h
      cases hl : allSome (rs.map (resV P st)) with
      | none => rw [hl] at h; simp at h
      | some us =>
        rw [hl] at h
        simp only [Option.some.injEq] at h
        subst h
        obtain ⟨cv, h1, h2⟩ := res_sound hR hr
        obtain ⟨cvs, h3, h4, h5⟩ := ih us hl
        refine ⟨cv :: cvs, ?_, by simp [h4], fun j hj => ?_⟩
        · rw [List.mapM_cons, Sem.run_bind, h1]
          simp only [Result.andThen_ok, Sem.run_bind, h3]
          rfl
        · cases j with
          | zero => simpa using h2
          | succ j => simpa using h5 j (by simpa using hj)

theorem ret_sound {F : Nat → Prop} {φ : Phi} {st : St reg.T} {a : Act} {w : World} (hR : R reg B nt F φ st a w) {fn : Func} {v : V reg.T} (h : retV P fn st = some v) :
    ∃ cv, (results fn a.tmps).run P w = .ok cv w ∧ VRel reg F w φ v cv := by
  have e : results fn a.tmps = (do let vs ← fn.results.mapM (resOne a.tmps); pure (if h : vs.size = 1 then vs[0] else .tuple vs)) := by
    unfold results
    congr 1
  -- the results, one by one
  have all : ∀ us, allSome (fn.results.toList.map (resV P st)) = some us → ∃ cvs : Array Value, (fn.results.mapM (resOne a.tmps)).run P w = .ok cvs w ∧ us.length = cvs.size ∧
      ∀ j, j < us.length → VRel reg F w φ (us.getD j .any) (cvs.getD j undef) := by
    intro us hus
    obtain ⟨cvs, h1, h2, h3⟩ := mapM_sound hR fn.results.toList us hus
    refine ⟨cvs.toArray, ?_, by simpa using h2, fun j hj => by simpa [Array.getD_eq_getD_getElem?, List.getD] using h3 j hj⟩
    rw [← Array.toArray_toList (xs := fn.results), List.mapM_toArray]
    show ((List.toArray <$> fn.results.toList.mapM (resOne a.tmps) : Sem (Array Value))).run P w = _
    rw [map_eq_pure_bind, Sem.run_bind, h1]
    rfl
  unfold retV at h
  split at h
  · rename_i r hr
    obtain ⟨cvs, h1, h2, h3⟩ := all [v] (by rw [hr]; simp [allSome, h])
    refine ⟨cvs.getD 0 undef, ?_, by simpa using h3 0 (by simp)⟩
    rw [e, Sem.run_bind, h1]
    have hs : cvs.size = 1 := by simpa using h2.symm
    simp [hs, Array.getD]
  · rename_i hne
    split at h
    · rename_i us hus
      simp only [Option.some.injEq] at h
      subst h
      obtain ⟨cvs, h1, h2, h3⟩ := all us hus
      refine ⟨.tuple cvs, ?_, .tup us cvs h2 h3⟩
      rw [e, Sem.run_bind, h1]
      have hs : ¬ cvs.size = 1 := by
        intro hs
        have hl := congrArg List.length (allSome_spec hus)
        simp only [List.length_map] at hl
        obtain ⟨r, hr⟩ := List.length_eq_one_iff.1 (show fn.results.toList.length = 1 by omega)
        exact hne r hr
      simp [hs]
    · simp at h

/-- A function that takes and answers pure data: its verification condition is enough. -/
theorem pure_sound (hm : P.follows .mixedOrders = true) (hC : ∀ f S, C f = some S → CSound reg P f S) {f : FuncId} {fn : Func} (hf : P.funcs[f]? = some fn) (hb : fn.body.isNone = false)
    (hn : (fn.name == "runtime.NumGoroutine") = false) {S : PureC reg.T} (h : ∀ args p v, S args = some (p, v) → p → awpFun P C fn args (fun r => r = v)) : CSound reg P f S := by
  refine ⟨⟨fn, hf, hn, hb⟩, fun args p v hS hp hpure hvp F w cargs hF hlen hrel => ?_⟩
  have h := h args p v hS hp
  unfold awpFun at h
  cases hbody : fn.body with
  | none => rw [hbody] at h; exact h.elim
  | some c =>
    rw [hbody] at h
    simp only [hpure, Bool.true_and] at h
    cases hle : Nat.ble args.length fn.ntmps with
    | false => simp [hle] at h
    | true =>
      simp only [hle] at h
      have hle' : args.length ≤ fn.ntmps := by simpa using hle
      let B : Base := ⟨fun _ => False, w, F⟩
      have hR : R reg B fn.ntmps F (fun _ _ => none) ⟨initEnv args, fun _ => none, 0⟩ { tmps := cargs ++ Array.replicate (fn.ntmps - cargs.size) undef, defers := [] } w := by
        refine ⟨fun t x hx => ?_, by simp; omega, fun i o ho => by simp at ho, fun i o b s ho => by simp at ho, fun i j oi oj b s s' ho => by simp at ho, fun i g p hp => by simp at hp,
          fun b hb => ⟨hF b hb, .inl hb⟩, fun b hb => hb, ⟨rfl, rfl, rfl, Nat.le_refl _, fun _ _ _ => rfl⟩, rfl⟩
        simp only [initEnv] at hx
        have hlt : t < args.length := (List.getElem?_eq_some_iff.1 hx).1
        refine ⟨by omega, ?_⟩
        have h1 := hrel t hlt
        have e1 : args.getD t .any = x := by simp [List.getD, hx]
        rw [e1] at h1
        have e2 : (cargs ++ Array.replicate (fn.ntmps - cargs.size) undef).getD t undef = cargs.getD t undef := by
          have : t < cargs.size := by omega
          simp [Array.getD_eq_getD_getElem?, Array.getElem?_append, this]
        rw [e2]
        exact h1
      refine calls_of_wp hf hbody (wp_mono (awp_sound (B := B) hm hC c _ _ h hR) fun e a' w' he => ?_)
      have fin : ∀ st F' φ', retK P fn (fun r => r = v) st → R reg B fn.ntmps F' φ' st a' w' →
          a'.defers = [] ∧ ∃ cv, (results fn a'.tmps).run P w' = .ok cv w' ∧ ∃ cv' F', Ending.returned cv = Ending.returned cv' ∧ VRel reg F' w' (fun _ _ => none) v cv' ∧ Below w.heap.size w w' ∧
            (∀ b, F b → F' b) ∧ (∀ b, F' b → F b ∨ w.heap.size ≤ b) ∧ ∀ b, F' b → b < w'.heap.size := by
        intro st F' φ' hq hR'
        unfold retK at hq
        cases hr : retV P fn st with
        | none => rw [hr] at hq; exact hq.elim
        | some v' =>
          rw [hr] at hq
          simp only at hq
          cases hp' : v'.pure with
          | false => rw [hp'] at hq; exact hq.elim
          | true =>
            rw [hp'] at hq
            simp only at hq
            subst hq
            obtain ⟨cv, h1, h2⟩ := ret_sound hR' hr
            refine ⟨hR'.dfs, cv, h1, cv, F', rfl, h2.pure reg hp', ⟨hR'.fr.os, hR'.fr.tape, hR'.fr.output, hR'.fr.size, fun k hk => hR'.fr.block k hk (fun h => h)⟩, hR'.keep,
              fun b hb => ?_, fun b hb => (hR'.frz b hb).1⟩
            rcases (hR'.frz b hb).2 with h | h | h
            · exact .inl h
            · exact .inr h
            · exact h.elim
      cases e with
      | normal => obtain ⟨st, F', φ', hq, hR'⟩ := he; exact fin st F' φ' hq hR'
      | ret => obtain ⟨st, F', φ', hq, hR'⟩ := he; exact fin st F' φ' hq hR'
      | exit id => obtain ⟨st, F', φ', hq, hR'⟩ := he; exact hq.elim
      | goto l => exact he.elim
      | panic c => exact he.elim
      | outgrown => exact he.elim
end
end Go.Vs
