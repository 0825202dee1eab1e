/- Maps, and structs that are compared: that operations do to the machine what the evaluator says. No conditions. -/
import Derived.Test.YtmnkbfflpgmkmaaGreatDoorWS9
import Derived.MapKept
import Derived.Laws.StructEq
namespace Go.W
open Go Go.RowKit Go.MapKept

section
variable {reg : Reg} {P : Program}
/-- A new object, of whatever form, in a new block. -/
theorem new_ok {N F : Nat → Prop} {φ : Phi} {h : Hp reg.T} {w w' : World} {Q : V reg.T × Hp reg.T → Prop} {o : O reg.T} {v : V reg.T} {cv : Value} {s0 k0 z0 : Nat}
    (hH : HR N F φ h w) (hq : Q (v, h.new o)) (hN : ¬N h.nx) (hk : Tr.ok h.nx = true) (hos : w'.os = w.os) (htp : w'.tape = w.tape) (hout : w'.output = w.output) (hsz : w.heap.size < w'.heap.size)
    (hold : ∀ b, b < w.heap.size → w'.heap[b]? = w.heap[b]?) 
    (hobj : ∀ φ', φ' h.nx = some (w.heap.size, s0, k0, z0) → (∀ i p, φ i = some p → φ' i = some p) → ORel reg F w' φ' h.nx o)
    (hv : ∀ φ', φ' h.nx = some (w.heap.size, s0, k0, z0) → (∀ i p, φ i = some p → φ' i = some p) → VRel reg F w' φ' v cv) : Res N F φ h w Q cv w' := by
  let φ' : Phi := fun i => if i = h.nx then some (w.heap.size, s0, k0, z0) else φ i
  have e1 : φ' h.nx = some (w.heap.size, s0, k0, z0) := if_pos rfl
  have e2 : ∀ i, i ≠ h.nx → φ' i = φ i := fun i hi => if_neg hi
  have hφ : ∀ i p, φ i = some p → φ' i = some p := fun i p hp => by rw [e2 i (fun e => hN (e ▸ hH.dom i p hp))]; exact hp
  have hm : ∀ b, F b → F b ∧ w'.heap[b]? = w.heap[b]? := fun b hb => ⟨hb, hold b (hH.frz b hb)⟩
  have hg : ∀ j, (h.new o).get j = if j = h.nx then some o else h.get j := get_new hk
  have lt : ∀ j o', (h.new o).get j = some o' → j ≠ h.nx → h.get j = some o' ∧ N j := fun j o' hj hn => by
    rw [hg, if_neg hn] at hj
    exact ⟨hj, hH.lt j o' hj⟩
  refine ⟨v, h.new o, fun i => N i ∨ i = h.nx, F, φ', hq, hv φ' e1 hφ, ⟨fun j o' hj => ?_, fun j o' b s k hj hp => ?_, fun a c oa oc b s k s' k' ha hc hpa hpc => ?_, fun j p hp => ?_, fun j o' hj => ?_, fun j hj => ?_, fun b hb => Nat.lt_trans (hH.frz b hb) hsz, hH.lay.mono reg hm⟩, ⟨hos, htp, hout, Nat.le_of_lt hsz, fun b hb _ => hold b hb, fun _ hf => hf, fun _ hf => .inl hf, fun i hi => ?_, fun i hi => ?_, fun b hb => ?_, fun i p hp => ?_⟩, Grow.new hk, fun i hi => hi.imp id (fun e => by rw [new_nx]; omega)⟩
  · by_cases hj' : j = h.nx
    · subst hj'
      rw [hg, if_pos rfl] at hj
      cases hj
      exact hobj φ' e1 hφ
    · obtain ⟨h1, h2⟩ := lt j o' hj hj'
      exact (hH.obj j o' h1).mono reg hm hφ (fun hn => by rw [e2 j hj']; exact hn) (fun b s k hp => hold b (hH.own j o' b s k h1 hp).2)
  · by_cases hj' : j = h.nx
    · subst hj'
      rw [e1] at hp
      simp only [Option.some.injEq, Prod.mk.injEq] at hp
      obtain ⟨rfl, _⟩ := hp
      exact ⟨fun hf => by have := hH.frz _ hf; omega, hsz⟩
    · obtain ⟨h1, h2⟩ := lt j o' hj hj'
      rw [e2 j hj'] at hp
      have := hH.own j o' b s k h1 hp
      exact ⟨this.1, Nat.lt_trans this.2 hsz⟩
  · by_cases ha' : a = h.nx
    · by_cases hc' : c = h.nx
      · rw [ha', hc']
      · subst ha'
        obtain ⟨h1, _⟩ := lt c oc hc hc'
        rw [e1] at hpa
        rw [e2 c hc'] at hpc
        simp only [Option.some.injEq, Prod.mk.injEq] at hpa
        have := (hH.own c oc b s' k' h1 hpc).2
        omega
    · obtain ⟨h1, _⟩ := lt a oa ha ha'
      rw [e2 a ha'] at hpa
      by_cases hc' : c = h.nx
      · subst hc'
        rw [e1] at hpc
        simp only [Option.some.injEq, Prod.mk.injEq] at hpc
        have := (hH.own a oa b s k h1 hpa).2
        omega
      · obtain ⟨h2, _⟩ := lt c oc hc hc'
        rw [e2 c hc'] at hpc
        exact hH.inj a c oa oc b s k s' k' h1 h2 hpa hpc
  · by_cases hj' : j = h.nx
    · exact .inr hj'
    · rw [e2 j hj'] at hp; exact .inl (hH.dom j p hp)
  · by_cases hj' : j = h.nx
    · exact .inr hj'
    · exact .inl (lt j o' hj hj').2
  · rcases hj with hj | he
    · exact hH.ok j hj
    · rw [he]; exact hk
  · exact e2 i (fun e => hN (e ▸ hi))
  · exact .inl hi
  · obtain ⟨j, o', s, k, hj, hp⟩ := hb
    by_cases hj' : j = h.nx
    · subst hj'
      rw [e1] at hp
      simp only [Option.some.injEq, Prod.mk.injEq] at hp
      exact .inr (by omega)
    · rw [e2 j hj'] at hp
      exact .inl ⟨j, o', s, k, (lt j o' hj hj').1, hp⟩
  · by_cases hj' : i = h.nx
    · subst hj'
      rw [e1] at hp
      cases hp
      exact .inr (.inl (Nat.le_refl _))
    · rw [e2 i hj'] at hp
      exact .inl (hH.dom i p hp)

/-- An object, of whatever form, is written. -/
theorem put_ok {N F : Nat → Prop} {φ : Phi} {h : Hp reg.T} {w w' : World} {Q : V reg.T × Hp reg.T → Prop} {i b s : Nat} {k0 : Nat × Nat} {o o' : O reg.T} {v : V reg.T} {cv : Value}
    (hH : HR N F φ h w) (hi : h.get i = some o) (hp : φ i = some (b, s, k0)) (hq : Q (v, h.set i (some o'))) (hos : w'.os = w.os) (htp : w'.tape = w.tape) (hout : w'.output = w.output)
    (hsz : w'.heap.size = w.heap.size) (hold : ∀ b', b' ≠ b → w'.heap[b']? = w.heap[b']?) 
    (hobj : (∀ b', F b' → F b' ∧ w'.heap[b']? = w.heap[b']?) → ORel reg F w' φ i o') (hv : VRel reg F w φ v cv) : Res N F φ h w Q cv w' := by
  have hk := hH.ok i (hH.lt i o hi)
  have hfb := hH.own i o b s _ hi hp
  have hm : ∀ b', F b' → F b' ∧ w'.heap[b']? = w.heap[b']? := fun b' hb => ⟨hb, hold b' (fun e => hfb.1 (e ▸ hb))⟩
  have hg : ∀ j, (h.set i (some o')).get j = if j = i then some o' else h.get j := get_setH hk
  have lt : ∀ j oj, (h.set i (some o')).get j = some oj → ∃ oj', h.get j = some oj' ∧ (j ≠ i → oj' = oj) := fun j oj hj => by
    rw [hg] at hj
    split at hj
    · rename_i e; exact ⟨o, e ▸ hi, fun hn => absurd e hn⟩
    · exact ⟨oj, hj, fun _ => rfl⟩
  refine ⟨v, _, N, F, φ, hq, hv.mono reg hm (fun _ _ e => e), ⟨fun j oj hj => ?_, fun j oj b' s' k' hj hp' => ?_, fun a c oa oc b' s' k' s'' k'' ha hc hpa hpc => ?_, hH.dom, fun j oj hj => ?_, hH.ok, fun b' hb => hsz ▸ hH.frz b' hb, hH.lay.mono reg hm⟩,
    ⟨hos, htp, hout, Nat.le_of_eq hsz.symm, fun b' _ hn => hold b' (fun e => hn ⟨i, o, s, _, hi, e ▸ hp⟩), fun _ hf => hf, fun _ hf => .inl hf, fun _ _ => rfl, fun _ hx => hx, fun b' ⟨j, oj, s', k', hj, hp'⟩ => ?_, fun j p hp' => .inl (hH.dom j p hp')⟩, Grow.set hk, fun _ hx => .inl hx⟩
  · by_cases hji : j = i
    · subst hji
      rw [hg, if_pos rfl] at hj
      cases hj
      exact hobj hm
    · rw [hg, if_neg hji] at hj
      exact (hH.obj j oj hj).mono reg hm (fun _ _ e => e) (fun e => e) (fun b' s' k' hp' => hold b' (fun e => hji (hH.inj j i oj o b' s' k' s _ hj hi hp' (e ▸ hp))))
  · obtain ⟨oj', h1, _⟩ := lt j oj hj
    have := hH.own j oj' b' s' k' h1 hp'
    exact ⟨this.1, hsz ▸ this.2⟩
  · obtain ⟨oa', h1, _⟩ := lt a oa ha
    obtain ⟨oc', h2, _⟩ := lt c oc hc
    exact hH.inj a c oa' oc' b' s' k' s'' k'' h1 h2 hpa hpc
  · obtain ⟨oj', h1, _⟩ := lt j oj hj
    exact hH.lt j oj' h1
  · obtain ⟨oj', h1, _⟩ := lt j oj hj
    exact .inl ⟨j, oj', s', k', h1, hp'⟩


variable {N F : Nat → Prop} {φ : Phi} {h : Hp reg.T} {w : World}

theorem mapT_eq {t kt et : TypeId} (h : mapT P t = some (kt, et)) : P.underlying t = some (.map kt et) := by
  unfold mapT at h
  split at h
  · rename_i k e hu; cases h; exact hu
  · cases h

theorem zeroV_rel {t : TypeId} {v : V reg.T} (h : zeroV P t = some v) : ∃ i z, P.info? t = some i ∧ i.zero = some z ∧ ∀ {F : Nat → Prop} {w : World} {φ : Phi}, VRel reg F w φ v z := by
  unfold zeroV at h
  split at h
  · rename_i i hi
    split at h
    · rename_i cs vs hz hv
      cases h
      refine ⟨i, _, hi, hz, fun {F w φ} => ?_⟩
      obtain ⟨i', z', h1, h2, h3, h4⟩ := zeroT_rel (F := F) (w := w) (φ := φ) hv
      rw [hi] at h1; cases h1
      rw [hz] at h2; cases h2
      exact .agg vs cs h3 (fun j hj => (h4 j hj).1)
    · cases h
    · rename_i zc v' hna hnt hz hv
      cases h
      refine ⟨i, zc, hi, hz, fun {F w φ} => ?_⟩
      obtain ⟨i', z', h1, h2, h3, h4⟩ := zeroT_rel (F := F) (w := w) (φ := φ) hv
      obtain rfl := Option.some.inj (hi.symm.trans h1)
      obtain rfl := Option.some.inj (hz.symm.trans h2)
      have e : zc.cells = #[zc] := by
        cases zc <;> first | rfl | exact (hna _ rfl).elim
      have := (h4 0 (by simp)).1
      rw [e] at this
      exact this
    · cases h
  · cases h

theorem keyable_spec {kt : TypeId} {k : V reg.T} {c : Value} (h : keyable P kt k = true) (hk : VRel reg F w φ k c) : ∃ d, P.underlying kt = some d ∧ IsKey d c := by
  unfold keyable at h
  split at h
  · rename_i k1 k2 n hu
    rw [hk.int_inv]
    exact ⟨_, hu, (sameKind_eq h).symm⟩
  · rename_i s hu
    rw [hk.str_inv]
    exact ⟨_, hu, trivial⟩
  · rename_i b hu
    rw [hk.bool_inv]
    exact ⟨_, hu, trivial⟩
  · cases h

theorem keyEq_spec {k k' : V reg.T} {c c' : Value} {b : Bool} {d : TypeDesc} (h : keyEq k k' = some b) (hk : VRel reg F w φ k c) (hk' : VRel reg F w φ k' c') (hd : IsKey d c) : Instr.sameNow d c c' = some b ∧ (b = true → c' = c) := by
  unfold keyEq at h
  split at h
  · rename_i a x a' y
    rw [hk.int_inv] at hd ⊢
    rw [hk'.int_inv]
    split at h
    · rename_i hs
      have hs := sameKind_eq hs
      subst hs
      cases h
      cases d <;> simp only [IsKey] at hd <;> (try exact hd.elim)
      refine ⟨by simp [Instr.sameNow], fun hb => ?_⟩
      have : x = y := by simpa using hb
      rw [this]
    · cases h
  · rename_i s t
    rw [hk.str_inv] at hd ⊢
    rw [hk'.str_inv]
    cases h
    cases d <;> simp only [IsKey] at hd <;> (try exact hd.elim)
    have e : ((⟨s.toArray⟩ : ByteArray) == ⟨t.toArray⟩) = (s == t) := by
      rw [Bool.eq_iff_iff, bytes_beq]
      simp
    refine ⟨by simp [Instr.sameNow, e], fun hb => ?_⟩
    have : s = t := by simpa using hb
    rw [this]
  · rename_i a b'
    rw [hk.bool_inv] at hd ⊢
    rw [hk'.bool_inv]
    cases h
    cases d <;> simp only [IsKey] at hd <;> (try exact hd.elim)
    refine ⟨by simp [Instr.sameNow], fun hb => ?_⟩
    have : a = b' := by simpa using hb
    rw [this]
  · cases h

theorem mapFind_ok {β : Type} {k : V reg.T} {c : Value} {d : TypeDesc} (hk : VRel reg F w φ k c) (hd : IsKey d c) {Q : β → Prop} : ∀ {es : List ((V reg.T × V reg.T) × Nat)} {cs : List MapEntry}, Ents reg F w φ es cs → ∀ (j : Nat) (found : Nat → V reg.T → Nat → Out β) (none' : Out β), (mapFind k es j found none').K Q →
    (Instr.findNow d c cs j = some none ∧ none'.K Q) ∨ ∃ i e v n, Instr.findNow d c cs j = some (some (j + i, e.val)) ∧ cs[i]? = some e ∧ e.key = c ∧ VRel reg F w φ v e.val ∧ e.born = n ∧ (found (j + i) v n).K Q := by
  intro es cs he
  induction he with
  | nil => intro j found none' hq; exact .inl ⟨rfl, hq⟩
  | cons k' v n e es cs hk' hv hn _ ih =>
    intro j found none' hq
    simp only [mapFind] at hq
    split at hq
    · rename_i b hb
      obtain ⟨h1, h2⟩ := keyEq_spec hb hk hk' hd
      simp only [Out.K, branch_iff] at hq
      cases b with
      | true => exact .inr ⟨0, e, v, n, by simp [Instr.findNow, h1], rfl, h2 rfl, hv, hn, hq.1 rfl⟩
      | false =>
        rcases ih (j + 1) found none' (hq.2 rfl) with ⟨h3, h4⟩ | ⟨i, e', v', n', h3, h4, h5, h6, h7, h8⟩
        · exact .inl ⟨by simp [Instr.findNow, h1, h3], h4⟩
        · refine .inr ⟨i + 1, e', v', n', ?_, by simpa using h4, h5, h6, h7, ?_⟩
          · simp only [Instr.findNow, h1, h3]; congr 3; omega
          · rwa [show j + (i + 1) = j + 1 + i by omega]
    · exact hq.elim

theorem Ents.setVal {v : V reg.T} {cv : Value} (hv : VRel reg F w φ v cv) (f : MapEntry → MapEntry) (hf : ∀ e, (f e).val = cv ∧ (f e).born = e.born) : ∀ {es : List ((V reg.T × V reg.T) × Nat)} {cs : List MapEntry}, Ents reg F w φ es cs → ∀ (i : Nat), (∀ e, cs[i]? = some e → (f e).key = e.key) → Ents reg F w φ (setVal i v es) (cs.modify i f) := by
  intro es cs he
  induction he with
  | nil => intro i _; simp only [Go.W.setVal, List.modify_nil]; exact .nil
  | cons k' v' n e es cs hk' hv' hn ht ih =>
    intro i hi
    cases i with
    | zero =>
      simp only [Go.W.setVal, List.modify_zero_cons]
      exact .cons k' v n (f e) es cs (by rw [hi e rfl]; exact hk') (by rw [(hf e).1]; exact hv) (by rw [(hf e).2]; exact hn) ht
    | succ i =>
      simp only [Go.W.setVal, List.modify_succ_cons]
      exact .cons k' v' n e _ _ hk' hv' hn (ih i (fun e' he' => hi e' (by simpa using he')))

theorem Ents.push {k v : V reg.T} {c : MapEntry} (hk : VRel reg F w φ k c.key) (hv : VRel reg F w φ v c.val) : ∀ {es : List ((V reg.T × V reg.T) × Nat)} {cs : List MapEntry}, Ents reg F w φ es cs → Ents reg F w φ (es ++ [((k, v), c.born)]) (cs ++ [c]) := by
  intro es cs he
  induction he with
  | nil => exact .cons k v _ c [] [] hk hv rfl .nil
  | cons k' v' n e es cs hk' hv' hn _ ih => exact .cons k' v' n e _ _ hk' hv' hn ih

theorem Ents.length {es : List ((V reg.T × V reg.T) × Nat)} {cs : List MapEntry} (h : Ents reg F w φ es cs) : es.length = cs.length := by
  induction h with
  | nil => rfl
  | cons _ _ _ _ _ _ _ _ _ _ ih => simp [ih]

theorem findBorn_ok {n : Int} : ∀ {es : List ((V reg.T × V reg.T) × Nat)} {cs : List MapEntry}, Ents reg F w φ es cs → ∀ (j i : Nat), findBorn n es j = some i → ∃ q, i = j + q ∧ cs.findIdx? (fun e => (e.born : Int) == n) = some q := by
  intro es cs he
  induction he with
  | nil => intro j i h; cases h
  | cons k' v' m e es cs hk' hv' hn _ ih =>
    intro j i h
    simp only [findBorn] at h
    split at h
    · rename_i hb
      cases h
      exact ⟨0, rfl, by rw [List.findIdx?_cons, hn, hb]; rfl⟩
    · rename_i hb
      obtain ⟨q, h1, h2⟩ := ih (j + 1) i h
      exact ⟨q + 1, by omega, by rw [List.findIdx?_cons, hn, hb]; simp [h2]⟩

/-- A map, and its block. -/
theorem map_at {i c : Nat} {es : List ((V reg.T × V reg.T) × Nat)} {cv : Value} (hH : HR N F φ h w) (hi : h.get i = some (.map c es)) (hv : VRel reg F w φ (.mp i) cv) :
    ∃ b ces, cv = .map (some b) ∧ φ i = some (b, 0, 0, 0) ∧ w.heap[b]? = some (.map ces c) ∧ Ents reg F w φ es ces.toList := by
  obtain ⟨b, ces, h1, h2, h3⟩ := (hH.obj i _ hi).map reg
  cases hv with
  | mp _ b' s hp =>
    rw [h1] at hp
    cases hp
    exact ⟨b, ces, rfl, h1, h2, h3⟩

theorem makeMapG_ok {t : TypeId} {r : Option Value} {Q : V reg.T × Hp reg.T → Prop} (hH : HR N F φ h w) (hfr : ∀ r, Q r → Fresh N h.nx r.2.nx) (hq : (makeMapG P t h).K Q) (hr : r = none ∨ ∃ k n, r = some (.int k n)) : OpOk P N F φ h w (Instr.makeMap t r) Q := by
  unfold makeMapG at hq
  split at hq
  · rename_i p hp
    obtain ⟨kt, et⟩ := p
    have ht := mapT_eq hp
    obtain ⟨hok, hq⟩ := K_newO hq
    have hrun : (Instr.makeMap t r).run P w = .ok (.map (some w.heap.size)) (w.alloc (.map #[] 0)) := by
      rcases hr with rfl | ⟨k, n, rfl⟩
      · rfl
      · simp [Instr.makeMap, run_underlying ht, asInt, asIntOf, Result.andThen]
    refine ⟨_, _, hrun, new_ok (s0 := 0) (k0 := 0) (z0 := 0) hH hq (fresh_new hfr hq) hok rfl rfl rfl (by simp) (fun b hb => ?_) (fun φ' e1 _ => ?_) (fun φ' e1 _ => .mp _ _ _ e1)⟩
    · show (w.heap.push _)[b]? = _
      rw [Array.getElem?_push, if_neg (by omega)]
    · exact .inr (.inl ⟨0, [], _, #[], rfl, e1, heap_alloc_new w _, .nil⟩)
  · exact hq.elim

theorem okV_rel {ok : Bool} {v : V reg.T} {cv : Value} {b : Bool} (hv : VRel reg F w φ v cv) : VRel reg F w φ (okV ok v b) (if ok then .tuple #[cv, .bool b] else cv) := by
  cases ok with
  | false => exact hv
  | true =>
    refine .tup _ _ rfl (fun j hj => ?_)
    match j, hj with
    | 0, _ => exact hv
    | 1, _ => exact .d _ _ (.bool b)

theorem lookupG_ok {t : TypeId} {x k : V reg.T} {cx ck : Value} {ok : Bool} {Q : V reg.T × Hp reg.T → Prop} (hH : HR N F φ h w) (hq : (lookupG P t x k ok h).K Q) (hx : VRel reg F w φ x cx) (hk : VRel reg F w φ k ck) : OpOk P N F φ h w (Instr.lookup t cx ck ok) Q := by
  unfold lookupG at hq
  split at hq
  · rename_i kt et hm
    have ht := mapT_eq hm
    split at hq
    · rename_i z hz
      obtain ⟨inf, zv, hi, hzz, hzr⟩ := zeroV_rel hz
      have hzrun : (zeroValue et).run P w = .ok zv w := by simp [zeroValue, typeInfo, hi, hzz]
      split at hq
      · obtain ⟨hkb, hq⟩ := Out.K_ask.1 hq
        obtain ⟨d, hd, hik⟩ := keyable_spec hkb hk
        have hcx : cx = .map none := by cases hx with | d _ _ h => cases h with
          | nilm => rfl
          | emp _ hx => cases hx
          | sl _ _ _ _ _ _ _ hx => cases hx
        subst hcx
        refine ⟨_, w, ?_, .pure hH hq (okV_rel (hzr (F := F) (w := w) (φ := φ)))⟩
        have hf : Instr.findNow d ck [] 0 = some none := rfl
        simp [Instr.lookup, run_underlying ht, run_checkKey hd hik, run_findKey hd hf, hzrun, Result.andThen]
      · rename_i i
        split at hq
        · rename_i c es hget
          obtain ⟨hkb, hq⟩ := Out.K_ask.1 hq
          obtain ⟨d, hd, hik⟩ := keyable_spec hkb hk
          obtain ⟨b, ces, rfl, hp, hb, he⟩ := map_at hH hget hx
          rcases mapFind_ok hk hik he 0 _ _ hq with ⟨h1, h2⟩ | ⟨j, e, v, n, h1, h2, h3, h4, h5, h6⟩
          · refine ⟨_, w, ?_, .pure hH h2 (okV_rel (hzr (F := F) (w := w) (φ := φ)))⟩
            simp [Instr.lookup, run_underlying ht, MapKept.run_getObj_map hb, run_checkKey hd hik, run_findKey hd h1, hzrun, Result.andThen]
          · refine ⟨_, w, ?_, .pure hH h6 (okV_rel h4)⟩
            simp [Instr.lookup, run_underlying ht, MapKept.run_getObj_map hb, run_checkKey hd hik, run_findKey hd h1, Result.andThen]
        · exact hq.elim
      · exact hq.elim
    · exact hq.elim
  · exact hq.elim

/-- A map is written. -/
theorem map_put {i b c c' : Nat} {es es' : List ((V reg.T × V reg.T) × Nat)} {ces ces' : Array MapEntry} {v : V reg.T} {cv : Value} {Q : V reg.T × Hp reg.T → Prop} (hH : HR N F φ h w) (hi : h.get i = some (.map c es)) (hp : φ i = some (b, 0, 0, 0)) (hb : w.heap[b]? = some (.map ces c))
    (hq : Q (v, h.set i (some (.map c' es')))) (he : Ents reg F w φ es' ces'.toList) (hv : VRel reg F w φ v cv) : Res N F φ h w Q cv { w with heap := w.heap.setIfInBounds b (.map ces' c') } := by
  have hs := heap_set (o' := Obj.map ces' c') hb
  refine put_ok hH hi hp hq rfl rfl rfl (by simp) (fun b' hne => hs.2 b' hne) (fun hm => .inr (.inl ⟨c', es', b, ces', rfl, hp, hs.1, he.mono reg hm (fun _ _ e => e)⟩)) hv

theorem mapUpdateG_ok {t : TypeId} {x k v : V reg.T} {cx ck cv : Value} {Q : V reg.T × Hp reg.T → Prop} (hH : HR N F φ h w) (hq : (mapUpdateG P t x k v h).K Q) (hx : VRel reg F w φ x cx) (hk : VRel reg F w φ k ck) (hv : VRel reg F w φ v cv) :
    ∃ w', (Instr.mapUpdate t cx ck cv).run P w = .ok () w' ∧ Res N F φ h w Q undef w' := by
  unfold mapUpdateG at hq
  split at hq
  · rename_i kt et i hm
    have ht := mapT_eq hm
    split at hq
    · rename_i c es hget
      obtain ⟨hkb, hq⟩ := Out.K_ask.1 hq
      obtain ⟨d, hd, hik⟩ := keyable_spec hkb hk
      obtain ⟨b, ces, rfl, hp, hb, he⟩ := map_at hH hget hx
      rcases mapFind_ok hk hik he 0 _ _ hq with ⟨h1, h2⟩ | ⟨j, e, v', n, h1, h2, h3, h4, h5, h6⟩
      · refine ⟨_, ?_, map_put (ces' := ces.push { key := ck, val := cv, born := c }) hH hget hp hb h2 ?_ .undef⟩
        · simp [Instr.mapUpdate, run_underlying ht, MapKept.run_getObj_map hb, run_checkKey hd hik, run_findKey hd h1, run_setObj_map _ hb, Result.andThen]
        · rw [Array.toList_push]
          exact he.push (c := { key := ck, val := cv, born := c }) hk hv
      · have hj : ces[j]? = some e := by simpa using h2
        rw [Nat.zero_add] at h1 h6
        refine ⟨_, ?_, map_put (ces' := ces.modify j fun e => { e with key := ck, val := cv }) hH hget hp hb h6 ?_ .undef⟩
        · simp [Instr.mapUpdate, run_underlying ht, MapKept.run_getObj_map hb, run_checkKey hd hik, run_findKey hd h1, hj, h3, run_keyThatStays hik, run_setObj_map _ hb, Result.andThen]
        · rw [Array.toList_modify]
          exact he.setVal hv (fun e => { e with key := ck, val := cv }) (fun e => ⟨rfl, rfl⟩) j (fun e' he' => by rw [h2] at he'; cases he'; exact h3.symm)
    · exact hq.elim
  · exact hq.elim

theorem mapEntryG_ok {t : TypeId} {x k : V reg.T} {cx ck : Value} {Q : V reg.T × Hp reg.T → Prop} (hH : HR N F φ h w) (hq : (mapEntryG P t x k h).K Q) (hx : VRel reg F w φ x cx) (hk : VRel reg F w φ k ck) : OpOk P N F φ h w (Instr.mapEntry t cx ck) Q := by
  unfold mapEntryG at hq
  split at hq
  · rename_i kt et i hm
    have ht := mapT_eq hm
    split at hq
    · rename_i z c es hz hget
      obtain ⟨hkb, hq⟩ := Out.K_ask.1 hq
      obtain ⟨d, hd, hik⟩ := keyable_spec hkb hk
      obtain ⟨inf, zv, hi, hzz, hzr⟩ := zeroV_rel hz
      have hzrun : (zeroValue et).run P w = .ok zv w := by simp [zeroValue, typeInfo, hi, hzz]
      obtain ⟨b, ces, rfl, hp, hb, he⟩ := map_at hH hget hx
      have two : ∀ {v : V reg.T} {cv : Value} {n : Nat}, VRel reg F w φ v cv → VRel reg F w φ (.tup [v, .d (.int .i64 (n : Int))]) (.tuple #[cv, goInt n]) := by
        intro v cv n hv
        refine .tup _ _ rfl (fun j hj => ?_)
        match j, hj with
        | 0, _ => exact hv
        | 1, _ => exact .d _ _ (.int _ _)
      rcases mapFind_ok hk hik he 0 _ _ hq with ⟨h1, h2⟩ | ⟨j, e, v', n, h1, h2, h3, h4, h5, h6⟩
      · refine ⟨_, _, ?_, map_put (ces' := ces.push { key := ck, val := zv, born := c }) hH hget hp hb h2 ?_ (two hzr)⟩
        · simp [Instr.mapEntry, run_underlying ht, MapKept.run_getObj_map hb, run_checkKey hd hik, run_findKey hd h1, hzrun, run_setObj_map _ hb, Result.andThen]
        · rw [Array.toList_push]
          exact he.push (c := { key := ck, val := zv, born := c }) hk hzr
      · have hj : ces[j]? = some e := by simpa using h2
        rw [Nat.zero_add] at h1
        have hsame : (ces.modify j fun e => { e with key := ck }) = ces := by
          apply Array.ext_getElem?
          intro q
          rw [Array.getElem?_modify]
          by_cases e1 : j = q
          · subst e1; rw [if_pos rfl, hj]; simp [← h3]
          · rw [if_neg e1]
        have hheap : ({ w with heap := w.heap.setIfInBounds b (.map (ces.modify j fun e => { e with key := ck }) c) } : World) = w := by
          rw [hsame]
          have : w.heap.setIfInBounds b (.map ces c) = w.heap := by
            apply Array.ext_getElem?
            intro q
            rw [Array.getElem?_setIfInBounds]
            by_cases e1 : b = q
            · subst e1; rw [if_pos rfl, hb]; simp [(Array.getElem?_eq_some_iff.1 hb).1]
            · rw [if_neg e1]
          rw [this]
        refine ⟨_, w, ?_, .pure hH h6 (two h4)⟩
        have hrun : (Instr.mapEntry t (.map (some b)) ck).run P w = .ok (.tuple #[e.val, goInt e.born]) { w with heap := w.heap.setIfInBounds b (.map (ces.modify j fun e => { e with key := ck }) c) } := by
          simp [Instr.mapEntry, run_underlying ht, MapKept.run_getObj_map hb, run_checkKey hd hik, run_findKey hd h1, hj, h3, run_keyThatStays hik, run_setObj_map _ hb, Result.andThen]
        rw [hrun, hheap, h5]
    · exact hq.elim
  · exact hq.elim

theorem entryStoreG_ok {t : TypeId} {x n v : V reg.T} {cx cn cv : Value} {Q : V reg.T × Hp reg.T → Prop} (hH : HR N F φ h w) (hq : (entryStoreG x n v h).K Q) (hx : VRel reg F w φ x cx) (hn : VRel reg F w φ n cn) (hv : VRel reg F w φ v cv) :
    ∃ w', (Instr.entryStore t cx cn cv).run P w = .ok () w' ∧ Res N F φ h w Q undef w' := by
  unfold entryStoreG at hq
  split at hq
  · rename_i i k m
    rw [hn.int_inv]
    split at hq
    · rename_i c es hget
      split at hq
      · rename_i j hj
        obtain ⟨b, ces, rfl, hp, hb, he⟩ := map_at hH hget hx
        obtain ⟨q, h1, h2⟩ := findBorn_ok he 0 j hj
        rw [Nat.zero_add] at h1
        subst h1
        have h3 : ces.findIdx? (fun e => (e.born : Int) == m) = some j := by rw [← h2, ← List.findIdx?_toArray]
        refine ⟨_, ?_, map_put (ces' := ces.modify j fun e => { e with val := cv }) hH hget hp hb hq ?_ .undef⟩
        · simp [Instr.entryStore, MapKept.run_getObj_map hb, asInt, asIntOf, h3, run_setObj_map _ hb, Result.andThen]
        · rw [Array.toList_modify]
          exact he.setVal hv (fun e => { e with val := cv }) (fun e => ⟨rfl, rfl⟩) j (fun _ _ => rfl)
      · exact hq.elim
    · exact hq.elim
  · exact hq.elim

/-! ### Texts that are ranged over -/
theorem rangeG_ok {t : TypeId} {x : V reg.T} {cx : Value} {Q : V reg.T × Hp reg.T → Prop} (hH : HR N F φ h w) (hfr : ∀ r, Q r → Fresh N h.nx r.2.nx) (hq : (rangeG P t x h).K Q) (hx : VRel reg F w φ x cx) : OpOk P N F φ h w (Instr.range t cx) Q := by
  unfold rangeG at hq
  split at hq
  · rename_i s ht
    obtain ⟨hok, hq⟩ := K_newO hq
    have ht : P.underlying t = some .string := by
      unfold isStrT at ht
      split at ht
      · assumption
      · cases ht
    rw [hx.str_inv]
    refine ⟨_, w.alloc (.stringIter ⟨s.toArray⟩ 0), ?_, new_ok (s0 := 0) (k0 := 0) (z0 := 0) hH hq (fresh_new hfr hq) hok rfl rfl rfl (by simp) (fun b hb => ?_) (fun φ' e1 _ => ?_) (fun φ' e1 _ => .it _ _ _ e1)⟩
    · simp [Instr.range, run_underlying ht, Result.andThen]
    · show (w.heap.push _)[b]? = _
      rw [Array.getElem?_push, if_neg (by omega)]
    · exact .inr (.inr ⟨s, 0, _, rfl, e1, heap_alloc_new w _⟩)
  · exact hq.elim

theorem nextG_ok {x : V reg.T} {isString : Bool} {cx : Value} {ty : TypeId} {Q : V reg.T × Hp reg.T → Prop} (hH : HR N F φ h w) (hq : (nextG x isString h).K Q) (hx : VRel reg F w φ x cx) : OpOk P N F φ h w (Instr.next cx isString ty) Q := by
  unfold nextG at hq
  split at hq
  · rename_i i
    split at hq
    · rename_i s pos hget
      obtain ⟨b, hp, hb⟩ := (hH.obj i _ hget).sit reg
      cases hx with
      | it _ b' p' hp' =>
        rw [hp] at hp'
        simp only [Option.some.injEq, Prod.mk.injEq] at hp'
        obtain ⟨rfl, -⟩ := hp'
        have hg : (getObj b).run P w = .ok (.stringIter ⟨s.toArray⟩ pos) w := by simp [getObj, Sem.run, hb]
        have hs : ∀ o, (setObj b o).run P w = .ok () { w with heap := w.heap.setIfInBounds b o } := fun o => by simp [setObj, Sem.run, hb]
        have hsz : (⟨s.toArray⟩ : ByteArray).size = s.length := by simp [ByteArray.size]
        simp only [Out.K, branch_iff] at hq
        by_cases hlt : pos < s.length
        · have h1 : Nat.blt pos s.length = true := Nat.ble_eq_true_of_le hlt
          obtain ⟨h2, hq⟩ := (must_iff _ _).1 (hq.1 h1)
          have h2 : (s.getD pos 0).toNat < 128 := Nat.le_of_ble_eq_true h2
          have hget0 : (⟨s.toArray⟩ : ByteArray).get! pos = s.getD pos 0 := by
            simp [ByteArray.get!, List.getD, hlt]
          have hdec : Utf8.decode ⟨s.toArray⟩ pos = ((s.getD pos 0).toNat, 1) := by
            unfold Utf8.decode
            simp only [Nat.add_zero, hget0]
            rw [if_pos h2]
          refine ⟨.tuple #[.bool true, goInt pos, .int .i32 ((s.getD pos 0).toNat : Int)], { w with heap := w.heap.setIfInBounds b (.stringIter ⟨s.toArray⟩ (pos + 1)) }, ?_, put_ok hH hget hp hq rfl rfl rfl (by simp) (fun b' hb' => ?_) (fun _ => ?_) ?_⟩
          · simp [Instr.next, hg, hs, hsz, hlt, hdec, Result.andThen]
          · show (w.heap.setIfInBounds b _)[b']? = _
            rw [Array.getElem?_setIfInBounds, if_neg (Ne.symm hb')]
          · refine .inr (.inr ⟨s, pos + 1, b, rfl, hp, ?_⟩)
            show (w.heap.setIfInBounds b _)[b]? = _
            rw [Array.getElem?_setIfInBounds, if_pos rfl, if_pos (Array.getElem?_eq_some_iff.1 hb).1]
          · refine .tup _ _ rfl (fun j hj => ?_)
            match j, hj with
            | 0, _ => exact .d _ _ (.bool true)
            | 1, _ => exact .d _ _ (.int _ _)
            | 2, _ => exact .d _ _ (.int _ _)
        · have h1 : Nat.blt pos s.length = false := by
            cases hb : Nat.blt pos s.length with
            | false => rfl
            | true => exact absurd (Nat.le_of_ble_eq_true hb) hlt
          refine ⟨.tuple #[.bool false], w, ?_, .pure hH (hq.2 h1) ?_⟩
          · simp [Instr.next, hg, hsz, hlt, Result.andThen]
          · refine .tup _ _ rfl (fun j hj => ?_)
            match j, hj with
            | 0, _ => exact .d _ _ (.bool false)
    · exact hq.elim
  · exact hq.elim

/-! ### Structs that are compared -/
theorem eqFs_ok {n d : Nat} (ih : ∀ {t : TypeId} {x y : V reg.T} {b : Bool}, eqT P n t x y = some b → ∀ {cx cy : Value}, VRel reg F w φ x cx → VRel reg F w φ y cy → (Op.equalIn d t cx cy).run P w = .ok b w) {xs ys : List (V reg.T)} {cs ds : Array Value}
    (hz : xs.length = cs.size) (hr : ∀ j, j < xs.length → VRel reg F w φ (xs.getD j .any) (cs.getD j undef)) (hz' : ys.length = ds.size) (hr' : ∀ j, j < ys.length → VRel reg F w φ (ys.getD j .any) (ds.getD j undef)) :
    ∀ {fs : List Field} {b : Bool}, eqFs P (eqT P n) xs ys fs = some b → (Op.eqFields d cs ds fs).run P w = .ok b w := by
  intro fs
  induction fs with
  | nil => intro b h; cases h; rfl
  | cons f fs ihf =>
    intro b h
    simp only [eqFs] at h
    split at h
    · rename_i a c hn ha hc
      split at h
      · rename_i p q hp hq
        cases h
        obtain ⟨ca, h1, h2⟩ := part_ok hz hr ha
        obtain ⟨cc, h3, h4⟩ := part_ok hz' hr' hc
        have h5 := ih hp h2 h4
        have h6 := ihf hq
        have hn : f.name ≠ "_" := by simpa using hn
        simp only [Op.eqFields, if_pos hn, Sem.run_bind, h1, h3, h5, Result.andThen_ok]
        cases p with
        | true => simpa using h6
        | false => simp
      · cases h
    · cases h

theorem eqT_ok : ∀ (n : Nat) {d : Nat} {t : TypeId} {x y : V reg.T} {b : Bool}, n ≤ d → eqT P n t x y = some b → ∀ {cx cy : Value}, VRel reg F w φ x cx → VRel reg F w φ y cy → (Op.equalIn d t cx cy).run P w = .ok b w := by
  intro n
  induction n with
  | zero => intro d t x y b _ h; cases h
  | succ n ih =>
    intro d t x y b hd h cx cy hx hy
    obtain ⟨d, rfl⟩ : ∃ e, d = e + 1 := ⟨d - 1, by omega⟩
    simp only [eqT] at h
    split at h
    · rename_i fs xs ys hu
      split at h
      · cases h
      · rename_i hs
        cases hx with
        | agg _ cs hz hr =>
          cases hy with
          | agg _ ds hz' hr' =>
            have hf : P.fieldsOf t = fs := by simp [Program.fieldsOf, hu]
            rw [run_equalIn_struct w d t cs ds (by rw [hf]; exact hu) hs, hf]
            exact eqFs_ok (fun h => ih (by omega) h) hz hr hz' hr' h
    · rename_i k a x b' y hu
      rw [hx.int_inv, hy.int_inv]
      split at h
      · rename_i hk
        rw [sameKind_eq hk]
        cases h
        exact run_equalIn_int w d t _ _ x y hu
      · cases h
    · rename_i s u hu
      rw [hx.str_inv, hy.str_inv]
      cases h
      rw [run_equalIn_string w d t _ _ hu]
      congr 1
      simp [ByteArray.toList_eq]
    · rename_i a b' hu
      rw [hx.bool_inv, hy.bool_inv]
      cases h
      exact run_equalIn_bool' w d t a b' hu
    · cases h

theorem eqG_ok {op : BinOp} {t : TypeId} {xs ys : List (V reg.T)} {cx cy : Value} {Q : V reg.T × Hp reg.T → Prop} (hH : HR N F φ h w) (hq : (eqG P op t (.agg xs) (.agg ys) h).K Q) (hx : VRel reg F w φ (.agg xs) cx) (hy : VRel reg F w φ (.agg ys) cy) (ox oy : Operand) :
    OpOk P N F φ h w (do eqGuard op t ox oy cx cy; binOp op t cx cy) Q := by
  unfold eqG at hq
  split at hq
  · rename_i b hg hb
    have h1 := eqT_ok 8 (d := 10000) (by omega) hb hx hy
    cases hx with
    | agg _ cs hz hr =>
      cases hy with
      | agg _ ds hz' hr' =>
        refine ⟨_, w, ?_, .pure hH hq (.d _ _ (.bool b))⟩
        simp only [Sem.run_bind, run_eqGuard_agg w .eql t ox oy cs ds hg, Result.andThen_ok, run_eql_struct, h1]
  · rename_i b hg hb
    have h1 := eqT_ok 8 (d := 10000) (by omega) hb hx hy
    cases hx with
    | agg _ cs hz hr =>
      cases hy with
      | agg _ ds hz' hr' =>
        refine ⟨_, w, ?_, .pure hH hq (.d _ _ (.bool (!b)))⟩
        simp only [Sem.run_bind, run_eqGuard_agg w .neq t ox oy cs ds hg, Result.andThen_ok, run_neq_struct, h1]
  · exact hq.elim
end
end Go.W
