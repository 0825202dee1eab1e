/- That regions do what the evaluator says. No conditions. -/
import Derived.Test.YtmnkbfflpgmkmaaGreatDoorWO
namespace Go.W
open Go Go.RowKit

section
variable {reg : Reg} {P : Program} {dl : List Deferred}

/-- A state, at the machine. -/
structure RF (dl : List Deferred) (N F : Nat → Prop) (φ : Phi) (nt : Nat) (s : FS reg.T) (a : Act) (w : World) : Prop where
  env : ∀ t v, s.env t = some v → t < nt ∧ VRel reg F w φ v (a.tmps.getD t undef)
  size : a.tmps.size = nt
  heap : HRel reg F φ N s.H w
  dfs : a.defers = dl

theorem HRel.sub {F : Nat → Prop} {φ : Phi} {N : Nat → Prop} {H H' : Nat → Option (O reg.T)} {w : World} (h : HRel reg F φ N H w) (hs : ∀ i o, H' i = some o → H i = some o) : HRel reg F φ N H' w :=
  ⟨fun i o ho => h.obj i o (hs i o ho), fun i o b s k ho hp => h.own i o b s k (hs i o ho) hp, fun i j oi oj b s k s' k' hi hj => h.inj i j oi oj b s k s' k' (hs _ _ hi) (hs _ _ hj), h.dom, fun i o ho => h.lt i o (hs i o ho), h.ok, h.frz, h.lay⟩

theorem okPart_spec {l wr : List Nat} {n0 n1 : Nat} (h : okPart l wr n0 n1 = true) : n0 ≤ n1 ∧ Tr.ok n1 = true ∧ (∀ i ∈ l, Tr.ok i = true) ∧ ∀ i ∈ wr, i ∈ l ∨ (n0 ≤ i ∧ i < n1) := by
  unfold okPart at h
  simp only [Bool.and_eq_true, List.all_eq_true, Bool.or_eq_true, memN_iff] at h
  refine ⟨by simpa using h.1.1.1, h.1.1.2, h.1.2, fun i hi => ?_⟩
  rcases h.2 i hi with h1 | h1
  · exact .inl h1
  · exact .inr ⟨by simpa using h1.1, by simpa using h1.2⟩

theorem partH_get {H : Nat → Option (O reg.T)} {n0 : Nat} {l : List Nat} (hl : ∀ i ∈ l, Tr.ok i = true) (j : Nat) : (partH H n0 l).get j = if j ∈ l then H j else none := by
  unfold partH Hp.get
  rw [foldl_set_get l _ hl j]
  simp [Tr.get_e]

/-- What became of a part, in the whole. -/
theorem merge_ok {N F : Nat → Prop} {φ : Phi} {H : Nat → Option (O reg.T)} {w w' : World} {l : List Nat} {n0 : Nat} {v : V reg.T} {p' : Hp reg.T} {cv : Value} (hH : HRel reg F φ N H w)
    (hok : okPart l p'.wr n0 p'.nx = true) (hR : Res N F φ (partH H n0 l) w (· = (v, p')) cv w') :
    ∃ N' F' φ', VRel reg F' w' φ' v cv ∧ HRel reg F' φ' N' (updF H (p'.wr ++ List.range' n0 (p'.nx - n0)) p'.get) w' ∧
      Goes reg F φ N H w F' φ' N' (updF H (p'.wr ++ List.range' n0 (p'.nx - n0)) p'.get) w' ∧ ∀ i, N' i → N i ∨ (n0 ≤ i ∧ i < p'.nx) := by
  obtain ⟨ho1, ho2, ho3, ho4⟩ := okPart_spec hok
  obtain ⟨v1, h1, N', F', φ', hq, hv, hP, hG⟩ := hR
  cases hq
  have hg := partH_get (H := H) (n0 := n0) ho3
  have hsub : ∀ i o, (partH H n0 l).get i = some o → H i = some o := by
    intro i o hi
    rw [hg] at hi
    split at hi
    · exact hi
    · cases hi
  have hHp := hH.sub hsub
  -- what lies outside
  have hin : ∀ i, i ∈ p'.wr ++ List.range' n0 (p'.nx - n0) → updF H (p'.wr ++ List.range' n0 (p'.nx - n0)) p'.get i = p'.get i := fun i hi => by simp only [updF]; rw [if_pos hi]
  have hout : ∀ i, i ∉ p'.wr ++ List.range' n0 (p'.nx - n0) → updF H (p'.wr ++ List.range' n0 (p'.nx - n0)) p'.get i = H i ∧ p'.get i = (partH H n0 l).get i := by
    intro i hi
    refine ⟨by simp only [updF]; rw [if_neg hi], ?_⟩
    simp only [List.mem_append, not_or] at hi
    obtain ⟨_, L, hL, hgr⟩ := hG.grow
    have e : p'.wr = L := by rw [hL]; simp [partH]
    refine hgr i (fun h => hi.1 (e ▸ h)) (fun h => hi.2 ?_)
    have h' : n0 ≤ i ∧ i < p'.nx := h
    rw [List.mem_range'_1]
    omega
  have cases' : ∀ i o, updF H (p'.wr ++ List.range' n0 (p'.nx - n0)) p'.get i = some o → p'.get i = some o ∨ (H i = some o ∧ i ∉ l) := by
    intro i o hi
    by_cases hm : i ∈ p'.wr ++ List.range' n0 (p'.nx - n0)
    · rw [hin i hm] at hi; exact .inl hi
    · obtain ⟨e1, e2⟩ := hout i hm
      rw [e1] at hi
      by_cases hl : i ∈ l
      · left; rw [e2, hg, if_pos hl, hi]
      · exact .inr ⟨hi, hl⟩
  have hOwn : ∀ b, Owned reg φ (partH H n0 l).get b → Owned reg φ H b := fun b ⟨i, o, s, k, hi, hp⟩ => ⟨i, o, s, k, hsub i o hi, hp⟩
  have apart : ∀ i o b s k, H i = some o → i ∉ l → φ i = some (b, s, k) → ¬Owned reg φ (partH H n0 l).get b := by
    rintro i o b s k hi hl hp ⟨j, oj, s', k', hj, hpj⟩
    have hjl : j ∈ l := by
      rw [hg] at hj
      by_cases h : j ∈ l
      · exact h
      · rw [if_neg h] at hj; cases hj
    have := hH.inj i j o oj b s k s' k' hi (hsub j oj hj) hp hpj
    exact hl (this ▸ hjl)
  have keep := hG.goes.keep hHp
  have old : ∀ i o, H i = some o → φ' i = φ i := fun i o hi => hG.goes.phi i (hH.lt i o hi)
  have oldb : ∀ i o b s k, H i = some o → i ∉ l → φ i = some (b, s, k) → w'.heap[b]? = w.heap[b]? := fun i o b s k hi hl hp => hG.goes.block b (hH.own i o b s k hi hp).2 (apart i o b s k hi hl hp)
  have oldF : ∀ i o b s k, H i = some o → i ∉ l → φ i = some (b, s, k) → ¬F' b := by
    intro i o b s k hi hl hp hf
    rcases hG.goes.fnew b hf with h | h | h
    · exact (hH.own i o b s k hi hp).1 h
    · have := (hH.own i o b s k hi hp).2; omega
    · exact apart i o b s k hi hl hp h
  have mixed : ∀ i j oi oj b s k s' k', p'.get i = some oi → (H j = some oj ∧ j ∉ l) → φ' i = some (b, s, k) → φ' j = some (b, s', k') → False := by
    intro i j oi oj b s k s' k' hi hj hpi hpj
    rw [old j oj hj.1] at hpj
    rcases hG.goes.dom b ⟨i, oi, s, k, hi, hpi⟩ with h | h
    · exact apart j oj b s' k' hj.1 hj.2 hpj h
    · have := (hH.own j oj b s' k' hj.1 hpj).2; omega
  refine ⟨N', F', φ', hv, ⟨fun i o hi => ?_, fun i o b s k hi hp => ?_, fun i j oi oj b s k s' k' hi hj hpi hpj => ?_, hP.dom, fun i o hi => ?_, hP.ok, hP.frz, hP.lay⟩, ⟨hG.goes.os, hG.goes.tape, hG.goes.output, hG.goes.size, fun b hb hn => hG.goes.block b hb (fun h => hn (hOwn b h)), hG.goes.fsub, fun b hb => ?_, hG.goes.phi, hG.goes.names, fun b hb => ?_, fun i p hp => ?_⟩, hG.names⟩
  · rcases cases' i o hi with h | ⟨h, hl⟩
    · exact hP.obj i o h
    · exact (hH.obj i o h).mono reg keep.1 keep.2 (fun e => by rw [old i o h]; exact e) (fun b s k hp => oldb i o b s k h hl hp)
  · rcases cases' i o hi with h | ⟨h, hl⟩
    · exact hP.own i o b s k h hp
    · rw [old i o h] at hp
      exact ⟨oldF i o b s k h hl hp, Nat.lt_of_lt_of_le (hH.own i o b s k h hp).2 hG.goes.size⟩
  · rcases cases' i oi hi with h | h <;> rcases cases' j oj hj with h' | h'
    · exact hP.inj i j oi oj b s k s' k' h h' hpi hpj
    · exact (mixed i j oi oj b s k s' k' h h' hpi hpj).elim
    · exact (mixed j i oj oi b s' k' s k h' h hpj hpi).elim
    · rw [old i oi h.1] at hpi
      rw [old j oj h'.1] at hpj
      exact hH.inj i j oi oj b s k s' k' h.1 h'.1 hpi hpj
  · rcases cases' i o hi with h | ⟨h, _⟩
    · exact hP.lt i o h
    · exact hG.goes.names i (hH.lt i o h)
  · rcases hG.goes.fnew b hb with h | h | h
    · exact .inl h
    · exact .inr (.inl h)
    · exact .inr (.inr (hOwn b h))
  · obtain ⟨i, o, s, k, hi, hp⟩ := hb
    rcases cases' i o hi with h | ⟨h, hl⟩
    · rcases hG.goes.dom b ⟨i, o, s, k, h, hp⟩ with h2 | h2
      · exact .inl (hOwn b h2)
      · exact .inr h2
    · rw [old i o h] at hp
      exact .inl ⟨i, o, s, k, h, hp⟩
  · rcases hG.goes.new i p hp with h | h | h
    · exact .inl h
    · exact .inr (.inl h)
    · exact .inr (.inr (hOwn _ h))

theorem valOf_rel {N F : Nat → Prop} {φ : Phi} {nt : Nat} {s : FS reg.T} {a : Act} {w : World} (hR : RF dl N F φ nt s a w) {x : Operand} {v : V reg.T} (h : valOf s.env x = some v) : VRel reg F w φ v (a.eval x) := by
  cases x with
  | tmp t =>
    have := (hR.env t v h).2
    simpa [Act.eval, Array.getD_eq_getD_getElem?] using this
  | const c => simp only [valOf, Option.some.injEq] at h; subst h; exact VRel.ofValue c
  | func f => simp only [valOf, Option.some.injEq] at h; subst h; exact .fn f [] [] #[] #[] rfl (fun j hj => by simp at hj) rfl (fun j hj => by simp at hj)
  | global g => simp [valOf] at h

theorem wanted_rel {N F : Nat → Prop} {φ : Phi} {nt : Nat} {s : FS reg.T} {a : Act} {w : World} (hR : RF dl N F φ nt s a w) {ops : Array Oper} {o : Oper} {b : Bool} (hb : wantedV ops o s.env = some b) : Region.wanted o (yielded ops a.tmps) = b := by
  unfold wantedV at hb
  unfold Region.wanted
  cases hg : o.guard with
  | none => rw [hg] at hb; simpa using hb
  | some g =>
    obtain ⟨j, want⟩ := g
    rw [hg] at hb
    simp only at hb ⊢
    cases hdj : (ops[j]?).bind (·.dst) with
    | none => rw [hdj] at hb; simp at hb
    | some d =>
      rw [hdj] at hb
      simp only at hb
      obtain ⟨oj, hoj, hdd⟩ := Option.bind_eq_some_iff.1 hdj
      split at hb
      · rename_i x hx
        have hv := (hR.env d _ hx).2
        have hlt : d < a.tmps.size := by rw [hR.size]; exact (hR.env d _ hx).1
        have hz := hv.bool_inv
        have he : a.tmps[d]? = some (.bool x) := by
          simp only [Array.getD_eq_getD_getElem?, Array.getElem?_eq_getElem hlt, Option.getD_some] at hz
          rw [Array.getElem?_eq_getElem hlt, hz]
        unfold yielded
        simp only [Option.some.injEq] at hb
        subst hb
        simp [hoj, hdd, he]
      · rename_i hx
        have hv := (hR.env d _ hx).2
        have hlt : d < a.tmps.size := by rw [hR.size]; exact (hR.env d _ hx).1
        generalize hz : a.tmps.getD d Go.undef = z at hv
        cases hv with
        | undef =>
          have he : a.tmps[d]? = some Go.undef := by
            simp only [Array.getD_eq_getD_getElem?, Array.getElem?_eq_getElem hlt, Option.getD_some] at hz
            rw [Array.getElem?_eq_getElem hlt, hz]
          unfold yielded
          simp only [Option.some.injEq] at hb
          subst hb
          simp [hoj, hdd, he, Go.undef]
      · simp at hb

/-- Behind an operation: what it answers lies in its slot. -/
theorem RF.put {N N' F F' : Nat → Prop} {φ φ' : Phi} {nt : Nat} {s : FS reg.T} {a : Act} {w w' : World} {H' : Nat → Option (O reg.T)} (hR : RF dl N F φ nt s a w) (hH' : HRel reg F' φ' N' H' w')
    (hG : Goes reg F φ N s.H w F' φ' N' H' w') {dst : Option Nat} (hd : dstOk nt dst = true) {v : V reg.T} {cv : Value} (hv : VRel reg F' w' φ' v cv) : RF dl N' F' φ' nt ⟨setF s.env dst v, H'⟩ (a.put dst cv) w' := by
  have hold : ∀ t x, s.env t = some x → t < nt ∧ VRel reg F' w' φ' x (a.tmps.getD t undef) := fun t x hx => ⟨(hR.env t x hx).1, hG.val hR.heap (hR.env t x hx).2⟩
  cases dst with
  | none => exact ⟨hold, hR.size, hH', hR.dfs⟩
  | some d =>
    have hd' : d < nt := by simpa [dstOk] using hd
    refine ⟨fun t x hx => ?_, by simp [Act.put, hR.size], hH', hR.dfs⟩
    simp only [setF] at hx
    by_cases ht : t = d
    · subst ht
      rw [if_pos rfl] at hx
      cases hx
      refine ⟨hd', ?_⟩
      have hs := hR.size
      simp only [Act.put, Array.getD_eq_getD_getElem?, Array.getElem?_setIfInBounds]
      simp only [if_true]
      rw [if_pos (by omega)]
      exact hv
    · rw [if_neg ht] at hx
      have := hold t x hx
      refine ⟨this.1, ?_⟩
      simp only [Act.put, Array.getD_eq_getD_getElem?, Array.getElem?_setIfInBounds]
      rw [if_neg (Ne.symm ht)]
      simpa [Array.getD_eq_getD_getElem?] using this.2

theorem setF_get {env : Tr (V reg.T)} {nt : Nat} (hnt : nt ≤ 1000000) {dst : Option Nat} (hd : dstOk nt dst = true) (v : V reg.T) (h : Hp reg.T) : (St.put ⟨env, h⟩ dst v).env.get = setF env.get dst v := by
  cases dst with
  | none => rfl
  | some d =>
    have hd' : d < nt := by simpa [dstOk] using hd
    funext t
    show (env.set d (some v)).get t = _
    rw [Tr.get_set (by unfold Tr.ok; simp; omega)]
    rfl

variable {hd : Hd reg.T} {nt : Nat}

/-- One operation of a region, at the machine. -/
theorem Step.sound {r : Option Nat} {m : Nat} (hHd : HdSound P hd) {ops : Array Oper} {i : Nat} {o : Oper} (hi : ops[i]? = some o) {s s' : FS reg.T} {f : Foot} (h : Step P hd nt ops o s s' f)
    {N F : Nat → Prop} {φ : Phi} {a : Act} {w : World} (hR : RF dl N F φ nt s a w) (hfr : Fresh N f.n0 f.n1) {K : Act → World → Prop} {Q : Exit → Act → World → Prop}
    (hK : ∀ N' F' φ' a' w', RF dl N' F' φ' nt s' a' w' → Goes reg F φ N s.H w F' φ' N' s'.H w' → (∀ i, N' i → N i ∨ (f.n0 ≤ i ∧ i < f.n1)) → K a' w') : wpOpIn (Fr r) m P ops Q i K a w := by
  obtain ⟨hdst, h⟩ := h
  unfold wpOpIn
  simp only [hi]
  rcases h with ⟨h1, h2, v, p', h3, h4, h5, h6, h7⟩ | ⟨h1, h2, h3, h4, h5⟩
  · rw [if_pos (wanted_rel hR h1)]
    obtain ⟨_, _, hk, _⟩ := okPart_spec h4
    refine lexec_in (N := N) (F := F) (φ := φ) (h := partH s.H f.n0 f.rd) hHd (o := o) (Q := (· = (v, p'))) (val := valOf s.env) ?_ ?_ (fun x v hx => valOf_rel hR hx) h3 (fun cv w' hres => ?_)
    · refine hR.heap.sub (fun i o hi => ?_)
      rw [partH_get hk] at hi
      split at hi
      · exact hi
      · cases hi
    · rintro r rfl
      show Fresh N f.n0 p'.nx
      rw [← h6]; exact hfr
    · obtain ⟨N', F', φ', hv, hH', hG, hN⟩ := merge_ok hR.heap h4 hres
      subst h7
      rw [← h5] at hH' hG
      rw [← h6] at hN
      exact hK N' F' φ' _ w' (hR.put hH' hG hdst hv) hG hN
  · rw [if_neg (by rw [wanted_rel hR h1]; simp)]
    have e : updF s.H [] (fun _ => none) = s.H := by funext i; simp [updF]
    refine ⟨fun _ _ => trivial, hK N F φ _ w ?_ ?_ (fun i hi => .inl hi)⟩
    · rw [h5]
      show RF dl N F φ nt ⟨setF s.env o.dst .undef, updF s.H [] (fun _ => none)⟩ _ w
      rw [e]
      exact hR.put hR.heap (Goes.refl reg hR.heap) hdst .undef
    · rw [h5]
      show Goes reg F φ N s.H w F φ N (updF s.H [] (fun _ => none)) w
      rw [e]
      exact Goes.refl reg hR.heap
end
end Go.W
