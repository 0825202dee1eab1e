/- New objects, objects that are written, taken away. No conditions. -/
import Derived.Test.YtmnkbfflpgmkmaaGreatDoorWV
import Derived.Laws.IdiomCopy
import Derived.Laws.Tables
namespace Go.W
open Go Go.RowKit

section
variable {T : Nat → Type}
/-- What a heap keeps of another one. -/
def Grow (h h' : Hp T) : Prop := h.nx ≤ h'.nx ∧ ∃ l, h'.wr = l ++ h.wr ∧ ∀ i, i ∉ l → ¬(h.nx ≤ i ∧ i < h'.nx) → h'.get i = h.get i

theorem Grow.refl (h : Hp T) : Grow h h := ⟨Nat.le_refl _, [], rfl, fun _ _ _ => rfl⟩
theorem Grow.trans {h h' h'' : Hp T} (a : Grow h h') (b : Grow h' h'') : Grow h h'' := by
  obtain ⟨a1, l, a2, a3⟩ := a
  obtain ⟨b1, m, b2, b3⟩ := b
  refine ⟨Nat.le_trans a1 b1, m ++ l, by rw [b2, a2, List.append_assoc], fun i hn hi => ?_⟩
  simp only [List.mem_append, not_or] at hn
  rw [b3 i hn.1 (by omega), a3 i hn.2 (by omega)]

theorem get_new {h : Hp T} {o : O T} (hk : Tr.ok h.nx = true) (j : Nat) : (h.new o).get j = if j = h.nx then some o else h.get j := Tr.get_set hk j
theorem get_setH {h : Hp T} {i : Nat} {x : Option (O T)} (hk : Tr.ok i = true) (j : Nat) : (h.set i x).get j = if j = i then x else h.get j := Tr.get_set hk j

theorem new_nx (h : Hp T) (o : O T) : (h.new o).nx = h.nx + 1 := rfl

theorem Grow.new {h : Hp T} {o : O T} (hk : Tr.ok h.nx = true) : Grow h (h.new o) := by
  refine ⟨Nat.le_succ _, [], rfl, fun i _ hi => ?_⟩
  rw [new_nx] at hi
  rw [get_new hk, if_neg (by omega)]
theorem Grow.set {h : Hp T} {i : Nat} {x : Option (O T)} (hk : Tr.ok i = true) : Grow h (h.set i x) := by
  refine ⟨Nat.le_refl _, [i], rfl, fun j hn _ => ?_⟩
  rw [get_setH hk, if_neg (by simpa using hn)]
end

section
variable {reg : Reg} {P : Program}

abbrev HR (N : Nat → Prop) (F : Nat → Prop) (φ : Phi) (h : Hp reg.T) (w : World) : Prop := HRel reg F φ N h.get w
/-- The names between two numbers are free. -/
def Fresh (N : Nat → Prop) (a b : Nat) : Prop := ∀ i, a ≤ i → i < b → ¬N i

structure GO (N : Nat → Prop) (F : Nat → Prop) (φ : Phi) (h : Hp reg.T) (w : World) (N' : Nat → Prop) (F' : Nat → Prop) (φ' : Phi) (h' : Hp reg.T) (w' : World) : Prop where
  goes : Goes reg F φ N h.get w F' φ' N' h'.get w'
  grow : Grow h h'
  names : ∀ i, N' i → N i ∨ (h.nx ≤ i ∧ i < h'.nx)

/-- What an operation comes to. -/
def Res (N : Nat → Prop) (F : Nat → Prop) (φ : Phi) (h : Hp reg.T) (w : World) (Q : V reg.T × Hp reg.T → Prop) (cv : Value) (w' : World) : Prop :=
  ∃ v h' N' F' φ', Q (v, h') ∧ VRel reg F' w' φ' v cv ∧ HR N' F' φ' h' w' ∧ GO N F φ h w N' F' φ' h' w'

theorem GO.refl {N F : Nat → Prop} {φ : Phi} {h : Hp reg.T} {w : World} (hH : HR N F φ h w) : GO N F φ h w N F φ h w := ⟨Goes.refl reg hH, Grow.refl h, fun _ hi => .inl hi⟩
theorem GO.trans {N N' N'' F F' F'' : Nat → Prop} {φ φ' φ'' : Phi} {h h' h'' : Hp reg.T} {w w' w'' : World} (a : GO N F φ h w N' F' φ' h' w') (b : GO N' F' φ' h' w' N'' F'' φ'' h'' w'') : GO N F φ h w N'' F'' φ'' h'' w'' := by
  have h1 := a.grow.1
  have h2 := b.grow.1
  refine ⟨Goes.trans reg a.goes b.goes, a.grow.trans b.grow, fun i hi => ?_⟩
  rcases b.names i hi with h3 | h3
  · rcases a.names i h3 with h4 | h4
    · exact .inl h4
    · exact .inr (by omega)
  · exact .inr (by omega)

theorem Res.pure {N F : Nat → Prop} {φ : Phi} {h : Hp reg.T} {w : World} {Q : V reg.T × Hp reg.T → Prop} {v : V reg.T} {cv : Value} (hH : HR N F φ h w) (hq : Q (v, h)) (hv : VRel reg F w φ v cv) :
    Res N F φ h w Q cv w := ⟨v, h, N, F, φ, hq, hv, hH, GO.refl hH⟩

theorem Res.from {N F : Nat → Prop} {φ : Phi} {h h1 : Hp reg.T} {w w' : World} {Q : V reg.T × Hp reg.T → Prop} {cv : Value} (g : GO N F φ h w N F φ h1 w) (r : Res N F φ h1 w Q cv w') : Res N F φ h w Q cv w' := by
  obtain ⟨v, h', N', F', φ', hq, hv, hH, hg⟩ := r
  exact ⟨v, h', N', F', φ', hq, hv, hH, g.trans hg⟩

/-- The world has only drawn. -/
theorem HRel.drew {F : Nat → Prop} {φ : Phi} {N : Nat → Prop} {H : Nat → Option (O reg.T)} {w w' : World} (hH : HRel reg F φ N H w) (hh : w'.heap = w.heap) : HRel reg F φ N H w' := by
  have hm : ∀ b, F b → F b ∧ w'.heap[b]? = w.heap[b]? := fun b hb => ⟨hb, by rw [hh]⟩
  exact ⟨fun i o ho => (hH.obj i o ho).mono reg hm (fun _ _ h => h) (fun h => h) (fun b _ _ _ => by rw [hh]), fun i o b s k ho hp => by rw [hh]; exact hH.own i o b s k ho hp, hH.inj, hH.dom, hH.lt, hH.ok, fun b hb => by rw [hh]; exact hH.frz b hb, hH.lay.mono reg (fun b hb => ⟨hb, by rw [hh]⟩)⟩

/-- An object is taken away. -/
theorem remove_ok {N F : Nat → Prop} {φ : Phi} {h : Hp reg.T} {w : World} (hH : HR N F φ h w) {i : Nat} {o : O reg.T} (hi : h.get i = some o) :
    HR N F φ (h.set i none) w ∧ GO N F φ h w N F φ (h.set i none) w := by
  have hk := hH.ok i (hH.lt i o hi)
  have sub : ∀ j o, (h.set i none).get j = some o → h.get j = some o := by
    intro j o hj
    rw [get_setH hk] at hj
    split at hj
    · cases hj
    · exact hj
  refine ⟨⟨fun j o hj => hH.obj j o (sub j o hj), fun j o b s k hj hp => hH.own j o b s k (sub j o hj) hp, fun a b oa ob blk s k s' k' ha hb => hH.inj a b oa ob blk s k s' k' (sub _ _ ha) (sub _ _ hb), hH.dom, fun j o hj => hH.lt j o (sub j o hj), hH.ok, hH.frz, hH.lay⟩, ?_, Grow.set hk, fun _ hx => .inl hx⟩
  exact ⟨rfl, rfl, rfl, Nat.le_refl _, fun _ _ _ => rfl, fun _ h => h, fun _ h => .inl h, fun _ _ => rfl, fun _ h => h, fun b ⟨j, o, s, k, hj, hp⟩ => .inl ⟨j, o, s, k, sub j o hj, hp⟩, fun j p hp => .inl (hH.dom j p hp)⟩

/-- A new object in a new block. -/
theorem alloc_ok {N F : Nat → Prop} {φ : Phi} {h : Hp reg.T} {w w' : World} {Q : V reg.T × Hp reg.T → Prop} {o : O reg.T} {v : V reg.T} {cv : Value} {C : Array Value} {t : TypeId} {fz : Nat × Nat}
    (hH : HR N F φ h w) (hq : Q (v, h.new o)) (hN : ¬N h.nx) (hk : Tr.ok h.nx = true) (hos : w'.os = w.os) (htp : w'.tape = w.tape) (hout : w'.output = w.output) (hsz : w.heap.size < w'.heap.size)
    (hold : ∀ b, b < w.heap.size → w'.heap[b]? = w.heap[b]?) (hnew : w'.heap[w.heap.size]? = some (.cells C t fz)) (hfree : free C fz) (hr : o.isRows reg = true)
    (hcs : o.len reg * o.k reg ≤ C.size) (hlen : o.len reg ≤ 9223372036854775807) (hat : At reg F w φ (o.row reg) (o.len reg) (o.k reg) (fun i => C.getD i undef))
    (hv : ∀ φ', φ' h.nx = some (w.heap.size, 0, o.k reg, C.size) → (∀ i p, φ i = some p → φ' i = some p) → VRel reg F w' φ' v cv) : Res N F φ h w Q cv w' := by
  let φ' : Phi := fun i => if i = h.nx then some (w.heap.size, 0, o.k reg, C.size) else φ i
  have e1 : φ' h.nx = some (w.heap.size, 0, o.k reg, C.size) := if_pos rfl
  have e2 : ∀ i, i ≠ h.nx → φ' i = φ i := fun i hi => if_neg hi
  have hφ : ∀ i p, φ i = some p → φ' i = some p := fun i p hp => by rw [e2 i (fun e => hN (e ▸ hH.dom i p hp))]; exact hp
  have hm : ∀ b, F b → F b ∧ w'.heap[b]? = w.heap[b]? := fun b hb => ⟨hb, hold b (hH.frz b hb)⟩
  have hg : ∀ j, (h.new o).get j = if j = h.nx then some o else h.get j := get_new hk
  have lt : ∀ j o', (h.new o).get j = some o' → j ≠ h.nx → h.get j = some o' ∧ N j := fun j o' hj hn => by
    rw [hg, if_neg hn] at hj
    exact ⟨hj, hH.lt j o' hj⟩
  refine ⟨v, h.new o, fun i => N i ∨ i = h.nx, F, φ', hq, hv φ' e1 hφ, ⟨fun j o' hj => ?_, fun j o' b s k hj hp => ?_, fun a c oa oc b s k s' k' ha hc hpa hpc => ?_, fun j p hp => ?_, fun j o' hj => ?_, fun j hj => ?_, fun b hb => Nat.lt_trans (hH.frz b hb) hsz, hH.lay.mono reg hm⟩, ⟨hos, htp, hout, Nat.le_of_lt hsz, fun b hb _ => hold b hb, fun _ hf => hf, fun _ hf => .inl hf, fun i hi => ?_, fun i hi => ?_, fun b hb => ?_, fun i p hp => ?_⟩, Grow.new hk, fun i hi => hi.imp id (fun e => by rw [new_nx]; omega)⟩
  · by_cases hj' : j = h.nx
    · subst hj'
      rw [hg, if_pos rfl] at hj
      cases hj
      refine .inl ⟨hr, .inr ⟨_, 0, C, t, fz, e1, hnew, hfree, ⟨by simpa using hcs, hlen, ?_⟩⟩⟩
      have := hat.mono reg hm hφ
      simpa using this
    · obtain ⟨h1, h2⟩ := lt j o' hj hj'
      exact (hH.obj j o' h1).mono reg hm hφ (fun hn => by rw [e2 j hj']; exact hn) (fun b s k hp => hold b (hH.own j o' b s k h1 hp).2)
  · by_cases hj' : j = h.nx
    · subst hj'
      rw [e1] at hp
      simp only [Option.some.injEq, Prod.mk.injEq] at hp
      obtain ⟨rfl, _⟩ := hp
      exact ⟨fun hf => by have := hH.frz _ hf; omega, hsz⟩
    · obtain ⟨h1, h2⟩ := lt j o' hj hj'
      rw [e2 j hj'] at hp
      have := hH.own j o' b s k h1 hp
      exact ⟨this.1, Nat.lt_trans this.2 hsz⟩
  · by_cases ha' : a = h.nx
    · by_cases hc' : c = h.nx
      · rw [ha', hc']
      · subst ha'
        obtain ⟨h1, _⟩ := lt c oc hc hc'
        rw [e1] at hpa
        rw [e2 c hc'] at hpc
        simp only [Option.some.injEq, Prod.mk.injEq] at hpa
        have := (hH.own c oc b s' k' h1 hpc).2
        omega
    · obtain ⟨h1, _⟩ := lt a oa ha ha'
      rw [e2 a ha'] at hpa
      by_cases hc' : c = h.nx
      · subst hc'
        rw [e1] at hpc
        simp only [Option.some.injEq, Prod.mk.injEq] at hpc
        have := (hH.own a oa b s k h1 hpa).2
        omega
      · obtain ⟨h2, _⟩ := lt c oc hc hc'
        rw [e2 c hc'] at hpc
        exact hH.inj a c oa oc b s k s' k' h1 h2 hpa hpc
  · by_cases hj' : j = h.nx
    · exact .inr hj'
    · rw [e2 j hj'] at hp; exact .inl (hH.dom j p hp)
  · by_cases hj' : j = h.nx
    · exact .inr hj'
    · exact .inl (lt j o' hj hj').2
  · rcases hj with hj | he
    · exact hH.ok j hj
    · rw [he]; exact hk
  · exact e2 i (fun e => hN (e ▸ hi))
  · exact .inl hi
  · obtain ⟨j, o', s, k, hj, hp⟩ := hb
    by_cases hj' : j = h.nx
    · subst hj'
      rw [e1] at hp
      simp only [Option.some.injEq, Prod.mk.injEq] at hp
      exact .inr (by omega)
    · rw [e2 j hj'] at hp
      exact .inl ⟨j, o', s, k, (lt j o' hj hj').1, hp⟩
  · by_cases hj' : i = h.nx
    · subst hj'
      rw [e1] at hp
      cases hp
      exact .inr (.inl (Nat.le_refl _))
    · rw [e2 i hj'] at hp
      exact .inl (hH.dom i p hp)

/-- A new object that has no rows, and no block. -/
theorem ghost_ok {N F : Nat → Prop} {φ : Phi} {h : Hp reg.T} {w w' : World} {Q : V reg.T × Hp reg.T → Prop} {o : O reg.T} {v : V reg.T} {cv : Value}
    (hH : HR N F φ h w) (hq : Q (v, h.new o)) (hN : ¬N h.nx) (hk : Tr.ok h.nx = true) (hw : w' = w) (hr : o.isRows reg = true) (hlen : o.len reg = 0) (hv : VRel reg F w φ v cv) : Res N F φ h w Q cv w' := by
  subst hw
  have hg : ∀ j, (h.new o).get j = if j = h.nx then some o else h.get j := get_new hk
  have hno : φ h.nx = none := by
    cases hp : φ h.nx with
    | none => rfl
    | some p => exact absurd (hH.dom _ _ hp) hN
  have lt : ∀ j o', (h.new o).get j = some o' → j ≠ h.nx → h.get j = some o' ∧ N j := fun j o' hj hn => by
    rw [hg, if_neg hn] at hj
    exact ⟨hj, hH.lt j o' hj⟩
  have ne : ∀ j p, φ j = some p → j ≠ h.nx := fun j p hp e => by rw [e, hno] at hp; cases hp
  refine ⟨v, h.new o, fun i => N i ∨ i = h.nx, F, φ, hq, hv, ⟨fun j o' hj => ?_, fun j o' b s k hj hp => hH.own j o' b s k (lt j o' hj (ne j _ hp)).1 hp, fun a c oa oc b s k s' k' ha hc hpa hpc => hH.inj a c oa oc b s k s' k' (lt a oa ha (ne a _ hpa)).1 (lt c oc hc (ne c _ hpc)).1 hpa hpc,
    fun j p hp => .inl (hH.dom j p hp), fun j o' hj => ?_, fun j hj => ?_, hH.frz, hH.lay⟩, ⟨rfl, rfl, rfl, Nat.le_refl _, fun _ _ _ => rfl, fun _ hf => hf, fun _ hf => .inl hf, fun _ _ => rfl, fun i hi => .inl hi,
    fun b ⟨j, o', s, k, hj, hp⟩ => .inl ⟨j, o', s, k, (lt j o' hj (ne j _ hp)).1, hp⟩, fun i p hp => .inl (hH.dom i p hp)⟩, Grow.new hk, fun i hi => hi.imp id (fun e => by rw [new_nx]; omega)⟩
  · by_cases hj' : j = h.nx
    · subst hj'
      rw [hg, if_pos rfl] at hj
      cases hj
      exact .inl ⟨hr, .inl ⟨hlen, hno⟩⟩
    · exact hH.obj j o' (lt j o' hj hj').1
  · by_cases hj' : j = h.nx
    · exact .inr hj'
    · exact .inl (lt j o' hj hj').2
  · rcases hj with hj | he
    · exact hH.ok j hj
    · rw [he]; exact hk

/-- An object is written. -/
theorem write_ok {N F : Nat → Prop} {φ : Phi} {h : Hp reg.T} {w w' : World} {Q : V reg.T × Hp reg.T → Prop} {i b s z : Nat} {o o' : O reg.T} {v : V reg.T} {cv : Value} {C : Array Value} {t : TypeId} {fz : Nat × Nat}
    (hH : HR N F φ h w) (hi : h.get i = some o) (hp : φ i = some (b, s, o.k reg, z)) (hzz : C.size = z) (hq : Q (v, h.set i (some o'))) (hos : w'.os = w.os) (htp : w'.tape = w.tape) (hout : w'.output = w.output)
    (hsz : w'.heap.size = w.heap.size) (hold : ∀ b', b' ≠ b → w'.heap[b']? = w.heap[b']?) (hnew : w'.heap[b]? = some (.cells C t fz)) (hfree : free C fz)
    (hr : o'.isRows reg = true) (hko : o'.k reg = o.k reg) (hat : RowsAt reg F w φ o' s C) (hv : VRel reg F w φ v cv) : Res N F φ h w Q cv w' := by
  have hk := hH.ok i (hH.lt i o hi)
  have hfb := hH.own i o b s _ hi hp
  have hm : ∀ b', F b' → F b' ∧ w'.heap[b']? = w.heap[b']? := fun b' hb => ⟨hb, hold b' (fun e => hfb.1 (e ▸ hb))⟩
  have hg : ∀ j, (h.set i (some o')).get j = if j = i then some o' else h.get j := get_setH hk
  have lt : ∀ j oj, (h.set i (some o')).get j = some oj → ∃ oj', h.get j = some oj' ∧ (j ≠ i → oj' = oj) := fun j oj hj => by
    rw [hg] at hj
    split at hj
    · rename_i e; exact ⟨o, e ▸ hi, fun hn => absurd e hn⟩
    · exact ⟨oj, hj, fun _ => rfl⟩
  refine ⟨v, _, N, F, φ, hq, hv.mono reg hm (fun _ _ e => e), ⟨fun j oj hj => ?_, fun j oj b' s' k' hj hp' => ?_, fun a c oa oc b' s' k' s'' k'' ha hc hpa hpc => ?_, hH.dom, fun j oj hj => ?_, hH.ok, fun b' hb => hsz ▸ hH.frz b' hb, hH.lay.mono reg hm⟩,
    ⟨hos, htp, hout, Nat.le_of_eq hsz.symm, fun b' _ hn => hold b' (fun e => hn ⟨i, o, s, _, hi, e ▸ hp⟩), fun _ hf => hf, fun _ hf => .inl hf, fun _ _ => rfl, fun _ hx => hx, fun b' ⟨j, oj, s', k', hj, hp'⟩ => ?_, fun j p hp' => .inl (hH.dom j p hp')⟩, Grow.set hk, fun _ hx => .inl hx⟩
  · by_cases hji : j = i
    · subst hji
      rw [hg, if_pos rfl] at hj
      cases hj
      exact .inl ⟨hr, .inr ⟨b, s, C, t, fz, by rw [hko, hzz]; exact hp, hnew, hfree, hat.mono reg hm (fun _ _ e => e)⟩⟩
    · rw [hg, if_neg hji] at hj
      exact (hH.obj j oj hj).mono reg hm (fun _ _ e => e) (fun e => e) (fun b' s' k' hp' => hold b' (fun e => hji (hH.inj j i oj o b' s' k' s _ hj hi hp' (e ▸ hp))))
  · obtain ⟨oj', h1, _⟩ := lt j oj hj
    have := hH.own j oj' b' s' k' h1 hp'
    exact ⟨this.1, hsz ▸ this.2⟩
  · obtain ⟨oa', h1, _⟩ := lt a oa ha
    obtain ⟨oc', h2, _⟩ := lt c oc hc
    exact hH.inj a c oa' oc' b' s' k' s'' k'' h1 h2 hpa hpc
  · obtain ⟨oj', h1, _⟩ := lt j oj hj
    exact hH.lt j oj' h1
  · obtain ⟨oj', h1, _⟩ := lt j oj hj
    exact .inl ⟨j, oj', s', k', h1, hp'⟩

/-- An object without rows, and without a block, is written. -/
theorem write0_ok {N F : Nat → Prop} {φ : Phi} {h : Hp reg.T} {w w' : World} {Q : V reg.T × Hp reg.T → Prop} {i : Nat} {o o' : O reg.T} {v : V reg.T} {cv : Value}
    (hH : HR N F φ h w) (hi : h.get i = some o) (hp : φ i = none) (hq : Q (v, h.set i (some o'))) (hw : w' = w) (hr : o'.isRows reg = true) (hlen : o'.len reg = 0) (hv : VRel reg F w φ v cv) : Res N F φ h w Q cv w' := by
  subst hw
  have hk := hH.ok i (hH.lt i o hi)
  have hg : ∀ j, (h.set i (some o')).get j = if j = i then some o' else h.get j := get_setH hk
  have ne : ∀ j p, φ j = some p → j ≠ i := fun j p hpj e => by rw [e, hp] at hpj; cases hpj
  have lt : ∀ j oj, (h.set i (some o')).get j = some oj → j ≠ i → h.get j = some oj := fun j oj hj hn => by rw [hg, if_neg hn] at hj; exact hj
  refine ⟨v, _, N, F, φ, hq, hv, ⟨fun j oj hj => ?_, fun j oj b s k hj hpj => hH.own j oj b s k (lt j oj hj (ne j _ hpj)) hpj, fun a c oa oc b s k s' k' ha hc hpa hpc => hH.inj a c oa oc b s k s' k' (lt a oa ha (ne a _ hpa)) (lt c oc hc (ne c _ hpc)) hpa hpc,
    hH.dom, fun j oj hj => ?_, hH.ok, hH.frz, hH.lay⟩, ⟨rfl, rfl, rfl, Nat.le_refl _, fun _ _ _ => rfl, fun _ hf => hf, fun _ hf => .inl hf, fun _ _ => rfl, fun _ hx => hx,
    fun b ⟨j, oj, s, k, hj, hpj⟩ => .inl ⟨j, oj, s, k, lt j oj hj (ne j _ hpj), hpj⟩, fun j p hpj => .inl (hH.dom j p hpj)⟩, Grow.set hk, fun _ hx => .inl hx⟩
  · by_cases hji : j = i
    · subst hji
      rw [hg, if_pos rfl] at hj
      cases hj
      exact .inl ⟨hr, .inl ⟨hlen, hp⟩⟩
    · exact hH.obj j oj (lt j oj hj hji)
  · by_cases hji : j = i
    · subst hji; exact hH.lt j o hi
    · exact hH.lt j oj (lt j oj hj hji)

/-- An object is taken away, and another one stands in its block. -/
theorem attach_ok {N F : Nat → Prop} {φ : Phi} {h : Hp reg.T} {w w' : World} {Q : V reg.T × Hp reg.T → Prop} {i b s s' : Nat} {k0 : Nat × Nat} {o o' : O reg.T} {v : V reg.T} {cv : Value} {C : Array Value} {t : TypeId} {fz : Nat × Nat}
    (hH : HR N F φ h w) (hi : h.get i = some o) (hp : φ i = some (b, s, k0)) (hN : ¬N h.nx) (hk : Tr.ok h.nx = true) (hq : Q (v, (h.set i none).new o')) (hos : w'.os = w.os) (htp : w'.tape = w.tape) (hout : w'.output = w.output)
    (hsz : w'.heap.size = w.heap.size) (hold : ∀ b', b' ≠ b → w'.heap[b']? = w.heap[b']?) (hnew : w'.heap[b]? = some (.cells C t fz)) (hfree : free C fz)
    (hr : o'.isRows reg = true) (hat : RowsAt reg F w φ o' s' C) (hv : ∀ φ', φ' h.nx = some (b, s', o'.k reg, C.size) → (∀ i p, φ i = some p → φ' i = some p) → VRel reg F w' φ' v cv) : Res N F φ h w Q cv w' := by
  have hki := hH.ok i (hH.lt i o hi)
  have hfb := hH.own i o b s _ hi hp
  let φ' : Phi := fun j => if j = h.nx then some (b, s', o'.k reg, C.size) else φ j
  have e1 : φ' h.nx = some (b, s', o'.k reg, C.size) := if_pos rfl
  have e2 : ∀ j, j ≠ h.nx → φ' j = φ j := fun j hj => if_neg hj
  have hφ : ∀ j p, φ j = some p → φ' j = some p := fun j p hpj => by rw [e2 j (fun e => hN (e ▸ hH.dom j p hpj))]; exact hpj
  have hm : ∀ b', F b' → F b' ∧ w'.heap[b']? = w.heap[b']? := fun b' hb => ⟨hb, hold b' (fun e => hfb.1 (e ▸ hb))⟩
  have hg : ∀ j, ((h.set i none).new o').get j = if j = h.nx then some o' else if j = i then none else h.get j := fun j => by
    have : (h.set i none).nx = h.nx := rfl
    rw [get_new (by rw [this]; exact hk), this, get_setH hki]
  have lt : ∀ j oj, ((h.set i none).new o').get j = some oj → j ≠ h.nx → h.get j = some oj ∧ N j ∧ j ≠ i := fun j oj hj hn => by
    rw [hg, if_neg hn] at hj
    split at hj
    · cases hj
    · rename_i hji; exact ⟨hj, hH.lt j oj hj, hji⟩
  refine ⟨v, _, fun j => N j ∨ j = h.nx, F, φ', hq, hv φ' e1 hφ, ⟨fun j oj hj => ?_, fun j oj b' s1 k1 hj hpj => ?_, fun a c oa oc b' s1 k1 s2 k2 ha hc hpa hpc => ?_, fun j p hpj => ?_, fun j oj hj => ?_, fun j hj => ?_, fun b' hb => hsz ▸ hH.frz b' hb, hH.lay.mono reg hm⟩,
    ⟨hos, htp, hout, Nat.le_of_eq hsz.symm, fun b' _ hn => hold b' (fun e => hn ⟨i, o, s, _, hi, e ▸ hp⟩), fun _ hf => hf, fun _ hf => .inl hf, fun j hj => ?_, fun j hj => .inl hj, fun b' ⟨j, oj, s1, k1, hj, hpj⟩ => ?_, fun j p hpj => ?_⟩, ?_, fun j hj => hj.imp id (fun e => by subst e; exact ⟨Nat.le_refl _, Nat.lt_succ_self _⟩)⟩
  · by_cases hj' : j = h.nx
    · subst hj'
      rw [hg, if_pos rfl] at hj
      cases hj
      exact .inl ⟨hr, .inr ⟨b, s', C, t, fz, e1, hnew, hfree, hat.mono reg hm hφ⟩⟩
    · obtain ⟨h1, h2, h3⟩ := lt j oj hj hj'
      exact (hH.obj j oj h1).mono reg hm hφ (fun hn => by rw [e2 j hj']; exact hn) (fun b' s1 k1 hpj => hold b' (fun e => h3 (hH.inj j i oj o b' s1 k1 s _ h1 hi hpj (e ▸ hp))))
  · by_cases hj' : j = h.nx
    · subst hj'
      rw [e1] at hpj
      simp only [Option.some.injEq, Prod.mk.injEq] at hpj
      obtain ⟨rfl, _⟩ := hpj
      exact ⟨hfb.1, hsz ▸ hfb.2⟩
    · obtain ⟨h1, _, _⟩ := lt j oj hj hj'
      rw [e2 j hj'] at hpj
      have := hH.own j oj b' s1 k1 h1 hpj
      exact ⟨this.1, hsz ▸ this.2⟩
  · by_cases ha' : a = h.nx
    · by_cases hc' : c = h.nx
      · rw [ha', hc']
      · exfalso
        obtain ⟨h1, _, h3⟩ := lt c oc hc hc'
        rw [ha', e1] at hpa
        rw [e2 c hc'] at hpc
        simp only [Option.some.injEq, Prod.mk.injEq] at hpa
        obtain ⟨rfl, _⟩ := hpa
        exact h3 (hH.inj c i oc o b s2 k2 s _ h1 hi hpc hp)
    · obtain ⟨h1, _, h3⟩ := lt a oa ha ha'
      rw [e2 a ha'] at hpa
      by_cases hc' : c = h.nx
      · exfalso
        rw [hc', e1] at hpc
        simp only [Option.some.injEq, Prod.mk.injEq] at hpc
        obtain ⟨rfl, _⟩ := hpc
        exact h3 (hH.inj a i oa o b s1 k1 s _ h1 hi hpa hp)
      · obtain ⟨h2, _, _⟩ := lt c oc hc hc'
        rw [e2 c hc'] at hpc
        exact hH.inj a c oa oc b' s1 k1 s2 k2 h1 h2 hpa hpc
  · by_cases hj' : j = h.nx
    · exact .inr hj'
    · rw [e2 j hj'] at hpj; exact .inl (hH.dom j p hpj)
  · by_cases hj' : j = h.nx
    · exact .inr hj'
    · exact .inl (lt j oj hj hj').2.1
  · rcases hj with hj | he
    · exact hH.ok j hj
    · rw [he]; exact hk
  · exact e2 j (fun e => hN (e ▸ hj))
  · by_cases hj' : j = h.nx
    · subst hj'
      rw [e1] at hpj
      simp only [Option.some.injEq, Prod.mk.injEq] at hpj
      obtain ⟨rfl, _⟩ := hpj
      exact .inl ⟨i, o, s, _, hi, hp⟩
    · rw [e2 j hj'] at hpj
      exact .inl ⟨j, oj, s1, k1, (lt j oj hj hj').1, hpj⟩
  · by_cases hj' : j = h.nx
    · subst hj'
      rw [e1] at hpj
      cases hpj
      exact .inr (.inr ⟨i, o, s, _, hi, hp⟩)
    · rw [e2 j hj'] at hpj
      exact .inl (hH.dom j p hpj)
  · have g1 : Grow h (h.set i none) := Grow.set hki
    have g2 : Grow (h.set i none) ((h.set i none).new o') := Grow.new hk
    exact g1.trans g2
end
end Go.W
