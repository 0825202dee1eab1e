/- Code with ranges over functions: what it comes to. No conditions. -/
import Derived.Test.YtmnkbfflpgmkmaaGreatDoorWI
import Derived.RangeFuncLeaves
namespace Go.W
open Go Go.RowKit

section
variable {reg : Reg} (P : Program)

def setL {T : Nat → Type} : List Nat → List (V T) → Tr (V T) → Tr (V T)
  | p :: ps, x :: xs, env => setL ps xs (env.set p (some x))
  | _, _, env => env

/-- A heap without some objects. -/
def hideH {T : Nat → Type} (h : Hp T) (l : List Nat) : Hp T := ⟨l.foldl (fun t i => t.set i none) h.h, h.nx, l ++ h.wr⟩

def roundsI {T : Nat → Type} (run : Code → St T → Out (AExit × St T)) (ps : List Nat) (assign body : Code) (env : Tr (V T)) : List (List (V T)) → Hp T → Out (Hp T)
  | [], h => .ret h
  | x :: xs, h => (run assign ⟨setL ps x env, h⟩).bind fun r => match r.1 with
    | .normal => (run body r.2).bind fun r2 => (match r2.1 with | .normal => roundsI run ps assign body env xs r2.2.hp | _ => .bad)
    | _ => .bad

def exitOk : AExit → Bool
  | .exit _ => false
  | _ => true

def itFine {T : Nat → Type} (fn : Func) (cs : List (V T)) (l : List Nat) (ps : List Nat) (nt : Nat) (e : AExit) (out : List (List (V T))) : Bool :=
  fn.results.toList.isEmpty && Nat.ble (cs.length + 1) fn.ntmps && Nat.ble fn.ntmps 1000000 && l.all Tr.ok && exitOk e && out.all (fun x => Nat.beq x.length ps.length) && ps.all (fun p => Nat.blt p nt)

def rangeI (hd : Hd reg.T) (nt fuel : Nat) (g : Operand) (ps : List Nat) (assign body : Code) (st : St reg.T) : Out (AExit × St reg.T) :=
  match valOf st.env.get g with
  | some (.fn f cs []) => (match P.funcs[f]? with
    | some fn => (match fn.body with
      | some c =>
        let l := reach st.hp.get 1000 0 (V.names.goL cs [])
        (exY P hd fn.ntmps fuel c ⟨initEnv (.any :: cs) 0 .e, partH st.hp.get st.hp.nx l, [0], []⟩).bind fun r =>
          Out.ask (itFine fn cs l ps nt r.1 r.2.out) ((roundsI (ex P hd nt fuel) ps assign body st.env r.2.out (hideH st.hp l)).bind fun h => .ret (.normal, ⟨st.env, h⟩))
      | none => .bad)
    | none => .bad)
  | _ => .bad

def exI (hd : Hd reg.T) (nt fuel : Nat) : Code → St reg.T → Out (AExit × St reg.T)
  | .seq a b, st => (exI hd nt fuel a st).bind (thenX (exI hd nt fuel b))
  | .block id c, st => (exI hd nt fuel c st).bind (blockX id)
  | .rangeFunc g ps a b, st => rangeI P hd nt fuel g ps.toList a b st
  | c, st => ex P hd nt fuel c st

def exFunI (hd : Hd reg.T) (fuel : Nat) (f : FuncId) (args : List (V reg.T)) (h : Hp reg.T) : Out (V reg.T × Hp reg.T) :=
  match P.funcs[f]? with
  | none => .bad
  | some fn => (match fn.body with
    | none => .bad
    | some c => Out.ask (Nat.ble args.length fn.ntmps && Nat.ble fn.ntmps 1000000) ((exI P hd fn.ntmps fuel c ⟨initEnv args 0 .e, h⟩).bind (finX P fn)))
end

section
variable {reg : Reg} {P : Program} {hd : Hd reg.T} {nt : Nat}

/-! ### Names -/
theorem hideH_get {h : Hp reg.T} {l : List Nat} (hl : ∀ i ∈ l, Tr.ok i = true) (j : Nat) : (hideH h l).get j = if j ∈ l then none else h.get j := by
  have key : ∀ (l : List Nat) (t : Tr (O reg.T)), (∀ i ∈ l, Tr.ok i = true) → (l.foldl (fun t i => t.set i none) t).get j = if j ∈ l then none else t.get j := by
    intro l
    induction l with
    | nil => intro t _; simp
    | cons i l ih =>
      intro t hk
      rw [List.foldl_cons, ih _ (fun i hi => hk i (by simp [hi])), Tr.get_set (hk i (by simp))]
      by_cases h1 : j ∈ l
      · simp [h1]
      · by_cases h2 : j = i
        · simp [h2]
        · simp [h1, h2]
  exact key l h.h hl

theorem GO.hide {N F : Nat → Prop} {φ : Phi} {h : Hp reg.T} {w : World} {l : List Nat} (hH : HR N F φ h w) (hl : ∀ i ∈ l, Tr.ok i = true) : GO N F φ h w N F φ (hideH h l) w := by
  have sub : ∀ b, Owned reg φ (hideH h l).get b → Owned reg φ h.get b := by
    rintro b ⟨i, o, s, k, h1, h2⟩
    rw [hideH_get hl] at h1
    split at h1
    · cases h1
    · exact ⟨i, o, s, k, h1, h2⟩
  refine ⟨⟨rfl, rfl, rfl, Nat.le_refl _, fun _ _ _ => rfl, fun _ h => h, fun _ h => .inl h, fun _ _ => rfl, fun _ h => h, fun b hb => .inl (sub b hb), fun i p hp => .inl (hH.dom i p hp)⟩, ⟨Nat.le_refl _, l, rfl, fun i hn _ => ?_⟩, fun i hi => .inl hi⟩
  rw [hideH_get hl, if_neg hn]

/-- The world goes on by others' steps. -/
theorem GO.other {N F N' F' : Nat → Prop} {φ φ' : Phi} {h h' : Hp reg.T} {w W W' : World} (g : GO N F φ h w N' F' φ' h' W) (hs : W.heap.size ≤ W'.heap.size) (hb : ∀ b, b < w.heap.size → ¬Owned reg φ h.get b → W'.heap[b]? = W.heap[b]?)
    (h1 : W'.os = W.os) (h2 : W'.tape = W.tape) (h3 : W'.output = W.output) : GO N F φ h w N' F' φ' h' W' :=
  ⟨⟨h1.trans g.goes.os, h2.trans g.goes.tape, h3.trans g.goes.output, Nat.le_trans g.goes.size hs, fun b hb1 hb2 => (hb b hb1 hb2).trans (g.goes.block b hb1 hb2), g.goes.fsub, g.goes.fnew, g.goes.phi, g.goes.names, g.goes.dom, g.goes.new⟩, g.grow, g.names⟩

theorem RF.later {dl : List Deferred} {N F : Nat → Prop} {φ : Phi} {s : FS reg.T} {a : Act} {w w' : World} (h : RF dl N F φ nt s a w) (hs : w.heap.size ≤ w'.heap.size) (hb : ∀ b, F b ∨ Owned reg φ s.H b → w'.heap[b]? = w.heap[b]?) : RF dl N F φ nt s a w' :=
  ⟨fun t v hv => ⟨(h.env t v hv).1, (h.env t v hv).2.mono reg (fun b hf => ⟨hf, hb b (.inl hf)⟩) (fun _ _ hp => hp)⟩, h.size, h.heap.later hs hb, h.dfs⟩

/-! ### The parameters of a round -/
theorem setL_rel {F : Nat → Prop} {φ : Phi} {w : World} (hnt : nt ≤ 1000000) : ∀ (ps : List Nat) (xs : List (V reg.T)) (cxs : List Value) (env : Tr (V reg.T)) (tmps : Array Value), xs.length = cxs.length → (∀ p ∈ ps, p < nt) →
    (∀ j, j < xs.length → VRel reg F w φ (xs.getD j .any) (cxs.getD j undef)) → (∀ t v, env.get t = some v → t < nt ∧ VRel reg F w φ v (tmps.getD t undef)) → tmps.size = nt →
    (∀ t v, (setL ps xs env).get t = some v → t < nt ∧ VRel reg F w φ v (((ps.zip cxs).foldl (fun t (p, v) => t.setIfInBounds p v) tmps).getD t undef)) ∧ ((ps.zip cxs).foldl (fun t (p, v) => t.setIfInBounds p v) tmps).size = nt := by
  intro ps
  induction ps with
  | nil => intro xs cxs env tmps _ _ _ he hs; exact ⟨by simpa [setL] using he, by simpa using hs⟩
  | cons p ps ih =>
    intro xs cxs env tmps hl hp hx he hs
    cases xs with
    | nil =>
      have : cxs = [] := List.eq_nil_of_length_eq_zero (by simpa using hl.symm)
      subst this
      exact ⟨by simpa [setL] using he, by simpa using hs⟩
    | cons x xs =>
      cases cxs with
      | nil => simp at hl
      | cons c cxs =>
        simp only [setL, List.zip_cons_cons, List.foldl_cons]
        have hp0 := hp p (by simp)
        refine ih xs cxs _ _ (by simpa using hl) (fun q hq => hp q (by simp [hq])) (fun j hj => by simpa using hx (j + 1) (by simpa using hj)) (fun t v hv => ?_) (by simpa using hs)
        rw [Tr.get_set (by unfold Tr.ok; simp; omega)] at hv
        simp only [Array.getD_eq_getD_getElem?, Array.getElem?_setIfInBounds]
        by_cases e : t = p
        · subst e
          rw [if_pos rfl] at hv
          cases hv
          refine ⟨hp0, ?_⟩
          rw [if_pos rfl, if_pos (by omega)]
          simpa using hx 0 (by simp)
        · rw [if_neg e] at hv
          have := he t v hv
          rw [if_neg (Ne.symm e)]
          exact ⟨this.1, by simpa [Array.getD_eq_getD_getElem?] using this.2⟩

/-! ### Rounds -/
theorem roundsI_mono (hnt : nt ≤ 1000000) {fuel : Nat} {ps : List Nat} {assign body : Code} {env : Tr (V reg.T)} : ∀ {xs : List (List (V reg.T))} {h hE : Hp reg.T}, (roundsI (ex P hd nt fuel) ps assign body env xs h).K (· = hE) → h.nx ≤ hE.nx := by
  intro xs
  induction xs with
  | nil => intro h hE hk; have hk : h = hE := hk; subst hk; exact Nat.le_refl _
  | cons x xs ih =>
    intro h hE hk
    simp only [roundsI] at hk
    rw [Out.K_bind] at hk
    obtain ⟨⟨e, s1⟩, h1, h2⟩ := (Out.K_iff _ _).1 hk
    obtain ⟨_, h1', hle1⟩ := (Out.K_iff _ _).1 (ex_mono hnt assign _ _ h1)
    obtain ⟨rfl, hle1⟩ := hle1
    cases e with
    | normal =>
      simp only at h2
      rw [Out.K_bind] at h2
      obtain ⟨⟨e2, s2⟩, h3, h4⟩ := (Out.K_iff _ _).1 h2
      obtain ⟨_, _, hle2⟩ := (Out.K_iff _ _).1 (ex_mono hnt body _ _ h3)
      obtain ⟨rfl, hle2⟩ := hle2
      cases e2 with
      | normal => exact Nat.le_trans hle1 (Nat.le_trans hle2 (ih h4))
      | exit id => exact h4.elim
      | ret => exact h4.elim
    | exit id => exact h2.elim
    | ret => exact h2.elim

/-- What stays of the caller between two rounds. -/
structure BI (P : Program) (hd : Hd reg.T) (nt fuel : Nat) (ps : List Nat) (assign body : Code) (env : Tr (V reg.T)) (items : List (List (V reg.T))) (hE : Hp reg.T) (tmps : Array Value) (rec : LoopState → Option Code → Loop)
    (N0 F0 : Nat → Prop) (φ0 : Phi) (h0 : Hp reg.T) (w : World) (k : Nat) (O X : Nat → Prop) (W : World) (h : Hp reg.T) (N F : Nat → Prop) (φ : Phi) : Prop where
  runs : (roundsI (ex P hd nt fuel) ps assign body env (items.drop k) h).K (· = hE)
  rel : RF [] N F φ nt ⟨env.get, h.get⟩ { tmps := tmps, defers := [] } W
  go : GO N0 F0 φ0 h0 w N F φ h W
  oOld : ∀ b, O b → Owned reg φ0 h0.get b ∨ w.heap.size ≤ b
  oF : ∀ b, O b → ¬F b ∧ ¬Owned reg φ h.get b
  xO : ∀ b, X b → ¬Owned reg φ h.get b
  lt : ∀ b, O b ∨ X b → b < W.heap.size
  dF : ¬F w.heap.size ∧ ¬F (w.heap.size + 1)
  dO : ¬Owned reg φ h.get w.heap.size ∧ ¬Owned reg φ h.get (w.heap.size + 1)
  dX : (¬O w.heap.size ∧ ¬O (w.heap.size + 1)) ∧ ¬X w.heap.size ∧ ¬X (w.heap.size + 1)
  recd : W.heap[w.heap.size + 1]? = some (.loop (rec .ready none))
  dfd : W.heap[w.heap.size]? = some (.deferred (some []))

theorem heap_lt {W : World} {b : Nat} {o : Obj} (h : W.heap[b]? = some o) : b < W.heap.size := (Array.getElem?_eq_some_iff.1 h).1

theorem bi_keeps {fuel : Nat} {ps : List Nat} {assign body : Code} {env : Tr (V reg.T)} {items : List (List (V reg.T))} {hE : Hp reg.T} {tmps : Array Value} {rec : LoopState → Option Code → Loop} {N0 F0 : Nat → Prop} {φ0 : Phi} {h0 : Hp reg.T} {w : World} :
    Keeps fun k O X W => ∃ h N F φ, BI P hd nt fuel ps assign body env items hE tmps rec N0 F0 φ0 h0 w k O X W h N F φ := by
  refine ⟨fun k O X W O' X' W' hJ hs hb h1 h2 h3 hO hX => ?_⟩
  obtain ⟨h, N, F, φ, b⟩ := hJ
  have same : ∀ c, F c ∨ Owned reg φ h.get c → W'.heap[c]? = W.heap[c]? := by
    rintro c (hc | hc)
    · exact hb c (b.rel.heap.frz c hc) (fun ho => (b.oF c ho).1 hc)
    · have hlt : c < W.heap.size := by obtain ⟨i, o, s, kk, e1, e2⟩ := hc; exact (b.rel.heap.own i o c s kk e1 e2).2
      exact hb c hlt (fun ho => (b.oF c ho).2 hc)
  have newF : ∀ c, W.heap.size ≤ c → ¬F c := fun c hc hf => by have := b.rel.heap.frz c hf; omega
  have newO : ∀ c, W.heap.size ≤ c → ¬Owned reg φ h.get c := fun c hc ⟨i, o, s, kk, e1, e2⟩ => by have := (b.rel.heap.own i o c s kk e1 e2).2; omega
  have hL := heap_lt b.recd
  have hD := heap_lt b.dfd
  have nO : ∀ c, c < W.heap.size → ¬O c → ¬O' c := fun c hc hn ho => by rcases (hO c ho).1 with h | h; exact hn h; omega
  have nX : ∀ c, c < W.heap.size → ¬X c → ¬X' c := fun c hc hn ho => by rcases (hX c ho).1 with h | h; exact hn h; omega
  refine ⟨h, N, F, φ, b.runs, b.rel.later hs same, b.go.other hs (fun c hc hn => hb c (Nat.lt_of_lt_of_le hc b.go.goes.size) (fun ho => by rcases b.oOld c ho with h | h; exact hn h; omega)) h1 h2 h3, fun c hc => ?_, fun c hc => ?_, fun c hc => ?_, fun c hc => ?_, b.dF, b.dO, ⟨⟨nO _ hD b.dX.1.1, nO _ hL b.dX.1.2⟩, nX _ hD b.dX.2.1, nX _ hL b.dX.2.2⟩, (hb _ hL b.dX.1.2).trans b.recd, (hb _ hD b.dX.1.1).trans b.dfd⟩
  · rcases (hO c hc).1 with h5 | h5
    · exact b.oOld c h5
    · exact .inr (Nat.le_trans b.go.goes.size h5)
  · rcases (hO c hc).1 with h5 | h5
    · exact b.oF c h5
    · exact ⟨newF c h5, newO c h5⟩
  · rcases (hX c hc).1 with h5 | h5
    · exact b.xO c h5
    · exact newO c h5
  · rcases hc with hc | hc
    · exact (hO c hc).2
    · exact (hX c hc).2

theorem fresh_at {N0 N F0 F : Nat → Prop} {φ0 φ : Phi} {h0 h : Hp reg.T} {w W : World} {z z' : Nat} (hf : Fresh N0 h0.nx z) (g : GO N0 F0 φ0 h0 w N F φ h W) (hz : z' ≤ z) : Fresh N h.nx z' :=
  fresh_less (fresh_next hf g.grow.1 g.names) hz

theorem owned_lt {N F : Nat → Prop} {φ : Phi} {H : Nat → Option (O reg.T)} {W : World} (h : HRel reg F φ N H W) {b : Nat} (ho : Owned reg φ H b) : b < W.heap.size := by
  obtain ⟨i, o, s, k, e1, e2⟩ := ho
  exact (h.own i o b s k e1 e2).2

/-- One round. -/
theorem bi_round (hm : P.follows .mixedOrders = true) (hHd : HdSound P hd) (hnt : nt ≤ 1000000) {fuel : Nat} {ps : Array Tmp} {assign body : Code} {env : Tr (V reg.T)} {items : List (List (V reg.T))} {hE : Hp reg.T} {tmps : Array Value} {rec : LoopState → Option Code → Loop} {N0 F0 : Nat → Prop} {φ0 : Phi} {h0 : Hp reg.T} {w : World} {fn : FuncId}
    (hrec : rec = fun st pe => { state := st, pending := pe, fn, tmps, params := ps, assign, body, defers := w.heap.size }) (hfr : Fresh N0 h0.nx hE.nx) (hlen : ∀ x ∈ items, x.length = ps.toList.length) (hps : ∀ p ∈ ps.toList, p < nt) (m : Nat) :
    YOk P m (w.heap.size + 1) items (fun k O X W => ∃ h N F φ, BI P hd nt fuel ps.toList assign body env items hE tmps rec N0 F0 φ0 h0 w k O X W h N F φ) := by
  intro k O X W xs cxs hxs hJ hl
  obtain ⟨h, N, F, φ, b⟩ := hJ
  have hlt : k < items.length := by
    rcases Nat.lt_or_ge k items.length with h | h
    · exact h
    · rw [List.getElem?_eq_none h] at hxs; cases hxs
  have hdrop : items.drop k = xs :: items.drop (k + 1) := by
    rw [List.drop_eq_getElem_cons hlt]
    rw [List.getElem?_eq_getElem hlt] at hxs
    cases hxs; rfl
  have hr := b.runs
  rw [hdrop] at hr
  simp only [roundsI] at hr
  rw [Out.K_bind] at hr
  obtain ⟨⟨e1, s1⟩, h1, h2⟩ := (Out.K_iff _ _).1 hr
  cases e1 with
  | exit id => exact h2.elim
  | ret => exact h2.elim
  | normal =>
  simp only at h2
  rw [Out.K_bind] at h2
  obtain ⟨⟨e2, s2⟩, h3, h4⟩ := (Out.K_iff _ _).1 h2
  cases e2 with
  | exit id => exact h4.elim
  | ret => exact h4.elim
  | normal =>
  simp only at h4
  obtain ⟨_, _, hle2⟩ := (Out.K_iff _ _).1 (ex_mono hnt body _ _ h3)
  obtain ⟨e', hle2⟩ := hle2
  subst e'
  have hle3 : s2.hp.nx ≤ hE.nx := roundsI_mono hnt h4
  simp only at hle2
  have hmem : xs ∈ items := List.mem_of_getElem? hxs
  have hxl := hlen xs hmem
  have hsz : cxs.size = ps.size := by
    have := (hl F φ).1
    rw [← this, hxl, Array.length_toList]
  have hL := heap_lt b.recd
  have hD := heap_lt b.dfd
  have hy := run_yield (P := P) (args := cxs) b.recd (by rw [hrec]; exact hsz)
  rw [hrec] at hy
  refine ⟨fn, _, assign, body, hy, roundIn_of_wpIn trivial ?_⟩
  -- the parameters
  have hset := setL_rel (F := F) (φ := φ) (w := W) hnt ps.toList xs cxs.toList env tmps (by rw [hxl, Array.length_toList, Array.length_toList, hsz]) hps
    (fun j hj => by have := (hl F φ).2 j hj; simpa [Array.getD_eq_getD_getElem?, List.getD] using this) (fun t v hv => b.rel.env t v hv) b.rel.size
  have hfold : (ps.zip cxs).foldl (fun tmps (x : Nat × Value) => tmps.setIfInBounds x.1 x.2) tmps = (ps.toList.zip cxs.toList).foldl (fun t (x : Nat × Value) => t.setIfInBounds x.1 x.2) tmps := by
    rw [← Array.foldl_toList, Array.toList_zip]
  have hR1 : RF [] N F φ nt ⟨(setL ps.toList xs env).get, h.get⟩ { tmps := (ps.zip cxs).foldl (fun tmps (x : Nat × Value) => tmps.setIfInBounds x.1 x.2) tmps, defers := [] } W := by
    rw [hfold]
    exact ⟨hset.1, hset.2, b.rel.heap, rfl⟩
  refine wpIn_mono (ex_in hm hHd hnt assign ⟨setL ps.toList xs env, h⟩ _ h1 hR1 (by rintro r rfl; exact fresh_at hfr b.go (Nat.le_trans hle2 hle3)) (some (w.heap.size + 1)) m) (fun e a1 W1 he => ?_)
  cases e with
  | exit id => obtain ⟨st', N', F', φ', e3, _⟩ := he; cases e3
  | ret => obtain ⟨st', N', F', φ', e3, _⟩ := he; cases e3
  | goto l => exact he.elim
  | panic ch => exact he.elim
  | outgrown => exact he.elim
  | normal =>
  obtain ⟨st', N1, F1, φ1, e3, hR1, hG1⟩ := he
  cases e3
  have hrec1 : W1.heap[w.heap.size + 1]? = some (.loop (rec .ready none)) := (hG1.goes.block _ hL b.dO.2).trans b.recd
  have hdfd1 : W1.heap[w.heap.size]? = some (.deferred (some [])) := (hG1.goes.block _ hD b.dO.1).trans b.dfd
  have dO1 : ¬Owned reg φ1 s1.hp.get w.heap.size ∧ ¬Owned reg φ1 s1.hp.get (w.heap.size + 1) := ⟨fun h => by rcases hG1.goes.dom _ h with h | h; exact b.dO.1 h; omega, fun h => by rcases hG1.goes.dom _ h with h | h; exact b.dO.2 h; omega⟩
  have dF1 : ¬F1 w.heap.size ∧ ¬F1 (w.heap.size + 1) := ⟨fun h => by rcases hG1.goes.fnew _ h with h | h | h; exact b.dF.1 h; omega; exact b.dO.1 h, fun h => by rcases hG1.goes.fnew _ h with h | h | h; exact b.dF.2 h; omega; exact b.dO.2 h⟩
  refine ⟨_, run_beginRound hrec1 (by rw [hrec]), ?_⟩
  obtain ⟨W2, hW2⟩ : ∃ W2, W1.putObj (w.heap.size + 1) (.loop { rec .ready none with state := .busy }) = W2 := ⟨_, rfl⟩
  rw [hW2]
  have hs2 : W2.heap.size = W1.heap.size := by rw [← hW2]; simp
  have hb2 : ∀ c, c ≠ w.heap.size + 1 → W2.heap[c]? = W1.heap[c]? := fun c hc => by rw [← hW2]; exact World.putObj_heap_other hc
  have hrec2 : W2.heap[w.heap.size + 1]? = some (.loop { rec .ready none with state := .busy }) := by rw [← hW2]; exact World.putObj_heap_same (heap_lt hrec1)
  have ho2 : W2.os = W1.os ∧ W2.tape = W1.tape ∧ W2.output = W1.output := by rw [← hW2]; exact ⟨rfl, rfl, rfl⟩
  have hR2 : RF [] N1 F1 φ1 nt ⟨s1.env.get, s1.hp.get⟩ a1 W2 := hR1.later (by omega) (fun c hc => hb2 c (fun e => by subst e; rcases hc with hc | hc; exact dF1.2 hc; exact dO1.2 hc))
  have g1 := b.go.trans hG1
  have g2 : GO N0 F0 φ0 h0 w N1 F1 φ1 s1.hp W2 := g1.other (by omega) (fun c hc _ => hb2 c (by omega)) ho2.1 ho2.2.1 ho2.2.2
  refine wpIn_mono (ex_in hm hHd hnt body s1 _ h3 hR2 (by rintro r rfl; exact fresh_at hfr g2 hle3) (some (w.heap.size + 1)) m) (fun e a3 W3 he => ?_)
  cases e with
  | exit id => obtain ⟨st', N', F', φ', e3, _⟩ := he; cases e3
  | ret => obtain ⟨st', N', F', φ', e3, _⟩ := he; cases e3
  | goto l => exact he.elim
  | panic ch => exact he.elim
  | outgrown => exact he.elim
  | normal =>
  obtain ⟨st', N3, F3, φ3, e3, hR3, hG3⟩ := he
  cases e3
  have hL2 := heap_lt hrec2
  have hD1 := heap_lt hdfd1
  have hdfd2 : W2.heap[w.heap.size]? = some (.deferred (some [])) := (hb2 _ (by omega)).trans hdfd1
  have hrec3 : W3.heap[w.heap.size + 1]? = some (.loop { rec .ready none with state := .busy }) := (hG3.goes.block _ hL2 dO1.2).trans hrec2
  have hdfd3 : W3.heap[w.heap.size]? = some (.deferred (some [])) := (hG3.goes.block _ (heap_lt hdfd2) dO1.1).trans hdfd2
  have dO3 : ¬Owned reg φ3 s2.hp.get w.heap.size ∧ ¬Owned reg φ3 s2.hp.get (w.heap.size + 1) := ⟨fun h => by rcases hG3.goes.dom _ h with h | h; exact dO1.1 h; omega, fun h => by rcases hG3.goes.dom _ h with h | h; exact dO1.2 h; omega⟩
  have dF3 : ¬F3 w.heap.size ∧ ¬F3 (w.heap.size + 1) := ⟨fun h => by rcases hG3.goes.fnew _ h with h | h | h; exact dF1.1 h; omega; exact dO1.1 h, fun h => by rcases hG3.goes.fnew _ h with h | h | h; exact dF1.2 h; omega; exact dO1.2 h⟩
  have hend := run_endRound (P := P) none hrec3
  refine ⟨_, _, hend, rfl, ?_⟩
  obtain ⟨W4, hW4⟩ : ∃ W4, W3.putObj (w.heap.size + 1) (.loop { ({ rec .ready none with state := .busy } : Loop) with state := if (none : Option Code).isNone then .ready else .done, pending := none }) = W4 := ⟨_, rfl⟩
  rw [hW4]
  have hs4 : W4.heap.size = W3.heap.size := by rw [← hW4]; simp
  have hb4 : ∀ c, c ≠ w.heap.size + 1 → W4.heap[c]? = W3.heap[c]? := fun c hc => by rw [← hW4]; exact World.putObj_heap_other hc
  have hrec4 : W4.heap[w.heap.size + 1]? = some (.loop (rec .ready none)) := by
    rw [← hW4, World.putObj_heap_same (heap_lt hrec3), hrec]; rfl
  have ho4 : W4.os = W3.os ∧ W4.tape = W3.tape ∧ W4.output = W3.output := by rw [← hW4]; exact ⟨rfl, rfl, rfl⟩
  have hsz12 : W.heap.size ≤ W1.heap.size := hG1.goes.size
  have hsz23 : W2.heap.size ≤ W3.heap.size := hG3.goes.size
  -- blocks that nobody owns
  have calm : ∀ c, c < W.heap.size → ¬Owned reg φ h.get c → c ≠ w.heap.size + 1 → W4.heap[c]? = W.heap[c]? := by
    intro c hc hn hne
    have hn1 : ¬Owned reg φ1 s1.hp.get c := fun ho => by rcases hG1.goes.dom _ ho with h | h; exact hn h; omega
    rw [hb4 c hne, hG3.goes.block c (by omega) hn1, hb2 c hne, hG1.goes.block c hc hn]
  have frz : ∀ c, F c → W4.heap[c]? = W.heap[c]? := fun c hc => calm c (b.rel.heap.frz c hc) (fun ⟨i, o, s, kk, q1, q2⟩ => (b.rel.heap.own i o c s kk q1 q2).1 hc) (fun e => by subst e; exact b.dF.2 hc)
  have g4 : GO N0 F0 φ0 h0 w N3 F3 φ3 s2.hp W4 := (g2.trans hG3).other (by omega) (fun c hc _ => hb4 c (by omega)) ho4.1 ho4.2.1 ho4.2.2
  have fsub : ∀ c, F c → F3 c := fun c hc => hG3.goes.fsub c (hG1.goes.fsub c hc)
  have phi : ∀ i p, φ i = some p → φ3 i = some p := fun i p hp => (hG3.goes.keep hR2.heap).2 i p ((hG1.goes.keep b.rel.heap).2 i p hp)
  have noO : ∀ c, c < W.heap.size → ¬Owned reg φ h.get c → ¬Owned reg φ3 s2.hp.get c := fun c hc hn ho => by
    rcases hG3.goes.dom _ ho with h | h
    · rcases hG1.goes.dom _ h with h | h
      · exact hn h
      · omega
    · omega
  have noF : ∀ c, c < W.heap.size → ¬F c → ¬Owned reg φ h.get c → ¬F3 c := fun c hc hf hn h3 => by
    rcases hG3.goes.fnew _ h3 with h | h | h
    · rcases hG1.goes.fnew _ h with h | h | h
      · exact hf h
      · omega
      · exact hn h
    · omega
    · rcases hG1.goes.dom _ h with h | h
      · exact hn h
      · omega
  have hR4 : HRel reg F3 φ3 N3 s2.hp.get W4 := (hR3.later (by omega) (fun c hc => hb4 c (fun e => by subst e; rcases hc with hc | hc; exact dF3.2 hc; exact dO3.2 hc))).heap
  refine ⟨⟨s2.hp, N3, F3, φ3, h4, ⟨fun t v hv => ⟨(b.rel.env t v hv).1, (b.rel.env t v hv).2.mono reg (fun c hc => ⟨fsub c hc, frz c hc⟩) phi⟩, b.rel.size, hR4, rfl⟩, g4, b.oOld, fun c hc => ⟨noF c (b.lt c (.inl hc)) (b.oF c hc).1 (b.oF c hc).2, noO c (b.lt c (.inl hc)) (b.oF c hc).2⟩, fun c hc => noO c (b.lt c (.inr hc)) (b.xO c hc), fun c hc => by have := b.lt c hc; omega, dF3, dO3, b.dX, hrec4, (hb4 _ (by omega)).trans hdfd3⟩, ⟨by omega, fun c hx hc => calm c hc (b.xO c hx) (fun e => by subst e; exact b.dX.2.2 hx)⟩⟩

/-! ### Ways out, with marks -/
def Mk (φ : Phi) (H : Nat → Option (O reg.T)) (F : Nat → Prop) (B : Nat) (w : World) (ml : List Deferred) : Prop :=
  ml.Nodup ∧ ∀ d ∈ ml, ∃ D : Nat, d = { target := .collected D, args := #[] } ∧ B ≤ D ∧ w.heap[D]? = some (.deferred (some [])) ∧ ¬F D ∧ ¬Owned reg φ H D

def ComeM (dl : List Deferred) (Q : AExit × St reg.T → Prop) (nt : Nat) (N F : Nat → Prop) (φ : Phi) (h : Hp reg.T) (w : World) (e : AExit) (a' : Act) (w' : World) : Prop :=
  ∃ st' N' F' φ' ml, Q (e, st') ∧ RS (ml ++ dl) N' F' φ' nt st' a' w' ∧ GO N F φ h w N' F' φ' st'.hp w' ∧ Mk φ' st'.hp.get F' w.heap.size w' ml

def MPost (dl : List Deferred) (Q : AExit × St reg.T → Prop) (nt : Nat) (N F : Nat → Prop) (φ : Phi) (h : Hp reg.T) (w : World) : Exit → Act → World → Prop
  | .normal, a', w' => ComeM dl Q nt N F φ h w .normal a' w'
  | .exit id, a', w' => ComeM dl Q nt N F φ h w (.exit id) a' w'
  | .ret, a', w' => ComeM dl Q nt N F φ h w .ret a' w'
  | _, _, _ => False

theorem MPost.of {dl : List Deferred} {Q : AExit × St reg.T → Prop} {N F : Nat → Prop} {φ : Phi} {h : Hp reg.T} {w : World} {e : Exit} {a' : Act} {w' : World} (hx : XPost dl Q nt N F φ h w e a' w') : MPost dl Q nt N F φ h w e a' w' := by
  have key : ∀ e', Come dl Q nt N F φ h w e' a' w' → ComeM dl Q nt N F φ h w e' a' w' := by
    rintro e' ⟨st', N', F', φ', h1, h2, h3⟩
    exact ⟨st', N', F', φ', [], h1, h2, h3, List.nodup_nil, fun d hd => by cases hd⟩
  cases e with
  | normal => exact key _ hx
  | exit id => exact key _ hx
  | ret => exact key _ hx
  | goto l => exact hx.elim
  | panic ch => exact hx.elim
  | outgrown => exact hx.elim

theorem ComeM.from {dl ml : List Deferred} {Q : AExit × St reg.T → Prop} {N N' F F' : Nat → Prop} {φ φ' : Phi} {h h' : Hp reg.T} {w w' : World} {e : AExit} {a' : Act} {w'' : World} (g : GO N F φ h w N' F' φ' h' w') (hm : Mk φ' h'.get F' w.heap.size w' ml)
    (c : ComeM (ml ++ dl) Q nt N' F' φ' h' w' e a' w'') : ComeM dl Q nt N F φ h w e a' w'' := by
  obtain ⟨st', N'', F'', φ'', ml', h1, h2, h3, h4⟩ := c
  refine ⟨st', N'', F'', φ'', ml' ++ ml, h1, by rw [List.append_assoc]; exact h2, g.trans h3, List.nodup_append.2 ⟨h4.1, hm.1, fun d hd d' hd' e => ?_⟩, fun d hd => ?_⟩
  · subst e
    obtain ⟨D, e1, e2, _⟩ := h4.2 d hd
    obtain ⟨D', e1', _, e3', _⟩ := hm.2 d hd'
    have := heap_lt e3'
    rw [e1] at e1'
    simp at e1'
    omega
  · rcases List.mem_append.1 hd with hd | hd
    · obtain ⟨D, e1, e2, e3⟩ := h4.2 d hd
      exact ⟨D, e1, Nat.le_trans g.goes.size e2, e3⟩
    · obtain ⟨D, e1, e2, e3, e4, e5⟩ := hm.2 d hd
      have hlt := heap_lt e3
      refine ⟨D, e1, e2, (h3.goes.block D hlt e5).trans e3, fun hf => ?_, fun ho => ?_⟩
      · rcases h3.goes.fnew D hf with h | h | h
        · exact e4 h
        · omega
        · exact e5 h
      · rcases h3.goes.dom D ho with h | h
        · exact e5 h
        · omega

/-! ### The statement -/
theorem rangeI_mono (hnt : nt ≤ 1000000) {fuel : Nat} {g : Operand} {ps : List Nat} {assign body : Code} {st : St reg.T} {Q : AExit × St reg.T → Prop} (h : (rangeI P hd nt fuel g ps assign body st).K Q) : (rangeI P hd nt fuel g ps assign body st).K fun r => Q r ∧ st.hp.nx ≤ r.2.hp.nx := by
  unfold rangeI at h ⊢
  split at h
  · split at h
    · split at h
      · simp only at h ⊢
        rw [Out.K_bind] at h ⊢
        refine Out.K_mono h (fun r h2 => ?_)
        obtain ⟨hf, h2⟩ := Out.K_ask.1 h2
        refine Out.K_ask.2 ⟨hf, ?_⟩
        rw [Out.K_bind] at h2 ⊢
        obtain ⟨hE, h3, h4⟩ := (Out.K_iff _ _).1 h2
        have hle := roundsI_mono hnt h3
        exact (Out.K_iff _ _).2 ⟨hE, h3, h4, hle⟩
      · exact h.elim
    · exact h.elim
  · exact h.elim

theorem rangeI_sound (hm : P.follows .mixedOrders = true) (hno : ∀ (f : FuncId) fn, P.funcs[f]? = some fn → fn.body.isNone = false → (fn.name == "runtime.NumGoroutine") = false) (hHd : HdSound P hd) (hnt : nt ≤ 1000000) {fuel m : Nat} {g : Operand} {ps : Array Tmp} {assign body : Code} {st : St reg.T} {Q : AExit × St reg.T → Prop}
    (h : (rangeI P hd nt fuel g ps.toList assign body st).K Q) {dl : List Deferred} {N F : Nat → Prop} {φ : Phi} {a : Act} {w : World} (hR : RS dl N F φ nt st a w) (hfr : ∀ r, Q r → Fresh N st.hp.nx r.2.hp.nx) :
    (Code.rangeFunc g ps assign body).wpIn (Fr none) (m + 2) P (MPost dl Q nt N F φ st.hp w) a w := by
  unfold rangeI at h
  split at h
  case h_2 => exact h.elim
  rename_i f cs hval
  have hv := valOf_rel hR hval
  split at h
  case h_2 => exact h.elim
  rename_i fn hfn
  split at h
  case h_2 => exact h.elim
  rename_i c hb
  simp only at h
  obtain ⟨l, hl⟩ : ∃ l, reach st.hp.get 1000 0 (V.names.goL cs []) = l := ⟨_, rfl⟩
  rw [hl, Out.K_bind] at h
  obtain ⟨r, h1, h2⟩ := (Out.K_iff _ _).1 h
  obtain ⟨hfine, h2⟩ := Out.K_ask.1 h2
  rw [Out.K_bind] at h2
  obtain ⟨hE, h3, h4⟩ := (Out.K_iff _ _).1 h2
  have h4 : Q (.normal, ⟨st.env, hE⟩) := h4
  have hfr0 : Fresh N st.hp.nx hE.nx := hfr _ h4
  unfold itFine at hfine
  simp only [Bool.and_eq_true, List.all_eq_true] at hfine
  obtain ⟨⟨⟨⟨⟨⟨f1, f2⟩, f3⟩, f4⟩, f5⟩, f6⟩, f7⟩ := hfine
  have f2 : cs.length + 1 ≤ fn.ntmps := Nat.le_of_ble_eq_true f2
  have f3 : fn.ntmps ≤ 1000000 := Nat.le_of_ble_eq_true f3
  have f1 : fn.results = #[] := by
    have : fn.results.toList = [] := by simpa using f1
    rw [← Array.toArray_toList (xs := fn.results), this]
  have hbn : fn.body.isNone = false := by rw [hb]; rfl
  have hname : ¬ fn.name = "runtime.NumGoroutine" := fun e => by have := hno f fn hfn hbn; rw [e] at this; simp at this
  have hbody' : ¬ fn.body = none := fun e => by rw [e] at hb; cases hb
  obtain ⟨ccs, hag, hcl⟩ : ∃ ccs, a.eval g = .func (.func f) #[] ccs ∧ LRel F w φ cs ccs := by
    generalize hag : a.eval g = ag at hv
    cases hv with
    | fn _ _ _ ccs cfs hz hr hz' hr' =>
      have : cfs = #[] := Array.eq_empty_of_size_eq_zero (by simpa using hz'.symm)
      subst this
      exact ⟨ccs, rfl, hz, hr⟩
  refine wpIn_rangeFunc (fun fnid _ => ?_)
  obtain ⟨rec, hrec⟩ : ∃ rec : LoopState → Option Code → Loop, rec = fun st pe => { state := st, pending := pe, fn := fnid, tmps := a.tmps, params := ps, assign, body, defers := w.heap.size } := ⟨_, rfl⟩
  obtain ⟨W1, hW1⟩ : ∃ W1, (w.alloc (.deferred (some []))).alloc (.loop (rec .ready none)) = W1 := ⟨_, rfl⟩
  have hs1 : W1.heap.size = w.heap.size + 2 := by rw [← hW1]; simp
  have hb1 : ∀ b, b < w.heap.size → W1.heap[b]? = w.heap[b]? := fun b hb => by
    rw [← hW1, Below.heap_alloc _ _ _ (by simp; omega), Below.heap_alloc _ _ _ hb]
  have hL1 : W1.heap[w.heap.size + 1]? = some (.loop (rec .ready none)) := by
    rw [← hW1]
    have := World.alloc_heap_new (w.alloc (.deferred (some []))) (.loop (rec .ready none))
    rwa [World.size_alloc] at this
  have hD1 : W1.heap[w.heap.size]? = some (.deferred (some [])) := by
    rw [← hW1, Below.heap_alloc _ _ _ (by simp)]
    exact World.alloc_heap_new w _
  have ho1 : W1.os = w.os ∧ W1.tape = w.tape ∧ W1.output = w.output := by rw [← hW1]; exact ⟨rfl, rfl, rfl⟩
  refine ⟨w.heap.size + 1, [{ target := .collected w.heap.size, args := #[] }], W1, { target := .fn (.func f) ccs, args := #[.func (.yield (w.heap.size + 1)) #[] #[]] }, W1, f, #[.func (.yield (w.heap.size + 1)) #[] #[]] ++ ccs, W1, ?_, ?_, fun _ _ => trivial, ?_, fun hh => (by cases hh), ?_⟩
  · rw [← hW1, hrec]; exact run_enterLoop_outer _ _ _ _ _
  · simp only [resolve, hag]
    simp [Deferred.ofValue, Act.eval]
  · simp [invoke, callFunc, hfn, hname, hbody']
  have hpg := partH_get (H := st.hp.get) (n0 := st.hp.nx) f4
  have hhg := hideH_get (h := st.hp) f4
  have subP : ∀ i o, (partH st.hp.get st.hp.nx l).get i = some o → st.hp.get i = some o := fun i o hi => by
    rw [hpg] at hi
    split at hi
    · exact hi
    · cases hi
  have subH : ∀ i o, (hideH st.hp l).get i = some o → st.hp.get i = some o := fun i o hi => by
    rw [hhg] at hi
    split at hi
    · cases hi
    · exact hi
  have keep1 : ∀ b, F b ∨ Owned reg φ st.hp.get b → W1.heap[b]? = w.heap[b]? := by
    rintro b (hb | hb)
    · exact hb1 b (hR.heap.frz b hb)
    · exact hb1 b (owned_lt hR.heap hb)
  have hRw := hR.later (by omega) keep1
  have apart : ∀ b, Owned reg φ (partH st.hp.get st.hp.nx l).get b → ¬Owned reg φ (hideH st.hp l).get b := by
    rintro b ⟨i, o, s, k, e1, e2⟩ ⟨j, o', s', k', e1', e2'⟩
    have hij := hR.heap.inj i j o o' b s k s' k' (subP i o e1) (subH j o' e1') e2 e2'
    subst hij
    rw [hpg] at e1
    rw [hhg] at e1'
    by_cases hil : i ∈ l
    · rw [if_pos hil] at e1'; cases e1'
    · rw [if_neg hil] at e1; cases e1
  have own1 : ∀ b, Owned reg φ (partH st.hp.get st.hp.nx l).get b → Owned reg φ st.hp.get b := fun b ⟨i, o, s, k, e1, e2⟩ => ⟨i, o, s, k, subP i o e1, e2⟩
  have own2 : ∀ b, Owned reg φ (hideH st.hp l).get b → Owned reg φ st.hp.get b := fun b ⟨i, o, s, k, e1, e2⟩ => ⟨i, o, s, k, subH i o e1, e2⟩
  have hargs : LRel F W1 φ (.any :: cs) (#[.func (.yield (w.heap.size + 1)) #[] #[]] ++ ccs) := by
    have h0 : LRel (reg := reg) F W1 φ [.any] #[.func (.yield (w.heap.size + 1)) #[] #[]] := by
      refine ⟨rfl, fun j hj => ?_⟩
      obtain rfl : j = 0 := by simpa using hj
      exact VRel.any _
    exact h0.append (hcl.mono (fun b hb => ⟨hb, keep1 b (.inl hb)⟩) (fun _ _ hp => hp))
  have hent := enter_ok (nt := fn.ntmps) (hRw.heap.sub subP) hargs (by simpa using f2) f3
  have hRI : RI fn.ntmps (w.heap.size + 1) (fun k O X W => ∃ h N' F' φ', BI P hd nt fuel ps.toList assign body st.env r.2.out hE a.tmps rec N F φ st.hp w k O X W h N' F' φ')
      ⟨initEnv (.any :: cs) 0 .e, partH st.hp.get st.hp.nx l, [0], []⟩ N F φ { tmps := (#[.func (.yield (w.heap.size + 1)) #[] #[]] ++ ccs) ++ Array.replicate (fn.ntmps - (#[Value.func (.yield (w.heap.size + 1)) #[] #[]] ++ ccs).size) undef, defers := [] } W1 := by
    refine ⟨hent, fun t ht => ?_, ⟨hideH st.hp l, N, F, φ, ?_⟩⟩
    · obtain rfl : t = 0 := by simpa using ht
      exact ⟨by omega, by simp [Array.getD_eq_getD_getElem?, Array.getElem?_append]⟩
    · refine ⟨h3, ⟨hRw.env, hRw.size, hRw.heap.sub subH, rfl⟩, (GO.hide hR.heap f4).other (by omega) (fun b hb _ => hb1 b hb) ho1.1 ho1.2.1 ho1.2.2, fun b hb => .inl (own1 b hb), fun b hb => ⟨?_, apart b hb⟩, fun b hb => ?_, fun b hb => ?_, ⟨?_, ?_⟩, ⟨?_, ?_⟩, ⟨⟨?_, ?_⟩, ?_, ?_⟩, hL1, hD1⟩
      · obtain ⟨i, o, s, k, e1, e2⟩ := own1 b hb; exact (hR.heap.own i o b s k e1 e2).1
      · rcases hb with hb | hb
        · exact fun ho => by obtain ⟨i, o, s, k, e1, e2⟩ := own2 b ho; exact (hR.heap.own i o b s k e1 e2).1 hb
        · exact apart b hb
      · rcases hb with hb | hb | hb
        · have := owned_lt hR.heap (own1 b hb); omega
        · have := hR.heap.frz b hb; omega
        · have := owned_lt hR.heap (own1 b hb); omega
      · intro hf; have := hR.heap.frz _ hf; omega
      · intro hf; have := hR.heap.frz _ hf; omega
      · intro hf; have := owned_lt hR.heap (own2 _ hf); omega
      · intro hf; have := owned_lt hR.heap (own2 _ hf); omega
      · intro hf; have := owned_lt hR.heap (own1 _ hf); omega
      · intro hf; have := owned_lt hR.heap (own1 _ hf); omega
      · rintro (hf | hf)
        · have := hR.heap.frz _ hf; omega
        · have := owned_lt hR.heap (own1 _ hf); omega
      · rintro (hf | hf)
        · have := hR.heap.frz _ hf; omega
        · have := owned_lt hR.heap (own1 _ hf); omega
  have hrounds := bi_round (N0 := N) (F0 := F) (φ0 := φ) (h0 := st.hp) (w := w) (env := st.env) (items := r.2.out) (hE := hE) (tmps := a.tmps) (rec := rec) (fn := fnid) (ps := ps) (assign := assign) (body := body) (fuel := fuel) hm hHd hnt hrec hfr0
    (fun x hx => Nat.eq_of_beq_eq_true (f6 x hx)) (fun p hp => by simpa using f7 p hp) m
  refine callsIn_of_wp hfn hb trivial (wpIn_mono (exY_sound hHd f3 bi_keeps hrounds c _ r h1 ⟨[], by simp⟩ hRI) (fun e a' W' he => ?_))
  have fin : (∃ N' F' φ', RI fn.ntmps (w.heap.size + 1) (fun k O X W => ∃ h N' F' φ', BI P hd nt fuel ps.toList assign body st.env r.2.out hE a.tmps rec N F φ st.hp w k O X W h N' F' φ') r.2 N' F' φ' a' W') →
      a'.defers = [] ∧ ∃ v, (results fn a'.tmps).run P W' = .ok v W' ∧ rangePost (Fr none) (m + 2) P (w.heap.size + 1) (MPost dl Q nt N F φ st.hp w) { a with defers := [{ target := .collected w.heap.size, args := #[] }] ++ a.defers } (.returned v) W' := by
    rintro ⟨N', F', φ', hri⟩
    refine ⟨hri.rel.dfs, _, results_none f1 _ _ _, ?_⟩
    obtain ⟨h5, N5, F5, φ5, b⟩ := hri.inv
    have hrun := b.runs
    rw [List.drop_length] at hrun
    have hrun : h5 = hE := hrun
    subst hrun
    obtain ⟨W5, hW5⟩ : ∃ W5, W'.putObj (w.heap.size + 1) (.loop { rec .ready none with state := .exhausted }) = W5 := ⟨_, rfl⟩
    have hs5 : W5.heap.size = W'.heap.size := by rw [← hW5]; simp
    have hb5 : ∀ c, c ≠ w.heap.size + 1 → W5.heap[c]? = W'.heap[c]? := fun c hc => by rw [← hW5]; exact World.putObj_heap_other hc
    have ho5 : W5.os = W'.os ∧ W5.tape = W'.tape ∧ W5.output = W'.output := by rw [← hW5]; exact ⟨rfl, rfl, rfl⟩
    have hR5 := b.rel.later (w' := W5) (by omega) (fun c hc => hb5 c (fun e => by subst e; rcases hc with hc | hc; exact b.dF.2 hc; exact b.dO.2 hc))
    have key : MPost dl Q nt N F φ st.hp w .normal { a with defers := [{ target := .collected w.heap.size, args := #[] }] ++ a.defers } W5 := by
      refine ⟨⟨st.env, h5⟩, N5, F5, φ5, [{ target := .collected w.heap.size, args := #[] }], h4, ⟨hR5.env, hR5.size, hR5.heap, by rw [hR.dfs]⟩, b.go.other (by omega) (fun c hc _ => hb5 c (by omega)) ho5.1 ho5.2.1 ho5.2.2, by simp, fun d hd => ?_⟩
      obtain rfl : d = { target := .collected w.heap.size, args := #[] } := by simpa using hd
      exact ⟨w.heap.size, rfl, Nat.le_refl _, (hb5 _ (by omega)).trans b.dfd, b.dF.1, b.dO.1⟩
    have hend : (Instr.endLoop (w.heap.size + 1)).run P W' = .ok none W5 := by
      rw [← hW5]
      have h := run_endLoop (P := P) b.recd (by rw [hrec]; simp)
      rw [hrec] at h ⊢
      exact h
    exact ⟨none, W5, hend, key⟩
  cases e with
  | normal => exact fin he.2
  | ret => exact fin he.2
  | exit id => obtain ⟨he, _⟩ := he; rw [he] at f5; cases f5
  | goto t => exact he.elim
  | panic ch => exact he.elim
  | outgrown => exact he.elim

/-! ### Code -/
theorem exI_mono (hnt : nt ≤ 1000000) {fuel : Nat} : ∀ (c : Code) (st : St reg.T) (Q : AExit × St reg.T → Prop), (exI P hd nt fuel c st).K Q → (exI P hd nt fuel c st).K fun r => Q r ∧ st.hp.nx ≤ r.2.hp.nx := by
  intro c
  induction c with
  | seq x y ihx ihy =>
    intro st Q h
    simp only [exI] at h ⊢
    rw [Out.K_bind] at h ⊢
    refine Out.K_mono (ihx st _ h) (fun r ⟨h1, h2⟩ => ?_)
    obtain ⟨e, st'⟩ := r
    cases e with
    | normal => exact Out.K_mono (ihy st' _ h1) (fun r ⟨h3, h4⟩ => ⟨h3, Nat.le_trans h2 h4⟩)
    | exit id => exact ⟨h1, h2⟩
    | ret => exact ⟨h1, h2⟩
  | block id c ih =>
    intro st Q h
    simp only [exI] at h ⊢
    rw [Out.K_bind] at h ⊢
    refine Out.K_mono (ih st _ h) (fun r ⟨h1, h2⟩ => ?_)
    obtain ⟨e, st'⟩ := r
    cases e with
    | normal => exact ⟨h1, h2⟩
    | exit j =>
      simp only [blockX] at h1 ⊢
      cases hb : Nat.beq j id with
      | true => rw [hb] at h1; exact ⟨h1, h2⟩
      | false => rw [hb] at h1; exact ⟨h1, h2⟩
    | ret => exact ⟨h1, h2⟩
  | rangeFunc g ps x y _ _ => intro st Q h; exact rangeI_mono hnt h
  | _ => intro st Q h; exact ex_mono hnt _ st Q h

theorem exI_sound (hm : P.follows .mixedOrders = true) (hno : ∀ (f : FuncId) fn, P.funcs[f]? = some fn → fn.body.isNone = false → (fn.name == "runtime.NumGoroutine") = false) (hHd : HdSound P hd) (hnt : nt ≤ 1000000) {fuel m : Nat} :
    ∀ (c : Code) (st : St reg.T) (Q : AExit × St reg.T → Prop), (exI P hd nt fuel c st).K Q → ∀ {dl : List Deferred} {N F : Nat → Prop} {φ : Phi} {a : Act} {w : World}, RS dl N F φ nt st a w → (∀ r, Q r → Fresh N st.hp.nx r.2.hp.nx) → c.wpIn (Fr none) (m + 2) P (MPost dl Q nt N F φ st.hp w) a w := by
  have plain : ∀ (c : Code) (st : St reg.T) (Q : AExit × St reg.T → Prop), (ex P hd nt fuel c st).K Q → ∀ {dl : List Deferred} {N F : Nat → Prop} {φ : Phi} {a : Act} {w : World}, RS dl N F φ nt st a w → (∀ r, Q r → Fresh N st.hp.nx r.2.hp.nx) → c.wpIn (Fr none) (m + 2) P (MPost dl Q nt N F φ st.hp w) a w :=
    fun c st Q h dl N F φ a w hR hfr => wpIn_mono (ex_in hm hHd hnt c st Q h hR hfr none (m + 2)) (fun e a' w' he => MPost.of he)
  intro c
  induction c with
  | seq x y ihx ihy =>
    intro st Q h dl N F φ a w hR hfr
    obtain ⟨r, hr, hq⟩ := (Out.K_iff _ _).1 h
    have hf0 := hfr r hq
    simp only [exI] at hr
    rw [Out.K_bind] at hr
    obtain ⟨⟨e, st2⟩, h4, h5⟩ := (Out.K_iff _ _).1 hr
    have hle2 : st2.hp.nx ≤ r.2.hp.nx := by
      cases e with
      | normal => obtain ⟨_, _, hx', hy'⟩ := (Out.K_iff _ _).1 (exI_mono hnt y st2 _ h5); exact hx' ▸ hy'
      | exit id => have : (AExit.exit id, st2) = r := h5; rw [← this]; exact Nat.le_refl _
      | ret => have : (AExit.ret, st2) = r := h5; rw [← this]; exact Nat.le_refl _
    refine wpIn_seq (wpIn_mono (ihx st _ h4 hR (by rintro r' rfl; exact fresh_less hf0 hle2)) fun e' a' w' he => ?_)
    cases e' with
    | normal =>
      obtain ⟨st3, N3, F3, φ3, ml, e3, h6, h7, h8⟩ := he
      cases e3
      refine wpIn_mono (ihy st2 _ h5 h6 (by rintro r' rfl; exact fresh_next hf0 h7.grow.1 h7.names)) (fun e'' a'' w'' he => ?_)
      have key : ∀ e0, ComeM (ml ++ dl) (· = r) nt N3 F3 φ3 st2.hp w' e0 a'' w'' → ComeM dl Q nt N F φ st.hp w e0 a'' w'' := by
        intro e0 hc
        obtain ⟨st4, N4, F4, φ4, ml4, e4, h9⟩ := ComeM.from h7 h8 hc
        exact ⟨st4, N4, F4, φ4, ml4, by rw [e4]; exact hq, h9⟩
      cases e'' with
      | normal => exact key _ he
      | exit id => exact key _ he
      | ret => exact key _ he
      | goto l => exact he.elim
      | panic ch => exact he.elim
      | outgrown => exact he.elim
    | exit id =>
      obtain ⟨st3, N3, F3, φ3, ml, e3, h6⟩ := he
      cases e3
      have : (AExit.exit id, st2) = r := h5
      exact ⟨st2, N3, F3, φ3, ml, this ▸ hq, h6⟩
    | ret =>
      obtain ⟨st3, N3, F3, φ3, ml, e3, h6⟩ := he
      cases e3
      have : (AExit.ret, st2) = r := h5
      exact ⟨st2, N3, F3, φ3, ml, this ▸ hq, h6⟩
    | goto l => exact he.elim
    | panic ch => exact he.elim
    | outgrown => exact he.elim
  | block id c ih =>
    intro st Q h dl N F φ a w hR hfr
    obtain ⟨r, hr, hq⟩ := (Out.K_iff _ _).1 h
    have hf0 := hfr r hq
    simp only [exI] at hr
    rw [Out.K_bind] at hr
    obtain ⟨⟨e, st2⟩, h4, h5⟩ := (Out.K_iff _ _).1 hr
    have h6 : r.2 = st2 := by
      cases e with
      | normal => have : (AExit.normal, st2) = r := h5; rw [← this]
      | ret => have : (AExit.ret, st2) = r := h5; rw [← this]
      | exit j =>
        simp only [blockX] at h5
        split at h5
        · have : (AExit.normal, st2) = r := h5; rw [← this]
        · have : (AExit.exit j, st2) = r := h5; rw [← this]
    refine wpIn_block (wpIn_mono (ih st _ h4 hR (by rintro r' rfl; rw [← h6]; exact hf0)) fun e' a' w' he => ?_)
    cases e' with
    | normal =>
      obtain ⟨st3, N3, F3, φ3, ml, e3, h7⟩ := he
      cases e3
      have : (AExit.normal, st2) = r := h5
      exact ⟨st2, N3, F3, φ3, ml, this ▸ hq, h7⟩
    | exit j =>
      obtain ⟨st3, N3, F3, φ3, ml, e3, h7⟩ := he
      cases e3
      simp only [blockX] at h5
      split at h5
      · rename_i hb
        have h5 : (AExit.normal, st2) = r := h5
        have hj := Nat.eq_of_beq_eq_true hb
        simp only [Exit.inBlock, hj, if_true]
        exact ⟨st2, N3, F3, φ3, ml, h5 ▸ hq, h7⟩
      · rename_i hb
        have h5 : (AExit.exit j, st2) = r := h5
        have hj : j ≠ id := fun e => by subst e; simp [Nat.beq_refl] at hb
        simp only [Exit.inBlock, hj, if_false]
        exact ⟨st2, N3, F3, φ3, ml, h5 ▸ hq, h7⟩
    | ret =>
      obtain ⟨st3, N3, F3, φ3, ml, e3, h7⟩ := he
      cases e3
      have : (AExit.ret, st2) = r := h5
      exact ⟨st2, N3, F3, φ3, ml, this ▸ hq, h7⟩
    | goto l => exact he.elim
    | panic ch => exact he.elim
    | outgrown => exact he.elim
  | rangeFunc g ps x y _ _ => intro st Q h dl N F φ a w hR hfr; exact rangeI_sound hm hno hHd hnt h hR hfr
  | _ => intro st Q h dl N F φ a w hR hfr; exact plain _ st Q h hR hfr

/-! ### Functions -/
theorem leaves_marks {fn : Func} {tmps : Array Value} {R : Ending → World → Prop} {φ : Phi} {H : Nat → Option (O reg.T)} {F : Nat → Prop} {B n : Nat} : ∀ (ml : List Deferred) (W : World), Mk φ H F B W ml → B ≤ W.heap.size →
    (∀ W' : World, W.heap.size ≤ W'.heap.size → (∀ b, b < B ∨ F b ∨ Owned reg φ H b → W'.heap[b]? = W.heap[b]?) → W'.os = W.os → W'.tape = W.tape → W'.output = W.output → ∃ v, (results fn tmps).run P W' = .ok v W' ∧ R (.returned v) W') →
    LeavesInM (Fr none) n P fn tmps R ml .returning W := by
  intro ml
  induction ml with
  | nil => intro W _ _ h; exact h W (Nat.le_refl _) (fun _ _ => rfl) rfl rfl rfl
  | cons d ml ih =>
    intro W hm hB h
    obtain ⟨D, e1, e2, e3, e4, e5⟩ := hm.2 d (by simp)
    refine ⟨by simp, .inl ⟨D, _, by rw [e1], run_takeDeferred e3, ih _ ⟨(List.nodup_cons.1 hm.1).2, fun d' hd' => ?_⟩ (by simpa using hB) (fun W' hs hb h1 h2 h3 => h W' (by simpa using hs) (fun b hb' => ?_) h1 h2 h3)⟩⟩
    · obtain ⟨D', e1', e2', e3', e4', e5'⟩ := hm.2 d' (by simp [hd'])
      refine ⟨D', e1', e2', ?_, e4', e5'⟩
      have hne : D' ≠ D := fun e => (List.nodup_cons.1 hm.1).1 (by rw [e1, ← e, ← e1']; exact hd')
      rw [World.putObj_heap_other hne]; exact e3'
    · rw [hb b hb', World.putObj_heap_other]
      intro e
      subst e
      rcases hb' with hb' | hb' | hb'
      · omega
      · exact e4 hb'
      · exact e5 hb'

theorem exFunI_sound (hm : P.follows .mixedOrders = true) (hHd : HdSound P hd) (hno : ∀ (f : FuncId) fn, P.funcs[f]? = some fn → fn.body.isNone = false → (fn.name == "runtime.NumGoroutine") = false) (fuel : Nat) : HdSound P (exFunI P hd fuel) := by
  intro f args h Q hq
  unfold exFunI at hq
  split at hq
  · exact hq.elim
  rename_i fn hfn
  split at hq
  · exact hq.elim
  rename_i c hb
  obtain ⟨hc, hq⟩ := Out.K_ask.1 hq
  simp only [Bool.and_eq_true] at hc
  have hle : args.length ≤ fn.ntmps := by simpa using hc.1
  have hnt : fn.ntmps ≤ 1000000 := Nat.le_of_ble_eq_true hc.2
  rw [Out.K_bind] at hq
  have hbn : fn.body.isNone = false := by rw [hb]; rfl
  refine ⟨⟨fn, hfn, hno f fn hfn hbn, hbn⟩, fun N F φ w cargs hfr hH hl => ?_⟩
  have hfin : ∀ r : AExit × St reg.T, (finX P fn r).K Q → ∃ v, retV P fn r.2 = some v ∧ Q (v, r.2.hp) ∧ ∀ id, r.1 ≠ .exit id := by
    intro r hr
    obtain ⟨e, st⟩ := r
    cases e with
    | normal => obtain ⟨v, h1, h2⟩ := K_oneO hr; exact ⟨v, h1, h2, fun id => by simp⟩
    | ret => obtain ⟨v, h1, h2⟩ := K_oneO hr; exact ⟨v, h1, h2, fun id => by simp⟩
    | exit id => exact hr.elim
  refine (callsIn_fr (r := none) (n := 2)).1 (callsIn_of_wp_marks hfn hb trivial (wpIn_mono (exI_sound (m := 0) hm hno hHd hnt c _ _ hq (enter_ok hH hl hle hnt) (fun r hr => ?_)) fun e a' w' he => ?_))
  · obtain ⟨v, _, h2, _⟩ := hfin r hr
    exact hfr _ h2
  · have fin : ∀ e', ComeM [] (fun r => (finX P fn r).K Q) fn.ntmps N F φ h w e' a' w' → LeavesInM (Fr none) (0 + 2) P fn a'.tmps (CallPost N F φ h w Q) a'.defers .returning w' := by
      rintro e' ⟨st', N', F', φ', ml, h1, h2, h3, h4⟩
      obtain ⟨v, h5, h6, _⟩ := hfin _ h1
      have hdf : a'.defers = ml := by rw [h2.dfs, List.append_nil]
      rw [hdf]
      refine leaves_marks (reg := reg) ml w' h4 h3.goes.size (fun W' hs hb e1 e2 e3 => ?_)
      have hR2 := h2.later hs (fun b hb' => hb b (.inr hb'))
      obtain ⟨cv, h7, h8⟩ := ret_sound hR2 h5
      exact ⟨cv, h7, cv, rfl, v, st'.hp, N', F', φ', h6, h8, hR2.heap, h3.other hs (fun b hb' _ => hb b (.inl hb')) e1 e2 e3⟩
    cases e with
    | normal => exact fin _ he
    | ret => exact fin _ he
    | exit id =>
      obtain ⟨st', N', F', φ', ml, h1, _⟩ := he
      obtain ⟨_, _, _, h6⟩ := hfin _ h1
      exact (h6 id rfl).elim
    | goto l => exact he.elim
    | panic ch => exact he.elim
    | outgrown => exact he.elim
end
end Go.W
