/- That each operation does to the machine what the evaluator says. No conditions. -/
import Derived.Test.YtaencddffbmdeaaVsR
import Derived.Laws.IdiomCopy
import Derived.Laws.Tables
namespace Go.Vs
open Go Go.RowKit

/-! ### Cells of a block, written -/
def wrC (C : Array Value) : Nat → List Value → Array Value
  | _, [] => C
  | o, v :: r => wrC (C.setIfInBounds o v) (o + 1) r

theorem wrC_size (C : Array Value) : ∀ (vs : List Value) (o : Nat), (wrC C o vs).size = C.size
  | [], _ => rfl
  | v :: r, o => by rw [wrC, wrC_size _ r]; simp

theorem wrC_getD (C : Array Value) : ∀ (vs : List Value) (o j : Nat), o + vs.length ≤ C.size → (wrC C o vs).getD j undef = if o ≤ j ∧ j < o + vs.length then vs.getD (j - o) undef else C.getD j undef := by
  intro vs
  induction vs generalizing C with
  | nil => intro o j _; simp [wrC]; intro h1 h2; omega
  | cons v r ih =>
    intro o j h
    simp only [List.length_cons] at h
    rw [wrC, ih (C.setIfInBounds o v) (o + 1) j (by simp; omega)]
    by_cases hj : j = o
    · subst hj
      have h1 : ¬ (j + 1 ≤ j ∧ j < j + 1 + r.length) := by omega
      rw [if_neg h1, if_pos ⟨Nat.le_refl _, by simp⟩]
      have : j < C.size := by omega
      simp [Array.getD, this]
    · by_cases h1 : o + 1 ≤ j ∧ j < o + 1 + r.length
      · rw [if_pos h1, if_pos ⟨by omega, by simp; omega⟩]
        rw [show j - o = (j - (o + 1)) + 1 by omega]
        simp
      · rw [if_neg h1, if_neg (by simp; omega)]
        have hne : o ≠ j := fun e => hj e.symm
        simp only [Array.getD_eq_getD_getElem?, Array.getElem?_setIfInBounds]
        rw [if_neg hne]

theorem heap_setCell_same {w : World} {b o : Nat} {v : Value} {C : Array Value} {t : TypeId} {fz : Nat × Nat} (h : w.heap[b]? = some (.cells C t fz)) :
    (w.setCell ⟨b, o, none⟩ v).heap[b]? = some (.cells (C.setIfInBounds o v) t fz) := by
  simp [World.setCell, Array.getElem?_modify, h]

theorem heap_setCells {b : Nat} : ∀ (vs : List Value) (o : Nat) (w : World) {C : Array Value} {t : TypeId} {fz : Nat × Nat}, w.heap[b]? = some (.cells C t fz) →
    (w.setCells b o vs).heap[b]? = some (.cells (wrC C o vs) t fz)
  | [], _, _, _, _, _, h => h
  | v :: r, o, w, C, t, fz, h => by
    rw [World.setCells, wrC]
    exact heap_setCells r (o + 1) _ (heap_setCell_same h)

theorem heap_setCells_other {b k : Nat} (hk : k ≠ b) : ∀ (vs : List Value) (o : Nat) (w : World), (w.setCells b o vs).heap[k]? = w.heap[k]?
  | [], _, _ => rfl
  | v :: r, o, w => by
    rw [World.setCells, heap_setCells_other hk r (o + 1)]
    exact Below.heap_setCell w ⟨b, o, none⟩ v k hk

theorem size_setCells {b : Nat} : ∀ (vs : List Value) (o : Nat) (w : World), (w.setCells b o vs).heap.size = w.heap.size
  | [], _, _ => rfl
  | v :: r, o, w => by rw [World.setCells, size_setCells r (o + 1)]; simp

theorem rest_setCells {b : Nat} : ∀ (vs : List Value) (o : Nat) (w : World), (w.setCells b o vs).os = w.os ∧ (w.setCells b o vs).tape = w.tape ∧ (w.setCells b o vs).output = w.output
  | [], _, _ => ⟨rfl, rfl, rfl⟩
  | v :: r, o, w => by rw [World.setCells]; exact rest_setCells r (o + 1) (w.setCell ⟨b, o, none⟩ v)

theorem cell_of_heap {w : World} {b o : Nat} {C : Array Value} {t : TypeId} {fz : Nat × Nat} (h : w.heap[b]? = some (.cells C t fz)) : w.cell? ⟨b, o, none⟩ = C[o]? := by
  simp [World.cell?, h]

theorem frozen_of_free {w : World} {b o : Nat} {C : Array Value} {t : TypeId} {fz : Nat × Nat} (h : w.heap[b]? = some (.cells C t fz)) (hf : free C fz) (ho : o < C.size) :
    w.frozen? ⟨b, o, none⟩ = false := by
  obtain ⟨lo, hi⟩ := fz
  simp only [World.frozen?, h]
  rcases hf with hf | hf <;> simp at hf ⊢ <;> omega

section
variable {reg : Reg} {P : Program}

/-! ### Loads and stores -/
theorem run_isAgg {t : TypeId} (hk : knownT P t = true) (w : World) : (isAgg t).run P w = .ok (isAggT P t) w := by
  unfold knownT at hk
  simp only [Bool.and_eq_true, Option.isSome_iff_exists] at hk
  obtain ⟨⟨d, hd⟩, _⟩ := hk
  unfold isAgg isAggT
  simp only [Sem.run_bind, run_underlying hd, Result.andThen_ok, hd]
  cases d <;> rfl

theorem run_sizeOf' {t : TypeId} (hk : knownT P t = true) (w : World) : (sizeOf t).run P w = .ok (P.cellsOf t) w := by
  unfold knownT at hk
  simp only [Bool.and_eq_true, Option.isSome_iff_exists] at hk
  obtain ⟨_, ⟨i, hi⟩⟩ := hk
  exact run_sizeOf w hi

theorem addr_add (b o n : Nat) : Addr.add ⟨b, o, none⟩ n = ⟨b, o + n, none⟩ := Addr.add_lit b o n

/-- A variable whose cells are known is loaded. -/
theorem run_loadVar_cells {w : World} {t : TypeId} {b o : Nat} {C : Array Value} {ty : TypeId} {fz : Nat × Nat} (hk : knownT P t = true) (hb : w.heap[b]? = some (.cells C ty fz))
    (hz : isAggT P t = true → ∀ j, j < P.cellsOf t → o + j < C.size) (h1 : isAggT P t = false → o < C.size) :
    (loadVar t ⟨b, o, none⟩).run P w = .ok (if isAggT P t then .agg (((List.range (P.cellsOf t)).map fun j => C.getD (o + j) undef).toArray) else C.getD o undef) w := by
  have hcell : ∀ j, o + j < C.size → w.cell? ⟨b, o + j, none⟩ = some (C.getD (o + j) undef) := by
    intro j hj
    rw [cell_of_heap hb]
    simp [Array.getD, hj]
  unfold loadVar
  simp only [Sem.run_bind, run_isAgg hk, Result.andThen_ok]
  cases ha : isAggT P t with
  | true =>
    simp only [if_true, Sem.run_bind, run_sizeOf' hk, Result.andThen_ok]
    rw [run_loadCells w ⟨b, o, none⟩ (P.cellsOf t) (fun j => C.getD (o + j) undef) (fun j hj => by rw [addr_add]; exact hcell j (hz ha j hj))]
    rfl
  | false =>
    have h0 := hcell 0 (h1 ha)
    simp only [Nat.add_zero] at h0
    simp [h0]

theorem run_storeVar_cells {w : World} {t : TypeId} {b o : Nat} {C : Array Value} {ty : TypeId} {fz : Nat × Nat} {v : Value} (hk : knownT P t = true) (hb : w.heap[b]? = some (.cells C ty fz))
    (hf : free C fz) (hv : v.cells.size = P.cellsOf t) (hz : o + v.cells.size ≤ C.size) (h1 : ∀ x ∈ v.cells.toList, x.oneCell' = true) :
    (storeVar t ⟨b, o, none⟩ v).run P w = .ok () (w.setCells b o v.cells.toList) := by
  unfold storeVar
  simp only [Sem.run_bind, run_sizeOf' hk, Result.andThen_ok, hv]
  simp only [ne_eq, not_true_eq_false, if_false]
  have := run_storeCells_cells (P := P) b o v.cells.toList 0 w (fun j hj => by
      simp only [Array.length_toList] at hj
      rw [Nat.add_zero, cell_of_heap hb]; simp; omega)
    (fun j hj => by simp only [Array.length_toList] at hj; exact frozen_of_free hb hf (by omega)) h1
  simpa using this

/-! ### Values -/
theorem VRel.ofValue {F : Nat → Prop} {w : World} {φ : Phi} (v : Value) : VRel reg F w φ (V.ofValue v) v := by
  cases v <;> try exact .any _
  case bool b => exact .d _ _ (.bool b)
  case int k n => exact .d _ _ (.int k n)
  case string s => exact .d _ _ (by have := DRel.str (reg := reg) (F := F) (w := w) s.data.toList; simpa using this)
  case pointer a => cases a <;> first | exact .d _ _ .nilp | exact .any _
  case map r => cases r <;> first | exact .d _ _ .nilm | exact .any _
  case nilFunc => exact .d _ _ .nilf
  case nilIface => exact .d _ _ .nili
  case slice a l c => cases a <;> cases l <;> cases c <;> first | exact .d _ _ .nils | exact .any _

theorem R.val {B : Base} {nt : Nat} {F : Nat → Prop} {φ : Phi} {st : St reg.T} {a : Act} {w : World} (h : R reg B nt F φ st a w) {x : Operand} {v : V reg.T}
    (hx : valOf st.env x = some v) : VRel reg F w φ v (a.eval x) := by
  cases x with
  | tmp t => exact (h.env t v hx).2
  | const c => simp only [valOf, Option.some.injEq] at hx; subst hx; exact VRel.ofValue c
  | func f => simp only [valOf, Option.some.injEq] at hx; subst hx; exact .fn f [] #[] rfl (fun j hj => by simp at hj)
  | global g => simp [valOf] at hx

theorem R.put {B : Base} {nt : Nat} {F : Nat → Prop} {φ : Phi} {st : St reg.T} {a : Act} {w : World} (h : R reg B nt F φ st a w) {dst : Option Nat} (hd : dstOk nt dst = true) {v : V reg.T} {cv : Value}
    (hv : VRel reg F w φ v cv) : R reg B nt F φ (st.put dst v) (a.put dst cv) w := by
  cases dst with
  | none => exact h
  | some d =>
    have hd' : d < nt := by simpa [dstOk] using hd
    refine ⟨fun t x hx => ?_, by simp [Act.put, h.size], h.obj, h.own, h.inj, h.dom, h.frz, h.keep, h.fr, h.dfs⟩
    simp only [St.put, setEnv] at hx
    cases hb : Nat.beq t d with
    | true =>
      have : t = d := Nat.eq_of_beq_eq_true hb
      subst this
      simp only [hb] at hx
      cases hx
      refine ⟨hd', ?_⟩
      have hs := h.size
      simp only [Act.put, Array.getD_eq_getD_getElem?, Array.getElem?_setIfInBounds]
      simp only [if_true]
      rw [if_pos (by omega)]
      exact hv
    | false =>
      simp only [hb] at hx
      have hne : d ≠ t := fun e => by subst e; simp [Nat.beq_refl] at hb
      have := h.env t x hx
      refine ⟨this.1, ?_⟩
      simp only [Act.put, Array.getD_eq_getD_getElem?, Array.getElem?_setIfInBounds]
      rw [if_neg hne]
      simpa [Array.getD_eq_getD_getElem?] using this.2

/-- Another world, other frozen blocks, more names. -/
theorem R.world {B : Base} {nt : Nat} {F F' : Nat → Prop} {φ : Phi} {st : St reg.T} {a : Act} {w w' : World} (h : R reg B nt F φ st a w)
    (hF : ∀ b, F b → F' b) (hF' : ∀ b, F' b → F b ∨ w.heap.size ≤ b) (hsz : ∀ b, F' b → b < w'.heap.size) (hb : Below w.heap.size w w') : R reg B nt F' φ st a w' := by
  have hm : ∀ b, F b → F' b ∧ w'.heap[b]? = w.heap[b]? := fun b hf => ⟨hF b hf, hb.block b (h.frz b hf).1⟩
  refine ⟨fun t v hv => ⟨(h.env t v hv).1, (h.env t v hv).2.mono reg hm (fun _ _ _ e => e)⟩, h.size, fun i o ho => ?_, fun i o b s ho hp => ?_, h.inj, h.dom, fun b hf => ⟨hsz b hf, ?_⟩, fun b hf => hF b (h.keep b hf), ?_, h.dfs⟩
  · exact (h.obj i o ho).mono reg hm (fun _ _ _ e => e) (fun e => e) (fun b s hp => hb.block b (h.own i o b s ho hp).2.2)
  · have := h.own i o b s ho hp
    refine ⟨fun hf => ?_, this.2.1, Nat.lt_of_lt_of_le this.2.2 hb.size⟩
    rcases hF' b hf with h1 | h1
    · exact this.1 h1
    · omega
  · rcases hF' b hf with h1 | h1
    · exact (h.frz b h1).2
    · exact .inr (.inl (Nat.le_trans h.fr.size h1))
  · exact ⟨hb.os.trans h.fr.os, hb.tape.trans h.fr.tape, hb.output.trans h.fr.output, Nat.le_trans h.fr.size hb.size, fun b h1 h2 => by
      rw [hb.block b (Nat.lt_of_lt_of_le h1 h.fr.size)]; exact h.fr.block b h1 h2⟩

/-! ### One operation -/
theorem wp_value {o : Oper} {a : Act} {w w' : World} {K : Act → World → Prop} {Q : Exit → Act → World → Prop} {cv : Value} (hr : (execOp a.eval o).run P w = .ok (.value cv) w')
    (h : K (a.put o.dst cv) w') : o.wp P a w K Q := by unfold Oper.wp; rw [hr]; exact h

theorem wp_skip' {o : Oper} {a : Act} {w w' : World} {K : Act → World → Prop} {Q : Exit → Act → World → Prop} (hr : (execOp a.eval o).run P w = .ok .skip w')
    (h : K (a.put o.dst undef) w') : o.wp P a w K Q := by unfold Oper.wp; rw [hr]; exact h

/-- What a function that takes and answers pure data does. -/
structure CSound (reg : Reg) (P : Program) (f : FuncId) (S : PureC reg.T) : Prop where
  there : ∃ fn, P.funcs[f]? = some fn ∧ (fn.name == "runtime.NumGoroutine") = false ∧ fn.body.isNone = false
  calls : ∀ args p v, S args = some (p, v) → p → V.pure.goL args = true → v.pure = true → ∀ (F : Nat → Prop) (w : World) (cargs : Array Value), (∀ b, F b → b < w.heap.size) →
    args.length = cargs.size → (∀ j, j < args.length → VRel reg F w (fun _ _ => none) (args.getD j .any) (cargs.getD j undef)) →
    Calls P f cargs w fun e w' => ∃ cv F', e = .returned cv ∧ VRel reg F' w' (fun _ _ => none) v cv ∧ Below w.heap.size w w' ∧ (∀ b, F b → F' b) ∧ (∀ b, F' b → F b ∨ w.heap.size ≤ b) ∧ ∀ b, F' b → b < w'.heap.size

theorem goL_getD {l : List (V reg.T)} (h : V.pure.goL l = true) {j : Nat} (hj : j < l.length) : (l.getD j .any).pure = true := by
  induction l generalizing j with
  | nil => simp at hj
  | cons a l ih =>
    simp only [V.pure.goL] at h
    cases ha : a.pure with
    | false => simp [ha] at h
    | true =>
      simp only [ha] at h
      cases j with
      | zero => simpa using ha
      | succ j => simpa using ih h (by simpa using hj)

theorem allSome_spec {α : Type} : ∀ {l : List (Option α)} {vs : List α}, allSome l = some vs → l = vs.map some
  | [], vs, h => by simp [allSome] at h; subst h; rfl
  | some v :: l, vs, h => by
    simp only [allSome] at h
    cases hl : allSome l with
    | none => simp [hl] at h
    | some us => simp only [hl, Option.some.injEq] at h; subst h; simp [allSome_spec hl]
  | none :: l, vs, h => by simp [allSome] at h

theorem cells_rel {F : Nat → Prop} {w : World} {φ : Phi} {v : V reg.T} {cv : Value} (h : VRel reg F w φ v cv) (hn : v.isAny = false) :
    v.cells.length = cv.cells.size ∧ ∀ j, j < v.cells.length → VRel reg F w φ (v.cells.getD j .any) (cv.cells.getD j undef) := by
  have one : ∀ (v : V reg.T) (cv : Value), VRel reg F w φ v cv → v.cells = [v] → cv.cells = #[cv] → v.cells.length = cv.cells.size ∧ ∀ j, j < v.cells.length → VRel reg F w φ (v.cells.getD j .any) (cv.cells.getD j undef) := by
    intro v cv h e1 e2
    rw [e1, e2]
    refine ⟨rfl, fun j hj => ?_⟩
    have : j = 0 := by simpa using hj
    subst this
    simpa using h
  cases h with
  | agg vs cs hz hh => exact ⟨hz, hh⟩
  | any => simp [V.isAny] at hn
  | undef => simp [V.isAny] at hn
  | d x v hd => exact one _ _ (.d x _ hd) rfl (by cases hd <;> rfl)
  | ptr i g o b s hp => exact one _ _ (.ptr i g o b s hp) rfl rfl
  | elp i g e r o b s hp => exact one _ _ (.elp i g e r o b s hp) rfl rfl
  | fp row o a C t fz hF hb hz hr => exact one _ _ (.fp row o a C t fz hF hb hz hr) rfl rfl
  | sl i g e off len cap b s cap' hp hc hl hm => exact one _ _ (.sl i g e off len cap b s cap' hp hc hl hm) rfl rfl
  | slz i g e off cap base hc => exact one _ _ (.slz i g e off cap base hc) rfl rfl
  | fn f caps cs hz hh => exact one _ _ (.fn f caps cs hz hh) rfl rfl
  | tup vs cs hz hh => exact one _ _ (.tup vs cs hz hh) rfl rfl
  | ifc t v cv hh => exact one _ _ (.ifc t v cv hh) rfl rfl

theorem solid_oneCell {F : Nat → Prop} {w : World} {φ : Phi} {v : V reg.T} {cv : Value} (h : VRel reg F w φ v cv) (hs : v.solid = true) : cv.oneCell' = true := by
  cases h <;> first | rfl | (simp [V.solid] at hs; done) | skip
  rename_i hd
  cases hd <;> rfl

theorem toList_getD (C : Array Value) (j : Nat) : C.toList.getD j undef = C.getD j undef := by
  simp [List.getD, Array.getD_eq_getD_getElem?]

/-- The value of a variable, out of cells that are known. -/
theorem asVar_rel {F : Nat → Prop} {w : World} {φ : Phi} {t : TypeId} {cs : List (V reg.T)} {v : V reg.T} (h : asVar P t cs = some v) (c : Nat → Value)
    (hc : ∀ j, j < cs.length → VRel reg F w φ (cs.getD j .any) (c j)) : knownT P t = true ∧ cs.length = (if isAggT P t then P.cellsOf t else 1) ∧
      VRel reg F w φ v (if isAggT P t then .agg (((List.range (P.cellsOf t)).map c).toArray) else c 0) := by
  unfold asVar at h
  cases hk : knownT P t with
  | false => simp [hk] at h
  | true =>
    cases ha : isAggT P t with
    | true =>
      simp only [hk, ha] at h
      cases hb : Nat.beq cs.length (P.cellsOf t) with
      | false => simp [hb] at h
      | true =>
        simp only [hb, Option.some.injEq] at h
        subst h
        have hz : cs.length = P.cellsOf t := Nat.eq_of_beq_eq_true hb
        refine ⟨rfl, by simpa using hz, ?_⟩
        simp only [if_true]
        refine .agg _ _ (by simp [hz]) (fun j hj => ?_)
        have := hc j hj
        have hj' : j < P.cellsOf t := by omega
        simpa [Array.getD_eq_getD_getElem?, hj'] using this
    | false =>
      simp only [hk, ha] at h
      match cs, h with
      | [c0], h =>
        simp only [Option.some.injEq] at h
        subst h
        refine ⟨rfl, by simp, ?_⟩
        simpa using hc 0 (by simp)

theorem sameKind_eq {k k' : IntKind} (h : sameKind k k' = true) : k = k' := by cases k <;> cases k' <;> first | rfl | simp [sameKind] at h

theorem getD_take_drop {α : Type} (vs : List α) (o n j : Nat) (d : α) (hj : j < ((vs.drop o).take n).length) : ((vs.drop o).take n).getD j d = vs.getD (o + j) d := by
  simp only [List.length_take, List.length_drop] at hj
  simp only [List.getD, List.getElem?_take, List.getElem?_drop]
  rw [if_pos (by omega)]

theorem boolT_eq {t : TypeId} (h : boolT P t = true) : P.underlying t = some .bool := by
  unfold boolT at h
  split at h
  · assumption
  · simp at h

/-- An integer operation. -/
theorem intBin_run {op : BinOp} {t : TypeId} {k : IntKind} {a b : Int} {w : World} {Kv : V reg.T → Prop} (h : intBin op k a b Kv) :
    ∃ d : D reg.T, ∃ cv, Kv (.d d) ∧ (∀ F w, DRel reg F w d cv) ∧ (binOp op t (.int k a) (.int k b)).run P w = .ok cv w := by
  cases op <;> simp only [intBin] at h
  case add => exact ⟨_, _, h, fun _ _ => .int _ _, by rw [binOp_add]; rfl⟩
  case sub => exact ⟨_, _, h, fun _ _ => .int _ _, by rw [binOp_sub]; rfl⟩
  case mul => exact ⟨_, _, h, fun _ _ => .int _ _, by rw [binOp_mul]; rfl⟩
  case quo => exact ⟨_, _, h.2, fun _ _ => .int _ _, by rw [binOp_quo]; simp [Op.intDiv, h.1]⟩
  case rem => exact ⟨_, _, h.2, fun _ _ => .int _ _, by rw [binOp_rem]; simp [Op.intDiv, h.1]⟩
  case eql => exact ⟨_, _, h, fun _ _ => .bool _, by rw [binOp_eql]; rfl⟩
  case neq => exact ⟨_, _, h, fun _ _ => .bool _, by rw [binOp_neq]; rfl⟩
  case lss => exact ⟨_, _, h, fun _ _ => .bool _, by rw [binOp_lss]; rfl⟩
  case leq => exact ⟨_, _, h, fun _ _ => .bool _, by rw [binOp_leq]; rfl⟩
  case gtr => exact ⟨_, _, h, fun _ _ => .bool _, by rw [binOp_gtr]; rfl⟩
  case geq => exact ⟨_, _, h, fun _ _ => .bool _, by rw [binOp_geq]; rfl⟩

theorem eqGuard_run {op : BinOp} {t : TypeId} {x y : Operand} {u v : Value} {w : World} (hu : (match u with | .nilIface | .agg _ => false | _ => true) = true) : (eqGuard op t x y u v).run P w = .ok () w := by
  cases u <;> simp at hu <;> first
    | (rw [eqGuard_at_bool]; rfl) | (rw [eqGuard_at_int]; rfl) | (rw [eqGuard_at_string]; rfl) | (rw [eqGuard_at_pointer]; rfl) | (rw [eqGuard_at_slice]; rfl) | (rw [eqGuard_at_map]; rfl)
    | (rw [eqGuard_at_float]; rfl) | (rw [eqGuard_at_complex]; rfl) | (rw [eqGuard_at_chan]; rfl) | (rw [eqGuard_at_func]; rfl) | (rw [eqGuard_at_nilFunc]; rfl) | (rw [eqGuard_at_iface]; rfl) | (rw [eqGuard_at_tuple]; rfl)

theorem zeroFits_rel {F : Nat → Prop} {w : World} {φ : Phi} {v : V reg.T} {c : Value} (h : zeroFits v c = true) : VRel reg F w φ v c := by
  unfold zeroFits at h
  split at h
  · rename_i b b'; cases b <;> cases b' <;> simp at h; exact .d _ _ (.bool _)
  · rw [sameKind_eq h]; exact .d _ _ (.int _ _)
  · rename_i s
    have h0 : s.data.toList = [] := by simpa using h
    have h2 := DRel.str (reg := reg) (F := F) (w := w) s.data.toList
    rw [Array.toArray_toList] at h2
    rw [h0] at h2
    exact .d _ _ h2
  · exact .d _ _ .nilp
  · exact .d _ _ .nilm
  · exact .d _ _ .nilf
  · exact .d _ _ .nili
  · exact .d _ _ (.none _ _ _)
  · simp at h

theorem fitsL_rel {F : Nat → Prop} {w : World} {φ : Phi} : ∀ {vs : List (V reg.T)} {cs : List Value}, fitsL vs cs = true → vs.length = cs.length ∧ ∀ j, j < vs.length → VRel reg F w φ (vs.getD j .any) (cs.getD j undef) := by
  intro vs
  induction vs with
  | nil => intro cs h; cases cs with
    | nil => exact ⟨rfl, fun j hj => by simp at hj⟩
    | cons c cs => simp [fitsL] at h
  | cons v vs ih =>
    intro cs h
    cases cs with
    | nil => simp [fitsL] at h
    | cons c cs =>
      simp only [fitsL] at h
      cases hz : zeroFits v c with
      | false => simp [hz] at h
      | true =>
        simp only [hz] at h
        obtain ⟨h1, h2⟩ := ih h
        refine ⟨by simp [h1], fun j hj => ?_⟩
        cases j with
        | zero => simpa using zeroFits_rel hz
        | succ j => simpa using h2 j (by simpa using hj)

theorem zeroT_rel {F : Nat → Prop} {w : World} {φ : Phi} {t : TypeId} {vs : List (V reg.T)} (h : zeroT P t = some vs) :
    ∃ i z, P.info? t = some i ∧ i.zero = some z ∧ vs.length = z.cells.size ∧ ∀ j, j < vs.length → VRel reg F w φ (vs.getD j .any) (z.cells.getD j undef) := by
  unfold zeroT at h
  split at h
  · rename_i i hi
    split at h
    · rename_i z hz
      split at h
      · rename_i hf
        simp only [Option.some.injEq] at h
        subst h
        obtain ⟨h1, h2⟩ := fitsL_rel (F := F) (w := w) (φ := φ) hf
        exact ⟨i, z, hi, hz, by simpa using h1, fun j hj => by rw [← toList_getD]; exact h2 j hj⟩
      · simp at h
    · simp at h
  · simp at h

/-! ### Parts of a struct -/
theorem foldl_wrC (o : Nat) : ∀ (l : List Value) (k : Nat) (C : Array Value), (l.zipIdx k).foldl (fun C x => C.setIfInBounds (o + x.2) x.1) C = wrC C (o + k) l := by
  intro l
  induction l with
  | nil => intro k C; rfl
  | cons v l ih =>
    intro k C
    simp only [List.zipIdx_cons, List.foldl_cons, wrC]
    rw [ih]
    rfl

theorem setRange_rel {F : Nat → Prop} {w : World} {φ : Phi} {vs cs : List (V reg.T)} {o : Nat} {C D : Array Value} (hl : vs.length = C.size) (hv : ∀ j, j < vs.length → VRel reg F w φ (vs.getD j .any) (C.getD j undef))
    (hl' : cs.length = D.size) (hc : ∀ j, j < cs.length → VRel reg F w φ (cs.getD j .any) (D.getD j undef)) (hz : o + cs.length ≤ vs.length) :
    (setRange vs o cs).length = (wrC C o D.toList).size ∧ ∀ j, j < (setRange vs o cs).length → VRel reg F w φ ((setRange vs o cs).getD j .any) ((wrC C o D.toList).getD j undef) := by
  have hsl : (setRange vs o cs).length = vs.length := by simp [setRange]; omega
  refine ⟨by rw [hsl, wrC_size, hl], fun k hk => ?_⟩
  rw [hsl] at hk
  rw [wrC_getD _ _ _ _ (by simp; omega)]
  simp only [Array.length_toList]
  by_cases hin : o ≤ k ∧ k < o + cs.length
  · rw [if_pos (by omega)]
    have e : (setRange vs o cs).getD k .any = cs.getD (k - o) .any := by
      simp only [setRange, List.getD]
      rw [List.getElem?_append_right (by simp; omega)]
      simp only [List.length_take]
      rw [show k - min o vs.length = k - o by omega, List.getElem?_append_left (by omega)]
    rw [e, toList_getD]
    exact hc (k - o) (by omega)
  · rw [if_neg (by omega)]
    have e : (setRange vs o cs).getD k .any = vs.getD k .any := by
      simp only [setRange, List.getD]
      rcases Nat.lt_or_ge k o with h | h
      · rw [List.getElem?_append_left (by simp; omega), List.getElem?_take, if_pos h]
      · rw [List.getElem?_append_right (by simp; omega)]
        simp only [List.length_take]
        rw [List.getElem?_append_right (by omega), List.getElem?_drop]
        congr 2
        omega
    rw [e]
    exact hv k hk

theorem fillV_rel {F : Nat → Prop} {w : World} {φ : Phi} {fs : Array Field} {places : List (Nat × Nat)} (hp : fs.toList.mapM (fun f => (P.info? f.type).map fun i => (f.offset, i.size)) = some places) :
    ∀ (parts : List (Nat × Option (V reg.T))) (cparts : List (Nat × Value)) (vs us : List (V reg.T)) (C : Array Value), fillV P fs parts vs = some us → parts.map (·.1) = cparts.map (·.1) →
      (∀ (i : Nat) p q v, parts[i]? = some p → cparts[i]? = some q → p.2 = some v → VRel reg F w φ v q.2) → vs.length = C.size → (∀ j, j < vs.length → VRel reg F w φ (vs.getD j .any) (C.getD j undef)) →
      ∃ C', Instr.fill (places.toArray[·]?) C cparts = some C' ∧ us.length = C'.size ∧ ∀ j, j < us.length → VRel reg F w φ (us.getD j .any) (C'.getD j undef) := by
  intro parts
  induction parts with
  | nil =>
    intro cparts vs us C h he _ hl hv
    simp only [fillV, Option.some.injEq] at h
    subst h
    cases cparts with
    | nil => exact ⟨C, rfl, hl, hv⟩
    | cons q r => simp at he
  | cons p parts ih =>
    intro cparts vs us C h he hr hl hv
    obtain ⟨f, ov⟩ := p
    cases cparts with
    | nil => simp at he
    | cons q r =>
      obtain ⟨f', cv⟩ := q
      simp only [List.map_cons, List.cons.injEq] at he
      obtain ⟨rfl, he⟩ := he
      cases ov with
      | none => simp [fillV] at h
      | some v =>
        simp only [fillV] at h
        split at h
        · rename_i fl hfl
          split at h
          · rename_i e1 e2 e3
            have e2 := Nat.eq_of_beq_eq_true e2
            have e3 : fl.offset + v.cells.length ≤ vs.length := by simpa using e3
            have hrel : VRel reg F w φ v cv := hr 0 (f, some v) (f, cv) v (by simp) (by simp) rfl
            obtain ⟨hc1, hc2⟩ := cells_rel hrel e1
            have hplace : places.toArray[f]? = some (fl.offset, P.cellsOf fl.type) := by
              have key : ∀ (l : List Field) (ps : List (Nat × Nat)) (i : Nat) (fl : Field), l.mapM (fun f => (P.info? f.type).map fun i => (f.offset, i.size)) = some ps → l[i]? = some fl → ps[i]? = some (fl.offset, P.cellsOf fl.type) := by
                intro l
                induction l with
                | nil => intro ps i fl _ hi; simp at hi
                | cons a l ihl =>
                  intro ps i fl hm hi
                  rw [List.mapM_cons] at hm
                  cases ha : P.info? a.type with
                  | none => simp [ha] at hm
                  | some ia =>
                    cases hrest : l.mapM (fun f => (P.info? f.type).map fun i => (f.offset, i.size)) with
                    | none => simp [ha, hrest] at hm
                    | some ps' =>
                      simp [ha, hrest] at hm
                      subst hm
                      cases i with
                      | zero => simp at hi; subst hi; simp [Program.cellsOf, ha]
                      | succ i => simpa using ihl ps' i fl hrest (by simpa using hi)
              have := key fs.toList places f fl hp (by simpa using hfl)
              simpa using this
            obtain ⟨g1, g2⟩ := setRange_rel (o := fl.offset) hl hv hc1 hc2 e3
            obtain ⟨C', k1, k2, k3⟩ := ih r _ us _ h he (fun i p q v' hp hq hv' => hr (i + 1) p q v' (by simpa using hp) (by simpa using hq) hv') g1 g2
            refine ⟨C', ?_, k2, k3⟩
            simp only [Instr.fill, hplace]
            have hno : ¬ (decide (cv.cells.size ≠ P.cellsOf fl.type) || decide (fl.offset + cv.cells.size > C.size)) = true := by
              simp only [Bool.or_eq_true, decide_eq_true_eq]
              omega
            rw [if_neg hno]
            have e4 : cv.cells.zipIdx.foldl (fun cs x => cs.setIfInBounds (fl.offset + x.2) x.1) C = wrC C fl.offset cv.cells.toList := by
              rw [← Array.foldl_toList, Array.toList_zipIdx, foldl_wrC]
              rfl
            exact (congrArg (fun z => Instr.fill (fun x => places.toArray[x]?) z r) e4).trans k1
          · simp at h
        · simp at h

theorem buildV_rel {F : Nat → Prop} {w : World} {φ : Phi} {t : TypeId} {parts : List (Nat × Option (V reg.T))} {v : V reg.T} (h : buildV P t parts = some v) (cparts : Array (Nat × Value)) (he : parts.map (·.1) = cparts.toList.map (·.1))
    (hr : ∀ (i : Nat) p q v, parts[i]? = some p → cparts.toList[i]? = some q → p.2 = some v → VRel reg F w φ v q.2) : ∃ cv, (Instr.build t cparts).run P w = .ok cv w ∧ VRel reg F w φ v cv := by
  unfold buildV at h
  split at h
  · rename_i fs hu
    split at h
    · rename_i z hall hz
      split at h
      · rename_i vs hvs
        simp only [Option.some.injEq] at h
        subst h
        obtain ⟨i, zv, h1, h2, h3, h4⟩ := zeroT_rel (F := F) (w := w) (φ := φ) hz
        have hm : ∃ places, fs.toList.mapM (fun f => (P.info? f.type).map fun i => (f.offset, i.size)) = some places := by
          have key : ∀ l : List Field, l.all (fun f => (P.info? f.type).isSome) = true → ∃ places, l.mapM (fun f => (P.info? f.type).map fun i => (f.offset, i.size)) = some places := by
            intro l
            induction l with
            | nil => intro _; exact ⟨[], rfl⟩
            | cons a l ih =>
              intro hl
              simp only [List.all_cons, Bool.and_eq_true] at hl
              obtain ⟨ps, hps⟩ := ih hl.2
              obtain ⟨ia, hia⟩ := Option.isSome_iff_exists.1 hl.1
              exact ⟨(a.offset, ia.size) :: ps, by rw [List.mapM_cons, hia, hps]; rfl⟩
          exact key _ hall
        obtain ⟨places, hp⟩ := hm
        obtain ⟨C', k1, k2, k3⟩ := fillV_rel hp parts cparts.toList z vs zv.cells hvs he hr h3 h4
        refine ⟨.agg C', run_build w t cparts C' ?_, .agg _ _ k2 k3⟩
        unfold Program.built
        rw [h1, hu]
        simp only [h2, hp]
        exact k1
      · simp at h
    · simp at h
  · simp at h

section step
variable {B : Base} {nt : Nat} {F : Nat → Prop} {φ : Phi} {st : St reg.T} {a : Act} {w : World}

/-- A load from an object, or from frozen memory. -/
theorem load_sound (hR : R reg B nt F φ st a w) {t : TypeId} {x : Operand} {Kv : V reg.T → Prop}
    (h : loadK P t (valOf st.env x) st.H Kv) : ∃ v cv, Kv v ∧ VRel reg F w φ v cv ∧ (Instr.loadAt t (a.eval x)).run P w = .ok cv w := by
  -- cells that are known at an address
  have main : ∀ (cs : List (V reg.T)) (v : V reg.T) (b o : Nat) (C : Array Value) (ty : TypeId) (fz : Nat × Nat), asVar P t cs = some v → w.heap[b]? = some (.cells C ty fz) →
      cs.length ≤ P.cellsOf t → (∀ j, j < cs.length → o + j < C.size) → (∀ j, j < cs.length → VRel reg F w φ (cs.getD j .any) (C.getD (o + j) undef)) →
      ∃ cv, VRel reg F w φ v cv ∧ (Instr.loadAt t (.pointer (some ⟨b, o, none⟩))).run P w = .ok cv w := by
    intro cs v b o C ty fz hv hb hl hz hrel
    obtain ⟨hk, hlen, hr⟩ := asVar_rel (reg := reg) (F := F) (w := w) (φ := φ) hv (fun j => C.getD (o + j) undef) hrel
    refine ⟨_, hr, ?_⟩
    have e : Instr.loadAt t (.pointer (some ⟨b, o, none⟩)) = loadVar t ⟨b, o, none⟩ := rfl
    rw [e, run_loadVar_cells hk hb (fun ha j hj => by simp only [ha, if_true] at hlen; exact hz j (by omega)) (fun ha => by simp only [ha] at hlen; have := hz 0 (by simp at hlen; omega); simpa using this)]
    simp
  cases hx : valOf st.env x with
  | none => simp [hx, loadK] at h
  | some vx =>
    have hv := hR.val hx
    rw [hx] at h
    cases vx <;> (try simp only [loadK] at h) <;> try exact h.elim
    case ptr i g o =>
      cases hi : st.H i with
      | none => simp [hi] at h
      | some ob =>
        cases ob with
        | rows g e xs => simp [hi] at h
        | dead g => simp [hi] at h
        | box g' vs =>
          simp only [hi, okK, must_iff] at h
          obtain ⟨hgg, h⟩ := h
          have hgg := Nat.eq_of_beq_eq_true hgg
          subst hgg
          cases hv' : asVar P t ((vs.drop o).take (P.cellsOf t)) with
          | none => simp [hv'] at h
          | some v =>
            simp only [hv'] at h
            generalize a.eval x = ax at hv
            cases hv with
            | ptr i g o b s hp =>
              obtain ⟨b', s', C, ty, fz, h1, h2, h3, h4, h5⟩ := hR.obj i _ hi
              rw [hp] at h1
              cases h1
              have hlen : ((vs.drop o).take (P.cellsOf t)).length ≤ vs.length - o := by simp; omega
              obtain ⟨cv, h6, h7⟩ := main _ v b (s + o) C ty fz hv' h2 (by simp; omega) (fun j hj => by omega) (fun j hj => by
                have := h5 (o + j) (by omega)
                rw [getD_take_drop vs o _ j _ hj]
                rwa [show s + (o + j) = s + o + j by omega] at this)
              exact ⟨v, cv, h, h6, h7⟩
    case fp row o =>
      simp only [okK] at h
      cases hv' : asVar P t (((row.drop o).take (P.cellsOf t)).map V.d) with
      | none => rw [hv'] at h; exact h.elim
      | some v =>
        rw [hv'] at h
        simp only at h
        generalize a.eval x = ax at hv
        cases hv with
        | fp row o ad C ty fz hF hb hz hr =>
          have hlen : ((row.drop o).take (P.cellsOf t)).length ≤ row.length - o := by simp; omega
          obtain ⟨cv, h6, h7⟩ := main _ v ad.block (ad.off + o) C ty fz hv' hb (by simp; omega) (fun j hj => by simp only [List.length_map] at hj; omega) (fun j hj => by
            simp only [List.length_map] at hj
            have := hr (o + j) (by omega)
            have e : (((row.drop o).take (P.cellsOf t)).map (V.d (T := reg.T))).getD j .any = .d (row.getD (o + j) .nilp) := by
              rw [← getD_take_drop row o (P.cellsOf t) j .nilp hj]
              simp only [List.getD, List.getElem?_map, List.getElem?_eq_getElem hj, Option.map_some, Option.getD_some]
            rw [e, show ad.off + o + j = ad.off + (o + j) by omega]
            exact .d _ _ this)
          exact ⟨v, cv, h, h6, h7⟩

/-- A store into an object. -/
theorem store_sound (hR : R reg B nt F φ st a w) {t : TypeId} {x y : Operand} {i g o : Nat} {vs : List (V reg.T)} {v : V reg.T}
    (hx : valOf st.env x = some (.ptr i g o)) (hy : valOf st.env y = some v) (hi : st.H i = some (.box g vs)) (hk : knownT P t = true) (hl : v.cells.length = P.cellsOf t)
    (hz : o + v.cells.length ≤ vs.length) (hs : v.cells.all V.solid = true) :
    ∃ w', (Instr.storeAt t (a.eval x) (a.eval y)).run P w = .ok () w' ∧ R reg B nt F φ (st.upd [(i, some (.box g (setRange vs o v.cells)))]) a w' := by
  have hvx := hR.val hx
  have hvy := hR.val hy
  generalize a.eval x = ax at hvx
  generalize a.eval y = ay at hvy
  have hna : v.isAny = false := by cases v <;> first | rfl | simp [V.cells, V.solid] at hs
  obtain ⟨hc1, hc2⟩ := cells_rel hvy hna
  cases hvx with
  | ptr i g o b s hp =>
    obtain ⟨b', s', C, ty, fz, h1, h2, h3, h4, h5⟩ := hR.obj i _ hi
    rw [hp] at h1
    cases h1
    have how := hR.own i _ b s hi hp
    have hone : ∀ c ∈ ay.cells.toList, c.oneCell' = true := by
      intro c hcm
      obtain ⟨j, hj, rfl⟩ := List.mem_iff_getElem.1 hcm
      simp only [Array.length_toList] at hj
      have h6 := hc2 j (by omega)
      have h7 : (v.cells.getD j .any).solid = true := by
        have hj' : j < v.cells.length := by omega
        have := List.all_eq_true.1 hs (v.cells[j]) (List.getElem_mem _)
        simpa [List.getD, hj'] using this
      have h8 := solid_oneCell h6 h7
      have h9 : ay.cells.getD j undef = ay.cells.toList[j] := by simp [Array.getD_eq_getD_getElem?, hj]
      rwa [h9] at h8
    have hrun := run_storeVar_cells (P := P) (w := w) (t := t) (b := b) (o := s + o) (v := ay) hk h2 h3 (by omega) (by omega) hone
    refine ⟨_, hrun, ?_⟩
    have hoth : ∀ k, k ≠ b → (w.setCells b (s + o) ay.cells.toList).heap[k]? = w.heap[k]? := fun k hk' => heap_setCells_other hk' _ _ _
    have hsame : (w.setCells b (s + o) ay.cells.toList).heap[b]? = some (.cells (wrC C (s + o) ay.cells.toList) ty fz) := heap_setCells _ _ _ h2
    have hrest := rest_setCells (b := b) ay.cells.toList (s + o) w
    have hsz := size_setCells (b := b) ay.cells.toList (s + o) w
    have hm : ∀ k, F k → F k ∧ (w.setCells b (s + o) ay.cells.toList).heap[k]? = w.heap[k]? := fun k hF => ⟨hF, hoth k (fun e => how.1 (e ▸ hF))⟩
    have hupd : ∀ j ob, (st.upd [(i, some (.box g (setRange vs o v.cells)))]).H j = some ob → (j = i ∧ ob = .box g (setRange vs o v.cells)) ∨ (j ≠ i ∧ st.H j = some ob) := by
      intro j ob hj
      simp only [St.upd, updH] at hj
      cases hb : Nat.beq j i with
      | true => simp only [hb] at hj; exact .inl ⟨Nat.eq_of_beq_eq_true hb, by simpa using hj.symm⟩
      | false => simp only [hb] at hj; exact .inr ⟨fun e => by subst e; simp [Nat.beq_refl] at hb, hj⟩
    refine ⟨fun t' v' hv' => ⟨(hR.env t' v' hv').1, (hR.env t' v' hv').2.mono reg hm (fun _ _ _ e => e)⟩, hR.size, fun j ob hj => ?_, fun j ob b' s' hj hp' => ?_, ?_, fun j g p hp' => ?_,
      fun k hk' => ⟨by rw [hsz]; exact (hR.frz k hk').1, (hR.frz k hk').2⟩, hR.keep, ?_, hR.dfs⟩
    · rcases hupd j ob hj with ⟨rfl, rfl⟩ | ⟨hne, hj'⟩
      · have hsl : (setRange vs o v.cells).length = vs.length := by simp [setRange]; omega
        refine ⟨b, s, _, ty, fz, hp, hsame, ?_, by rw [hsl, wrC_size]; exact h4, fun k hk' => ?_⟩
        · unfold free at *; rw [wrC_size]; exact h3
        · rw [hsl] at hk'
          rw [wrC_getD _ _ _ _ (by simp; omega)]
          simp only [Array.length_toList]
          by_cases hin : o ≤ k ∧ k < o + v.cells.length
          · rw [if_pos (by omega)]
            have e : (setRange vs o v.cells).getD k .any = v.cells.getD (k - o) .any := by
              simp only [setRange, List.getD]
              rw [List.getElem?_append_right (by simp; omega)]
              simp only [List.length_take]
              rw [show k - min o vs.length = k - o by omega, List.getElem?_append_left (by omega)]
            rw [e, show s + k - (s + o) = k - o by omega, toList_getD]
            exact (hc2 (k - o) (by omega)).mono reg hm (fun _ _ _ e => e)
          · rw [if_neg (by omega)]
            have e : (setRange vs o v.cells).getD k .any = vs.getD k .any := by
              simp only [setRange, List.getD]
              by_cases hlt : k < o
              · rw [List.getElem?_append_left (by simp; omega), List.getElem?_take_of_lt (by omega)]
              · rw [List.getElem?_append_right (by simp; omega)]
                simp only [List.length_take]
                rw [List.getElem?_append_right (by omega), List.getElem?_drop]
                congr 2; omega
            rw [e]
            exact (h5 k hk').mono reg hm (fun _ _ _ e => e)
      · refine (hR.obj j ob hj').mono reg hm (fun _ _ _ e => e) (fun e => e) (fun b' s' hp' => hoth b' (fun e => hne ?_))
        subst e
        exact hR.inj j i ob _ b' s' s hj' hi hp' hp
    · rcases hupd j ob hj with ⟨rfl, rfl⟩ | ⟨hne, hj'⟩
      · have := hR.own j _ b' s' hi hp'
        exact ⟨this.1, this.2.1, by rw [hsz]; exact this.2.2⟩
      · have := hR.own j _ b' s' hj' hp'
        exact ⟨this.1, this.2.1, by rw [hsz]; exact this.2.2⟩
    · intro j k oj ok b' s' s'' hj hk' hpj hpk
      rcases hupd j oj hj with ⟨rfl, rfl⟩ | ⟨hne, hj'⟩ <;> rcases hupd k ok hk' with ⟨rfl, rfl⟩ | ⟨hne', hk''⟩
      · rfl
      · exact hR.inj _ _ _ _ _ _ _ hi hk'' hpj hpk
      · exact hR.inj _ _ _ _ _ _ _ hj' hi hpj hpk
      · exact hR.inj _ _ _ _ _ _ _ hj' hk'' hpj hpk
    · obtain ⟨o', ho1, ho2⟩ := hR.dom _ _ p hp'
      simp only [St.upd, updH]
      cases hb : Nat.beq j i with
      | false => exact ⟨o', by simpa using ho1, ho2⟩
      | true =>
        have := Nat.eq_of_beq_eq_true hb
        subst this
        rw [hi] at ho1
        cases ho1
        exact ⟨_, rfl, ho2⟩
    · refine ⟨hrest.1.trans hR.fr.os, hrest.2.1.trans hR.fr.tape, hrest.2.2.trans hR.fr.output, by rw [hsz]; exact hR.fr.size, fun k hk1 hk2 => ?_⟩
      rw [hoth k (fun e => by subst e; rcases how.2.1 with h | h; exact hk2 h; omega)]
      exact hR.fr.block k hk1 hk2

/-- A new object. -/
theorem alloc_sound (hR : R reg B nt F φ st a w) (key : Nat) {vs : List (V reg.T)} {C : Array Value} (ty : TypeId) (hl : vs.length = C.size)
    (hrel : ∀ j, j < vs.length → VRel reg F w φ (vs.getD j .any) (C.getD j undef)) :
    R reg B nt F (fun i g => if i = key ∧ g = nextGen (st.H key) then some (w.heap.size, 0) else φ i g) (st.upd [(key, some (.box (nextGen (st.H key)) vs))]) a (w.alloc (.cells C ty)) ∧
      VRel reg F (w.alloc (.cells C ty)) (fun i g => if i = key ∧ g = nextGen (st.H key) then some (w.heap.size, 0) else φ i g) (.ptr key (nextGen (st.H key)) 0) (.pointer (some ⟨w.heap.size, 0, none⟩)) := by
  generalize hG : nextGen (st.H key) = G
  have hnone : φ key G = none := by
    cases hp : φ key G with
    | none => rfl
    | some p =>
      obtain ⟨o, h1, h2⟩ := hR.dom key G p hp
      rw [h1] at hG
      simp only [nextGen] at hG
      omega
  have hφ : ∀ i g p, φ i g = some p → (if i = key ∧ g = G then some (w.heap.size, 0) else φ i g) = some p := by
    intro i g p hp
    rw [if_neg (fun e => by rw [e.1, e.2, hnone] at hp; cases hp)]
    exact hp
  have hb : Below w.heap.size w (w.alloc (.cells C ty)) := (Below.refl _ _).alloc (Nat.le_refl _) _
  have hm : ∀ k, F k → F k ∧ (w.alloc (.cells C ty)).heap[k]? = w.heap[k]? := fun k hF => ⟨hF, hb.block k (hR.frz k hF).1⟩
  have hupd : ∀ j ob, (st.upd [(key, some (.box G vs))]).H j = some ob → (j = key ∧ ob = .box G vs) ∨ (j ≠ key ∧ st.H j = some ob) := by
    intro j ob hj
    simp only [St.upd, updH] at hj
    cases hb : Nat.beq j key with
    | true => simp only [hb] at hj; exact .inl ⟨Nat.eq_of_beq_eq_true hb, by simpa using hj.symm⟩
    | false => simp only [hb] at hj; exact .inr ⟨fun e => by subst e; simp [Nat.beq_refl] at hb, hj⟩
  have hnew : (w.alloc (.cells C ty)).heap[w.heap.size]? = some (.cells C ty) := by show (w.heap.push _)[w.heap.size]? = _; simp
  have hold : ∀ j g b s, j ≠ key → (if j = key ∧ g = G then some (w.heap.size, 0) else φ j g) = some (b, s) → φ j g = some (b, s) := by
    intro j g b s hne h
    rwa [if_neg (fun e => hne e.1)] at h
  refine ⟨⟨fun t v hv => ⟨(hR.env t v hv).1, (hR.env t v hv).2.mono reg hm hφ⟩, hR.size, fun j ob hj => ?_, fun j ob b s hj hp => ?_, ?_, fun j g p hp => ?_,
    fun k hk' => ⟨Nat.lt_of_lt_of_le (hR.frz k hk').1 hb.size, (hR.frz k hk').2⟩, hR.keep, ?_, hR.dfs⟩, ?_⟩
  · rcases hupd j ob hj with ⟨rfl, rfl⟩ | ⟨hne, hj'⟩
    · refine ⟨w.heap.size, 0, C, ty, (0, 0), by simp, hnew, .inl (Nat.le_refl _), by omega, fun k hk' => ?_⟩
      rw [Nat.zero_add]
      exact (hrel k hk').mono reg hm hφ
    · refine (hR.obj j ob hj').mono reg hm hφ (fun e => ?_) (fun b s hp => hb.block b (hR.own j ob b s hj' hp).2.2)
      rw [if_neg (fun e' => hne e'.1)]
      exact e
  · rcases hupd j ob hj with ⟨rfl, rfl⟩ | ⟨hne, hj'⟩
    · simp only [O.gen, and_self, if_true, Option.some.injEq, Prod.mk.injEq] at hp
      obtain ⟨rfl, rfl⟩ := hp
      exact ⟨fun hF => by have := (hR.frz _ hF).1; omega, .inr hR.fr.size, by simp⟩
    · have := hR.own j ob b s hj' (hold j _ b s hne hp)
      exact ⟨this.1, this.2.1, Nat.lt_of_lt_of_le this.2.2 hb.size⟩
  · intro j k oj ok b s s' hj hk' hpj hpk
    rcases hupd j oj hj with ⟨rfl, rfl⟩ | ⟨hne, hj'⟩ <;> rcases hupd k ok hk' with ⟨rfl, rfl⟩ | ⟨hne', hk''⟩
    · rfl
    · simp only [O.gen, and_self, if_true, Option.some.injEq, Prod.mk.injEq] at hpj
      have := (hR.own k ok b s' hk'' (hold k _ b s' hne' hpk)).2.2
      omega
    · simp only [O.gen, and_self, if_true, Option.some.injEq, Prod.mk.injEq] at hpk
      have := (hR.own j oj b s hj' (hold j _ b s hne hpj)).2.2
      omega
    · exact hR.inj _ _ _ _ _ _ _ hj' hk'' (hold j _ b s hne hpj) (hold k _ b s' hne' hpk)
  · by_cases hjk : j = key
    · subst hjk
      refine ⟨.box G vs, by simp [St.upd, updH, Nat.beq_refl], ?_⟩
      show g ≤ G
      by_cases hg : g = G
      · omega
      · rw [if_neg (fun e => hg e.2)] at hp
        obtain ⟨o, h1, h2⟩ := hR.dom j g p hp
        rw [h1] at hG
        simp only [nextGen] at hG
        omega
    · rw [if_neg (fun e => hjk e.1)] at hp
      obtain ⟨o, h1, h2⟩ := hR.dom j g p hp
      refine ⟨o, ?_, h2⟩
      simp only [St.upd, updH]
      cases hb : Nat.beq j key with
      | false => exact h1
      | true => exact absurd (Nat.eq_of_beq_eq_true hb) hjk
  · exact ⟨hR.fr.os, hR.fr.tape, hR.fr.output, Nat.le_trans hR.fr.size hb.size, fun k h1 h2 => by
      rw [hb.block k (Nat.lt_of_lt_of_le h1 hR.fr.size)]; exact hR.fr.block k h1 h2⟩
  · have := VRel.ptr (reg := reg) (F := F) (w := w.alloc (.cells C ty)) (φ := fun i g => if i = key ∧ g = G then some (w.heap.size, 0) else φ i g) key G 0 w.heap.size 0 (by simp)
    simpa using this

theorem put_upd (dst : Option Nat) (v : V reg.T) (u : Upd reg.T) : (st.put dst v).upd u = (st.upd u).put dst v := by cases dst <;> cases u <;> rfl

theorem lexec_sound {C : FuncId → Option (PureC reg.T)} (hC : ∀ f S, C f = some S → CSound reg P f S) {o : Oper} {Ka : V reg.T → Upd reg.T → Prop} {K : Act → World → Prop}
    {Qx : Exit → Act → World → Prop} (h : lexec P C o.op (valOf st.env) st.H (keyOf o.dst) Ka) (hR : R reg B nt F φ st a w) (hd : dstOk nt o.dst = true)
    (hK : ∀ v u F' φ' a' w', Ka v u → R reg B nt F' φ' ((st.put o.dst v).upd u) a' w' → K a' w') : o.wp P a w K Qx := by
  -- an operation that leaves the objects alone, and yields a value
  have plain : ∀ (s : Sem Value) (v : V reg.T) (cv : Value), execOp a.eval o = (do pure (.value (← s))) → s.run P w = .ok cv w → VRel reg F w φ v cv → Ka v [] → o.wp P a w K Qx := by
    intro s v cv he hr hv hk
    refine wp_value (cv := cv) (w' := w) ?_ (hK v [] F φ _ w hk (hR.put hd hv))
    rw [he, Sem.run_bind, hr]
    rfl
  obtain ⟨dst, op, ty, pos, after, guard⟩ := o
  try simp only at hd hK plain h
  cases op <;> (try simp only [lexec] at h) <;> try exact h.elim
  case move x =>
    cases hx : valOf st.env x with
    | none => simp [okK, hx] at h
    | some v =>
      simp only [okK, hx] at h
      exact wp_value (cv := a.eval x) (w' := w) rfl (hK v [] F φ _ w h (hR.put hd (hR.val hx)))
  case assign x =>
    cases hx : valOf st.env x with
    | none => simp [okK, hx] at h
    | some v =>
      simp only [okK, hx] at h
      exact wp_value (cv := a.eval x) (w' := w) rfl (hK v [] F φ _ w h (hR.put hd (hR.val hx)))
  case build t parts =>
    cases hx : buildV P t (parts.toList.map fun p => (p.1, valOf st.env p.2)) with
    | none => simp [okK, hx] at h
    | some v =>
      simp only [okK, hx] at h
      obtain ⟨cv, h1, h2⟩ := buildV_rel (F := F) (w := w) (φ := φ) hx (parts.map fun p => (p.1, a.eval p.2)) (by simp) (fun i p q v' hp hq hv' => by
        simp only [List.getElem?_map, Array.toList_map] at hp hq
        cases hi : parts.toList[i]? with
        | none => simp [hi] at hp
        | some pr =>
          simp only [hi, Option.map_some, Option.some.injEq] at hp hq
          subst hp hq
          exact hR.val hv')
      exact plain (Instr.build t (parts.map fun p => (p.1, a.eval p.2))) v cv rfl h1 h2 h
  case pick c x y =>
    cases hc : valOf st.env c with
    | none => simp [hc] at h
    | some vc =>
      have hvc := hR.val hc
      rw [hc] at h
      cases vc <;> (try simp only at h) <;> try exact h.elim
      rename_i dc
      cases dc <;> (try simp only at h) <;> try exact h.elim
      rename_i t
      have he : a.eval c = .bool t := by
        generalize a.eval c = ac at hvc
        cases hvc with
        | d x v hd => cases hd; rfl
      have hrun : ∀ z, (if t then x else y) = z → (execOp a.eval ⟨dst, .pick c x y, ty, pos, after, guard⟩).run P w = .ok (.value (a.eval z)) w := by
        intro z hz
        subst hz
        simp only [execOp, he, asBool]
        cases t <;> rfl
      cases t with
      | true =>
        simp only [branch] at h
        cases hx : valOf st.env x with
        | none => simp [okK, hx] at h
        | some v =>
          simp only [okK, hx] at h
          exact wp_value (hrun x rfl) (hK v [] F φ _ w h (hR.put hd (hR.val hx)))
      | false =>
        simp only [branch] at h
        cases hx : valOf st.env y with
        | none => simp [okK, hx] at h
        | some v =>
          simp only [okK, hx] at h
          exact wp_value (hrun y rfl) (hK v [] F φ _ w h (hR.put hd (hR.val hx)))
  case box elem x =>
    cases hx : valOf st.env x with
    | none => simp [hx] at h
    | some v =>
      simp only [hx] at h
      cases ha : v.isAny with
      | true => simp [ha] at h
      | false =>
        simp only [ha] at h
        obtain ⟨h1, h2⟩ := cells_rel (hR.val hx) ha
        obtain ⟨h3, h4⟩ := alloc_sound hR (keyOf dst) elem h1 h2
        refine wp_value (cv := .pointer (some ⟨w.heap.size, 0, none⟩)) (w' := w.alloc (.cells (a.eval x).cells elem)) ?_
          (hK _ _ F (fun i g => if i = keyOf dst ∧ g = nextGen (st.H (keyOf dst)) then some (w.heap.size, 0) else φ i g) _ _ h ?_)
        · simp [execOp, Instr.box, newVar, newRow]
        · rw [put_upd]
          exact h3.put hd h4
  case alloc t =>
    cases hz : zeroT (T := reg.T) P t with
    | none => simp [hz] at h
    | some vs =>
      simp only [hz] at h
      obtain ⟨i, z, hi, hzz, h1, h2⟩ := zeroT_rel (F := F) (w := w) (φ := φ) hz
      obtain ⟨h3, h4⟩ := alloc_sound hR (keyOf dst) t h1 h2
      refine wp_value (cv := .pointer (some ⟨w.heap.size, 0, none⟩)) (w' := w.alloc (.cells z.cells t)) ?_
        (hK _ _ F (fun i g => if i = keyOf dst ∧ g = nextGen (st.H (keyOf dst)) then some (w.heap.size, 0) else φ i g) _ _ h ?_)
      · simp [execOp, Instr.alloc, zeroValue, typeInfo, hi, hzz, newVar, newRow]
      · rw [put_upd]
        exact h3.put hd h4
  case fieldAddr s x f =>
    cases hs : P.underlying s with
    | none => simp [hs] at h
    | some ds =>
      rw [hs] at h
      cases ds <;> (try simp only at h) <;> try exact h.elim
      rename_i fs
      cases hf : fs[f]? with
      | none => simp [hf] at h
      | some fl =>
        simp only [hf] at h
        have hsz : ∃ n, P.cellsOf fl.type = n + 1 := by
          cases hz : P.cellsOf fl.type with
          | zero => rw [hz] at h; exact h.elim
          | succ n => exact ⟨n, rfl⟩
        obtain ⟨n, hz⟩ := hsz
        rw [hz] at h
        simp only at h
        have hinfo : ∃ i, P.info? fl.type = some i ∧ i.size = n + 1 := by
          unfold Program.cellsOf at hz
          cases hi : P.info? fl.type with
          | none => simp [hi] at hz
          | some i => exact ⟨i, rfl, by simpa [hi] using hz⟩
        obtain ⟨i, hi, hi'⟩ := hinfo
        have hrun : ∀ b o', (Instr.fieldAt s (.pointer (some ⟨b, o', none⟩)) f).run P w = .ok (.pointer (some ⟨b, o' + fl.offset, none⟩)) w := by
          intro b o'
          simp [Instr.fieldAt, run_underlying hs, hf, Instr.sureAddr, fieldPlace, sizeOf, typeInfo, hi, hi', addr_add]
        cases hx : valOf st.env x with
        | none => simp [hx] at h
        | some vx =>
          have hvx := hR.val hx
          rw [hx] at h
          cases vx <;> (try simp only at h) <;> try exact h.elim
          case ptr i' g' o' =>
            generalize hax : a.eval x = ax at hvx
            cases hvx with
            | ptr _ _ _ b s' hp =>
              refine plain (Instr.fieldAt s (a.eval x) f) _ _ rfl (by rw [hax]; exact hrun _ _) ?_ h
              have := VRel.ptr (reg := reg) (F := F) (w := w) (φ := φ) i' g' (o' + fl.offset) b s' hp
              rwa [show s' + (o' + fl.offset) = s' + o' + fl.offset by omega] at this
          case fp row o' =>
            generalize hax : a.eval x = ax at hvx
            cases hvx with
            | fp _ _ ad Cc tt fz hF hb hzz hr =>
              refine plain (Instr.fieldAt s (a.eval x) f) _ _ rfl (by rw [hax]; exact hrun _ _) ?_ h
              have := VRel.fp (reg := reg) (F := F) (w := w) (φ := φ) row (o' + fl.offset) ad Cc tt fz hF hb hzz hr
              rwa [show ad.off + (o' + fl.offset) = ad.off + o' + fl.offset by omega] at this
  case load t x =>
    obtain ⟨v, cv, h1, h2, h3⟩ := load_sound (P := P) hR (t := t) (x := x) (Kv := (Ka · [])) h
    exact plain (Instr.loadAt t (a.eval x)) v cv rfl h3 h2 h1
  case store t x y =>
    cases hx : valOf st.env x with
    | none => simp [hx] at h
    | some vx =>
      cases hy : valOf st.env y with
      | none => rw [hx, hy] at h; cases vx <;> simp at h
      | some v =>
        rw [hx, hy] at h
        cases vx <;> (try simp only at h) <;> try exact h.elim
        rename_i i g o'
        cases hi : st.H i with
        | none => simp [hi] at h
        | some ob =>
          cases ob with
          | rows g e xs => simp [hi] at h
          | dead g => simp [hi] at h
          | box g' vs =>
            simp only [hi] at h
            split at h
            · rename_i e1 e2 e3 e4
              obtain ⟨hgg, h⟩ := (must_iff _ _).1 h
              have hgg := Nat.eq_of_beq_eq_true hgg
              subst hgg
              obtain ⟨w', h1, h2⟩ := store_sound hR hx hy hi e1 (Nat.eq_of_beq_eq_true e2) (by simpa using e3) e4
              refine wp_skip' (w' := w') ?_ (hK _ _ F φ _ _ h ?_)
              · show ((Instr.storeAt t (a.eval x) (a.eval y)).bind fun _ => (pure Next.skip : Sem Next)).run P w = _
                have := Sem.run_bind (P := P) (w := w) (Instr.storeAt t (a.eval x) (a.eval y)) (fun _ => (pure Next.skip : Sem Next))
                exact this.trans (by rw [h1]; rfl)
              · rw [put_upd]
                exact h2.put hd (.any _)
            · exact h.elim
  case nilCheck x =>
    cases hx : valOf st.env x with
    | none => simp [hx] at h
    | some vx =>
      have hvx := hR.val hx
      rw [hx] at h
      cases vx <;> (try simp only at h) <;> try exact h.elim
      case ptr i' g' o' =>
        refine wp_value (cv := a.eval x) (w' := w) ?_ (hK _ [] F φ _ w h (hR.put hd hvx))
        generalize hax : a.eval x = ax at hvx
        cases hvx with
        | ptr _ _ _ b s' hp => simp only [execOp, hax]; rfl
      case fp row o' =>
        refine wp_value (cv := a.eval x) (w' := w) ?_ (hK _ [] F φ _ w h (hR.put hd hvx))
        generalize hax : a.eval x = ax at hvx
        cases hvx with
        | fp _ _ ad Cc tt fz hF hb hzz hr => simp only [execOp, hax]; rfl
  case binOp op t x y yt =>
    cases hx : valOf st.env x with
    | none => simp [hx] at h
    | some vx =>
      cases hy : valOf st.env y with
      | none => rw [hx, hy] at h; cases vx <;> simp at h
      | some vy =>
        have hvx := hR.val hx
        have hvy := hR.val hy
        rw [hx, hy] at h
        simp only at h
        unfold vBin at h
        split at h
        · rename_i k a' k' b'
          split at h
          · rename_i hk
            obtain rfl := sameKind_eq hk
            have hax : a.eval x = .int k a' := by generalize a.eval x = z at hvx; cases hvx with | d _ _ hd' => cases hd'; rfl
            have hay : a.eval y = .int k b' := by generalize a.eval y = z at hvy; cases hvy with | d _ _ hd' => cases hd'; rfl
            obtain ⟨d, cv, h1, h2, h3⟩ := intBin_run (reg := reg) (P := P) (t := t) (w := w) h
            refine plain (do eqGuard op t x y (a.eval x) (a.eval y); binOp op t (a.eval x) (a.eval y)) _ cv rfl ?_ (.d d cv (h2 F w)) h1
            rw [Sem.run_bind, eqGuard_run (by rw [hax])]
            simp only [Result.andThen_ok, hax, hay, h3]
          · exact h.elim
        · rename_i a' b'
          have hax : a.eval x = .bool a' := by generalize a.eval x = z at hvx; cases hvx with | d _ _ hd' => cases hd'; rfl
          have hay : a.eval y = .bool b' := by generalize a.eval y = z at hvy; cases hvy with | d _ _ hd' => cases hd'; rfl
          split at h
          · rename_i hb
            refine plain (do eqGuard .eql t x y (a.eval x) (a.eval y); binOp .eql t (a.eval x) (a.eval y)) _ _ rfl ?_ (.d _ _ (.bool (a' == b'))) h
            rw [Sem.run_bind, eqGuard_run (by rw [hax])]
            simp only [Result.andThen_ok, hax, hay, run_eql_bool w t a' b' (boolT_eq hb)]
          · rename_i hb
            refine plain (do eqGuard .neq t x y (a.eval x) (a.eval y); binOp .neq t (a.eval x) (a.eval y)) _ _ rfl ?_ (.d _ _ (.bool (!(a' == b')))) h
            rw [Sem.run_bind, eqGuard_run (by rw [hax])]
            simp only [Result.andThen_ok, hax, hay, run_neq_bool w t a' b' (boolT_eq hb)]
          · exact h.elim
        · exact h.elim
  case unOp u t x =>
    cases u <;> (try simp only at h) <;> try exact h.elim
    cases hx : valOf st.env x with
    | none => simp [hx] at h
    | some vx =>
      have hvx := hR.val hx
      rw [hx] at h
      cases vx <;> (try simp only at h) <;> try exact h.elim
      rename_i dx
      cases dx <;> (try simp only at h) <;> try exact h.elim
      rename_i b'
      have hax : a.eval x = .bool b' := by generalize a.eval x = z at hvx; cases hvx with | d _ _ hd' => cases hd'; rfl
      exact plain (Op.unary .not (a.eval x)) _ (.bool (!b')) rfl (by rw [hax]; rfl) (.d _ _ (.bool _)) h
  case extract x n =>
    cases hx : valOf st.env x with
    | none => simp [hx] at h
    | some vx =>
      have hvx := hR.val hx
      rw [hx] at h
      cases vx <;> (try simp only at h) <;> try exact h.elim
      rename_i vs
      cases hn : vs[n]? with
      | none => simp [okK, hn] at h
      | some v =>
        simp only [okK, hn] at h
        generalize hax : a.eval x = z at hvx
        cases hvx with
        | tup _ cs hz hh =>
          have hlt : n < vs.length := (List.getElem?_eq_some_iff.1 hn).1
          have hv := hh n hlt
          have e1 : vs.getD n .any = v := by simp [List.getD, hn]
          rw [e1] at hv
          refine plain (Instr.extract (a.eval x) n) v _ rfl ?_ hv h
          rw [hax]
          have hc : cs[n]? = some (cs.getD n undef) := by
            have : n < cs.size := by omega
            simp [Array.getD_eq_getD_getElem?, this]
          simp only [Instr.extract, hc]
          rfl
  case call c =>
    obtain ⟨callee, args, argTypes⟩ := c
    unfold callV at h
    cases callee <;> simp only [staticF] at h <;> try exact h.elim
    rename_i fo
    cases fo <;> (try simp only at h) <;> try exact h.elim
    rename_i f
    cases hf : C f with
    | none => simp [hf] at h
    | some S =>
      simp only [hf] at h
      cases hvs : allSome (args.toList.map (valOf st.env)) with
      | none => simp [hvs] at h
      | some vs =>
        simp only [hvs] at h
        cases hp : V.pure.goL vs with
        | false => simp [hp] at h
        | true =>
          simp only [hp] at h
          cases hS : S vs with
          | none => simp [hS] at h
          | some pv =>
            obtain ⟨p, v⟩ := pv
            simp only [hS] at h
            obtain ⟨hp1, h⟩ := h
            cases hv : v.pure with
            | false => simp [hv] at h
            | true =>
              simp only [hv] at h
              have hcs := hC f S hf
              obtain ⟨fn, hfn, hname, hbody⟩ := hcs.there
              have hlen : vs.length = (args.map a.eval).size := by
                have := congrArg List.length (allSome_spec hvs)
                simp at this
                simp [this]
              have hrel : ∀ j, j < vs.length → VRel reg F w (fun _ _ => none) (vs.getD j .any) ((args.map a.eval).getD j undef) := by
                intro j hj
                have e := congrArg (fun l => l[j]?) (allSome_spec hvs)
                have hj' : j < args.size := by simpa [hlen] using hj
                simp only [List.getElem?_map, Array.getElem?_toList] at e
                have h1 : args[j]? = some args[j] := Array.getElem?_eq_getElem hj'
                have h2 : vs[j]? = some vs[j] := List.getElem?_eq_getElem hj
                rw [h1, h2] at e
                simp only [Option.map_some, Option.some.injEq] at e
                have h3 := (hR.val e).pure (φ' := fun _ _ => none) reg (by
                  have := goL_getD hp hj
                  simpa [List.getD, h2] using this)
                have h4 : vs.getD j .any = vs[j] := by simp [List.getD, h2]
                have h5 : (args.map a.eval).getD j undef = a.eval args[j] := by simp [Array.getD_eq_getD_getElem?, hj']
                rw [h4, h5]
                exact h3
              have hcall := hcs.calls vs p v hS hp1 hp hv F w (args.map a.eval) (fun b hb => (hR.frz b hb).1) hlen hrel
              have hex : (execOp a.eval ⟨dst, .call ⟨.value (.func f), args, argTypes⟩, ty, pos, after, guard⟩).run P w = .ok (.enter f (args.map a.eval)) w := by
                have hn' : ¬ fn.name = "runtime.NumGoroutine" := by simpa using hname
                have hb' : ¬ fn.body = none := fun e => by simp [e] at hbody
                simp [execOp, resolve, Act.eval, Deferred.ofValue, invoke, callFunc, hfn, hn', hb']
              unfold Oper.wp
              rw [hex]
              show Calls P f (args.map a.eval) w _
              refine hcall.mono fun e w' hh => ?_
              obtain ⟨cv, F', rfl, h1, h2, h3, h4, h5⟩ := hh
              have hR' := hR.world (F' := F') h3 h4 h5 h2
              exact hK v [] F' φ _ w' h (hR'.put hd (h1.pure (φ' := φ) reg hv))
end step
end
end Go.Vs
