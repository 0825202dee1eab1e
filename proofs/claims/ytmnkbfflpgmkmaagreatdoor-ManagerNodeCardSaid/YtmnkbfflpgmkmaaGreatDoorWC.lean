/- Cells that are read and written; values and their cells. No conditions. -/
import Derived.Test.YtmnkbfflpgmkmaaGreatDoorWH
import Derived.Deep.AppendSrc
namespace Go.W
open Go Go.RowKit

/-! ### Cells of a block, written -/
def wrC (C : Array Value) : Nat → List Value → Array Value
  | _, [] => C
  | o, v :: r => wrC (C.setIfInBounds o v) (o + 1) r

theorem wrC_size (C : Array Value) : ∀ (vs : List Value) (o : Nat), (wrC C o vs).size = C.size
  | [], _ => rfl
  | v :: r, o => by rw [wrC, wrC_size _ r]; simp

theorem wrC_getD (C : Array Value) : ∀ (vs : List Value) (o j : Nat), o + vs.length ≤ C.size → (wrC C o vs).getD j undef = if o ≤ j ∧ j < o + vs.length then vs.getD (j - o) undef else C.getD j undef := by
  intro vs
  induction vs generalizing C with
  | nil => intro o j _; simp [wrC]; intro h1 h2; omega
  | cons v r ih =>
    intro o j h
    simp only [List.length_cons] at h
    rw [wrC, ih (C.setIfInBounds o v) (o + 1) j (by simp; omega)]
    by_cases hj : j = o
    · subst hj
      have h1 : ¬ (j + 1 ≤ j ∧ j < j + 1 + r.length) := by omega
      rw [if_neg h1, if_pos ⟨Nat.le_refl _, by simp⟩]
      have : j < C.size := by omega
      simp [Array.getD, this]
    · by_cases h1 : o + 1 ≤ j ∧ j < o + 1 + r.length
      · rw [if_pos h1, if_pos ⟨by omega, by simp; omega⟩]
        rw [show j - o = (j - (o + 1)) + 1 by omega]
        simp
      · rw [if_neg h1, if_neg (by simp; omega)]
        have hne : o ≠ j := fun e => hj e.symm
        simp only [Array.getD_eq_getD_getElem?, Array.getElem?_setIfInBounds]
        rw [if_neg hne]

theorem heap_setCell_same {w : World} {b o : Nat} {v : Value} {C : Array Value} {t : TypeId} {fz : Nat × Nat} (h : w.heap[b]? = some (.cells C t fz)) :
    (w.setCell ⟨b, o, none⟩ v).heap[b]? = some (.cells (C.setIfInBounds o v) t fz) := by
  simp [World.setCell, Array.getElem?_modify, h]

theorem heap_setCells {b : Nat} : ∀ (vs : List Value) (o : Nat) (w : World) {C : Array Value} {t : TypeId} {fz : Nat × Nat}, w.heap[b]? = some (.cells C t fz) →
    (w.setCells b o vs).heap[b]? = some (.cells (wrC C o vs) t fz)
  | [], _, _, _, _, _, h => h
  | v :: r, o, w, C, t, fz, h => by
    rw [World.setCells, wrC]
    exact heap_setCells r (o + 1) _ (heap_setCell_same h)

theorem heap_setCells_other {b k : Nat} (hk : k ≠ b) : ∀ (vs : List Value) (o : Nat) (w : World), (w.setCells b o vs).heap[k]? = w.heap[k]?
  | [], _, _ => rfl
  | v :: r, o, w => by
    rw [World.setCells, heap_setCells_other hk r (o + 1)]
    exact Below.heap_setCell w ⟨b, o, none⟩ v k hk

theorem size_setCells {b : Nat} : ∀ (vs : List Value) (o : Nat) (w : World), (w.setCells b o vs).heap.size = w.heap.size
  | [], _, _ => rfl
  | v :: r, o, w => by rw [World.setCells, size_setCells r (o + 1)]; simp

theorem rest_setCells {b : Nat} : ∀ (vs : List Value) (o : Nat) (w : World), (w.setCells b o vs).os = w.os ∧ (w.setCells b o vs).tape = w.tape ∧ (w.setCells b o vs).output = w.output
  | [], _, _ => ⟨rfl, rfl, rfl⟩
  | v :: r, o, w => by rw [World.setCells]; exact rest_setCells r (o + 1) (w.setCell ⟨b, o, none⟩ v)

theorem cell_of_heap {w : World} {b o : Nat} {C : Array Value} {t : TypeId} {fz : Nat × Nat} (h : w.heap[b]? = some (.cells C t fz)) : w.cell? ⟨b, o, none⟩ = C[o]? := by
  simp [World.cell?, h]

theorem frozen_of_free {w : World} {b o : Nat} {C : Array Value} {t : TypeId} {fz : Nat × Nat} (h : w.heap[b]? = some (.cells C t fz)) (hf : free C fz) (ho : o < C.size) :
    w.frozen? ⟨b, o, none⟩ = false := by
  obtain ⟨lo, hi⟩ := fz
  simp only [World.frozen?, h]
  rcases hf with hf | hf <;> simp at hf ⊢ <;> omega

section
variable {reg : Reg} {P : Program}

/-! ### Loads and stores -/
theorem run_isAgg {t : TypeId} (hk : knownT P t = true) (w : World) : (isAgg t).run P w = .ok (isAggT P t) w := by
  unfold knownT at hk
  simp only [Bool.and_eq_true, Option.isSome_iff_exists] at hk
  obtain ⟨⟨d, hd⟩, _⟩ := hk
  unfold isAgg isAggT
  simp only [Sem.run_bind, run_underlying hd, Result.andThen_ok, hd]
  cases d <;> rfl

theorem run_sizeOf' {t : TypeId} (hk : knownT P t = true) (w : World) : (sizeOf t).run P w = .ok (P.cellsOf t) w := by
  unfold knownT at hk
  simp only [Bool.and_eq_true, Option.isSome_iff_exists] at hk
  obtain ⟨_, ⟨i, hi⟩⟩ := hk
  exact run_sizeOf w hi

theorem addr_add (b o n : Nat) : Addr.add ⟨b, o, none⟩ n = ⟨b, o + n, none⟩ := Addr.add_lit b o n

/-- A variable whose cells are known is loaded. -/
theorem run_loadVar_cells {w : World} {t : TypeId} {b o : Nat} {C : Array Value} {ty : TypeId} {fz : Nat × Nat} (hk : knownT P t = true) (hb : w.heap[b]? = some (.cells C ty fz))
    (hz : isAggT P t = true → ∀ j, j < P.cellsOf t → o + j < C.size) (h1 : isAggT P t = false → o < C.size) :
    (loadVar t ⟨b, o, none⟩).run P w = .ok (if isAggT P t then .agg (((List.range (P.cellsOf t)).map fun j => C.getD (o + j) undef).toArray) else C.getD o undef) w := by
  have hcell : ∀ j, o + j < C.size → w.cell? ⟨b, o + j, none⟩ = some (C.getD (o + j) undef) := by
    intro j hj
    rw [cell_of_heap hb]
    simp [Array.getD, hj]
  unfold loadVar
  simp only [Sem.run_bind, run_isAgg hk, Result.andThen_ok]
  cases ha : isAggT P t with
  | true =>
    simp only [if_true, Sem.run_bind, run_sizeOf' hk, Result.andThen_ok]
    rw [run_loadCells w ⟨b, o, none⟩ (P.cellsOf t) (fun j => C.getD (o + j) undef) (fun j hj => by rw [addr_add]; exact hcell j (hz ha j hj))]
    rfl
  | false =>
    have h0 := hcell 0 (h1 ha)
    simp only [Nat.add_zero] at h0
    simp [h0]

theorem run_storeVar_cells {w : World} {t : TypeId} {b o : Nat} {C : Array Value} {ty : TypeId} {fz : Nat × Nat} {v : Value} (hk : knownT P t = true) (hb : w.heap[b]? = some (.cells C ty fz))
    (hf : free C fz) (hv : v.cells.size = P.cellsOf t) (hz : o + v.cells.size ≤ C.size) (h1 : ∀ x ∈ v.cells.toList, x.oneCell' = true) :
    (storeVar t ⟨b, o, none⟩ v).run P w = .ok () (w.setCells b o v.cells.toList) := by
  unfold storeVar
  simp only [Sem.run_bind, run_sizeOf' hk, Result.andThen_ok, hv]
  simp only [ne_eq, not_true_eq_false, if_false]
  have := run_storeCells_cells (P := P) b o v.cells.toList 0 w (fun j hj => by
      simp only [Array.length_toList] at hj
      rw [Nat.add_zero, cell_of_heap hb]; simp; omega)
    (fun j hj => by simp only [Array.length_toList] at hj; exact frozen_of_free hb hf (by omega)) h1
  simpa using this


/-! ### Values -/
theorem VRel.ofValue {F : Nat → Prop} {w : World} {φ : Phi} (v : Value) : VRel reg F w φ (V.ofValue v) v := by
  cases v <;> try exact .any _
  case bool b => exact .d _ _ (.bool b)
  case int k n => exact .d _ _ (.int k n)
  case string s => exact .d _ _ (by have := DRel.str (reg := reg) (F := F) (w := w) s.data.toList; simpa using this)
  case pointer a => cases a <;> first | exact .d _ _ .nilp | exact .any _
  case map r => cases r <;> first | exact .d _ _ .nilm | exact .any _
  case nilFunc => exact .d _ _ .nilf
  case nilIface => exact .d _ _ .nili
  case slice a l c => cases a <;> cases l <;> cases c <;> first | exact .d _ _ .nils | exact .any _

theorem allSome_spec {α : Type} : ∀ {l : List (Option α)} {vs : List α}, allSome l = some vs → l = vs.map some
  | [], vs, h => by simp [allSome] at h; subst h; rfl
  | some v :: l, vs, h => by
    simp only [allSome] at h
    cases hl : allSome l with
    | none => simp [hl] at h
    | some us => simp only [hl, Option.some.injEq] at h; subst h; simp [allSome_spec hl]
  | none :: l, vs, h => by simp [allSome] at h

theorem cells_rel {F : Nat → Prop} {w : World} {φ : Phi} {v : V reg.T} {cv : Value} (h : VRel reg F w φ v cv) (hn : v.isAny = false) :
    v.cells.length = cv.cells.size ∧ ∀ j, j < v.cells.length → VRel reg F w φ (v.cells.getD j .any) (cv.cells.getD j undef) := by
  have one : ∀ (v : V reg.T) (cv : Value), VRel reg F w φ v cv → v.cells = [v] → cv.cells = #[cv] → v.cells.length = cv.cells.size ∧ ∀ j, j < v.cells.length → VRel reg F w φ (v.cells.getD j .any) (cv.cells.getD j undef) := by
    intro v cv h e1 e2
    rw [e1, e2]
    refine ⟨rfl, fun j hj => ?_⟩
    have : j = 0 := by simpa using hj
    subst this
    simpa using h
  cases h with
  | agg vs cs hz hh => exact ⟨hz, hh⟩
  | any => simp [V.isAny] at hn
  | undef => simp [V.isAny] at hn
  | d x v hd => exact one _ _ (.d x _ hd) rfl (by cases hd <;> rfl)
  | ptr i r o b s k z hp => exact one _ _ (.ptr i r o b s k z hp) rfl rfl
  | fp row o a C t fz hF hb hz hr => exact one _ _ (.fp row o a C t fz hF hb hz hr) rfl rfl
  | sl i off len cap b s k z cap' hp hc hl hm hz => exact one _ _ (.sl i off len cap b s k z cap' hp hc hl hm hz) rfl rfl
  | slz i off cap base hc hb => exact one _ _ (.slz i off cap base hc hb) rfl rfl
  | mp i b s hp => exact one _ _ (.mp i b s hp) rfl rfl
  | it i b s hp => exact one _ _ (.it i b s hp) rfl rfl
  | fn f caps fst cs fs hz hh hz' hh' => exact one _ _ (.fn f caps fst cs fs hz hh hz' hh') rfl rfl
  | tup vs cs hz hh => exact one _ _ (.tup vs cs hz hh) rfl rfl
  | ifc t v cv hh => exact one _ _ (.ifc t v cv hh) rfl rfl

theorem DRel.oneCell {F : Nat → Prop} {w : World} {x : D reg.T} {cv : Value} (h : DRel reg F w x cv) : cv.oneCell' = true := by cases h <;> rfl

theorem solid_oneCell {F : Nat → Prop} {w : World} {φ : Phi} {v : V reg.T} {cv : Value} (h : VRel reg F w φ v cv) (hs : v.solid = true) : cv.oneCell' = true := by
  cases h <;> first | rfl | (simp [V.solid] at hs; done) | skip
  rename_i hd
  exact hd.oneCell

theorem toList_getD (C : Array Value) (j : Nat) : C.toList.getD j undef = C.getD j undef := by
  simp [List.getD, Array.getD_eq_getD_getElem?]

theorem asVar_rel {F : Nat → Prop} {w : World} {φ : Phi} {t : TypeId} {cs : List (V reg.T)} {v : V reg.T} (h : asVar P t cs = some v) (c : Nat → Value)
    (hc : ∀ j, j < cs.length → VRel reg F w φ (cs.getD j .any) (c j)) : knownT P t = true ∧ cs.length = (if isAggT P t then P.cellsOf t else 1) ∧
      VRel reg F w φ v (if isAggT P t then .agg (((List.range (P.cellsOf t)).map c).toArray) else c 0) := by
  unfold asVar at h
  cases hk : knownT P t with
  | false => simp [hk] at h
  | true =>
    cases ha : isAggT P t with
    | true =>
      simp only [hk, ha] at h
      cases hb : Nat.beq cs.length (P.cellsOf t) with
      | false => simp [hb] at h
      | true =>
        simp only [hb, Option.some.injEq] at h
        subst h
        have hz : cs.length = P.cellsOf t := Nat.eq_of_beq_eq_true hb
        refine ⟨rfl, by simpa using hz, ?_⟩
        simp only [if_true]
        refine .agg _ _ (by simp [hz]) (fun j hj => ?_)
        have := hc j hj
        have hj' : j < P.cellsOf t := by omega
        simpa [Array.getD_eq_getD_getElem?, hj'] using this
    | false =>
      simp only [hk, ha] at h
      match cs, h with
      | [c0], h =>
        simp only [Option.some.injEq] at h
        subst h
        refine ⟨rfl, by simp, ?_⟩
        simpa using hc 0 (by simp)

theorem sameKind_eq {k k' : IntKind} (h : sameKind k k' = true) : k = k' := by cases k <;> cases k' <;> first | rfl | simp [sameKind] at h

theorem getD_take_drop {α : Type} (vs : List α) (o n j : Nat) (d : α) (hj : j < ((vs.drop o).take n).length) : ((vs.drop o).take n).getD j d = vs.getD (o + j) d := by
  simp only [List.length_take, List.length_drop] at hj
  simp only [List.getD, List.getElem?_take, List.getElem?_drop]
  rw [if_pos (by omega)]

theorem boolT_eq {t : TypeId} (h : boolT P t = true) : P.underlying t = some .bool := by
  unfold boolT at h
  split at h
  · assumption
  · simp at h

theorem eqGuard_run {op : BinOp} {t : TypeId} {x y : Operand} {u v : Value} {w : World} (hu : (match u with | .nilIface | .agg _ => false | _ => true) = true) : (eqGuard op t x y u v).run P w = .ok () w := by
  cases u <;> simp at hu <;> first
    | (rw [eqGuard_at_bool]; rfl) | (rw [eqGuard_at_int]; rfl) | (rw [eqGuard_at_string]; rfl) | (rw [eqGuard_at_pointer]; rfl) | (rw [eqGuard_at_slice]; rfl) | (rw [eqGuard_at_map]; rfl)
    | (rw [eqGuard_at_float]; rfl) | (rw [eqGuard_at_complex]; rfl) | (rw [eqGuard_at_chan]; rfl) | (rw [eqGuard_at_func]; rfl) | (rw [eqGuard_at_nilFunc]; rfl) | (rw [eqGuard_at_iface]; rfl) | (rw [eqGuard_at_tuple]; rfl)


/-! ### Zero values -/
theorem zeroFits_rel {F : Nat → Prop} {w : World} {φ : Phi} {v : V reg.T} {c : Value} (h : zeroFits v c = true) : VRel reg F w φ v c ∧ v.solid = true := by
  unfold zeroFits at h
  split at h
  · rename_i b b'; cases b <;> cases b' <;> simp at h; exact ⟨.d _ _ (.bool _), rfl⟩
  · rw [sameKind_eq h]; exact ⟨.d _ _ (.int _ _), rfl⟩
  · rename_i s
    have h0 : s.data.toList = [] := by simpa using h
    have h2 := DRel.str (reg := reg) (F := F) (w := w) s.data.toList
    rw [Array.toArray_toList] at h2
    rw [h0] at h2
    exact ⟨.d _ _ h2, rfl⟩
  · exact ⟨.d _ _ .nilp, rfl⟩
  · exact ⟨.d _ _ .nilm, rfl⟩
  · exact ⟨.d _ _ .nilf, rfl⟩
  · exact ⟨.d _ _ .nili, rfl⟩
  · exact ⟨.d _ _ .nils, rfl⟩
  · simp at h

theorem fitsL_rel {F : Nat → Prop} {w : World} {φ : Phi} : ∀ {vs : List (V reg.T)} {cs : List Value}, fitsL vs cs = true → vs.length = cs.length ∧ ∀ j, j < vs.length → VRel reg F w φ (vs.getD j .any) (cs.getD j undef) ∧ (vs.getD j .any).solid = true := by
  intro vs
  induction vs with
  | nil => intro cs h; cases cs with
    | nil => exact ⟨rfl, fun j hj => by simp at hj⟩
    | cons c cs => simp [fitsL] at h
  | cons v vs ih =>
    intro cs h
    cases cs with
    | nil => simp [fitsL] at h
    | cons c cs =>
      simp only [fitsL] at h
      cases hz : zeroFits v c with
      | false => simp [hz] at h
      | true =>
        simp only [hz] at h
        obtain ⟨h1, h2⟩ := ih h
        refine ⟨by simp [h1], fun j hj => ?_⟩
        cases j with
        | zero => simpa using zeroFits_rel hz
        | succ j => simpa using h2 j (by simpa using hj)

theorem zeroT_rel {F : Nat → Prop} {w : World} {φ : Phi} {t : TypeId} {vs : List (V reg.T)} (h : zeroT P t = some vs) :
    ∃ i z, P.info? t = some i ∧ i.zero = some z ∧ vs.length = z.cells.size ∧ ∀ j, j < vs.length → VRel reg F w φ (vs.getD j .any) (z.cells.getD j undef) ∧ (vs.getD j .any).solid = true := by
  unfold zeroT at h
  split at h
  · rename_i i hi
    split at h
    · rename_i z hz
      split at h
      · rename_i hf
        simp only [Option.some.injEq] at h
        subst h
        obtain ⟨h1, h2⟩ := fitsL_rel (F := F) (w := w) (φ := φ) hf
        exact ⟨i, z, hi, hz, by simpa using h1, fun j hj => by rw [← toList_getD]; exact h2 j hj⟩
      · simp at h
    · simp at h
  · simp at h

theorem foldl_wrC (o : Nat) : ∀ (l : List Value) (k : Nat) (C : Array Value), (l.zipIdx k).foldl (fun C x => C.setIfInBounds (o + x.2) x.1) C = wrC C (o + k) l := by
  intro l
  induction l with
  | nil => intro k C; rfl
  | cons v l ih =>
    intro k C
    simp only [List.zipIdx_cons, List.foldl_cons, wrC]
    rw [ih]
    rfl


theorem getD_setRange_rel {F : Nat → Prop} {w : World} {φ : Phi} {vs cs : List (V reg.T)} {o : Nat} {C D : Array Value} (hl : vs.length = C.size) (hv : ∀ j, j < vs.length → VRel reg F w φ (vs.getD j .any) (C.getD j undef))
    (hl' : cs.length = D.size) (hc : ∀ j, j < cs.length → VRel reg F w φ (cs.getD j .any) (D.getD j undef)) (hz : o + cs.length ≤ vs.length) :
    (setRange vs o cs).length = (wrC C o D.toList).size ∧ ∀ j, j < (setRange vs o cs).length → VRel reg F w φ ((setRange vs o cs).getD j .any) ((wrC C o D.toList).getD j undef) := by
  have hsl : (setRange vs o cs).length = vs.length := length_setRange _ _ _ hz
  refine ⟨by rw [hsl, wrC_size, hl], fun k hk => ?_⟩
  rw [hsl] at hk
  rw [wrC_getD _ _ _ _ (by simp; omega), getD_setRange _ _ _ _ _ hz]
  simp only [Array.length_toList]
  by_cases hin : o ≤ k ∧ k < o + cs.length
  · rw [if_pos hin, if_pos (by omega), toList_getD]
    exact hc (k - o) (by omega)
  · rw [if_neg hin, if_neg (by omega)]
    exact hv k hk
end
end Go.W
