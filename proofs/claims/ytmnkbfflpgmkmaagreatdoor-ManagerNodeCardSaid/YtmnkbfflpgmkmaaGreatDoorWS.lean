/- That operations do to the machine what the evaluator says: loads, stores, numbers, texts, sources. No conditions. -/
import Derived.Test.YtmnkbfflpgmkmaaGreatDoorWC
namespace Go.W
open Go Go.RowKit

section
variable {reg : Reg} {P : Program} {N F : Nat → Prop} {φ : Phi} {h : Hp reg.T} {w : World}

def OpOk (P : Program) (N F : Nat → Prop) (φ : Phi) (h : Hp reg.T) (w : World) (s : Sem Value) (Q : V reg.T × Hp reg.T → Prop) : Prop :=
  ∃ cv w', s.run P w = .ok cv w' ∧ Res N F φ h w Q cv w'

theorem fresh_new {Q : V reg.T × Hp reg.T → Prop} {o : O reg.T} {v : V reg.T} (hfr : ∀ r, Q r → Fresh N h.nx r.2.nx) (hq : Q (v, h.new o)) : ¬N h.nx := hfr _ hq _ (Nat.le_refl _) (Nat.lt_succ_self _)

theorem sliceT_eq {t e : TypeId} (h : sliceT P t = some e) : P.underlying t = some (.slice e) := by
  unfold sliceT at h
  split at h
  · rename_i e' hu; cases h; exact hu
  · cases h
theorem isStrT_eq {t : TypeId} (h : isStrT P t = true) : P.underlying t = some .string := by
  unfold isStrT at h
  split at h
  · assumption
  · cases h
theorem isPtrT_eq {t : TypeId} (h : isPtrT P t = true) : ∃ e, P.underlying t = some (.pointer e) := by
  unfold isPtrT at h
  split at h
  · rename_i e hu; exact ⟨e, hu⟩
  · cases h
theorem u8T_eq {t : TypeId} (h : u8T P t = true) : P.underlying t = some (.int .u8) := by
  unfold u8T at h
  split at h
  · assumption
  · cases h

theorem info_of {t : TypeId} (h : (P.info? t).isSome = true) : ∃ i, P.info? t = some i ∧ i.size = P.cellsOf t ∧ i.bytes = P.bytesOf t := by
  obtain ⟨i, hi⟩ := Option.isSome_iff_exists.1 h
  exact ⟨i, hi, by simp [Program.cellsOf, hi], by simp [Program.bytesOf, hi]⟩

theorem run_sizeOf_info {t : TypeId} (h : (P.info? t).isSome = true) (w : World) : (sizeOf t).run P w = .ok (P.cellsOf t) w := by
  obtain ⟨i, hi, _, _⟩ := info_of h
  rw [run_sizeOf w hi]

/-! ### Loads and stores -/
/-- Cells that are known at an address. -/
theorem load_main {t : TypeId} {cs : List (V reg.T)} {v : V reg.T} {b o : Nat} {C : Array Value} {ty : TypeId} {fz : Nat × Nat} (hv : asVar P t cs = some v) (hb : w.heap[b]? = some (.cells C ty fz))
    (hz : ∀ j, j < cs.length → o + j < C.size) (hrel : ∀ j, j < cs.length → VRel reg F w φ (cs.getD j .any) (C.getD (o + j) undef)) :
    ∃ cv, VRel reg F w φ v cv ∧ (Instr.loadAt t (.pointer (some ⟨b, o, none⟩))).run P w = .ok cv w := by
  obtain ⟨hk, hlen, hr⟩ := asVar_rel (reg := reg) (F := F) (w := w) (φ := φ) hv (fun j => C.getD (o + j) undef) hrel
  refine ⟨_, hr, ?_⟩
  have e : Instr.loadAt t (.pointer (some ⟨b, o, none⟩)) = loadVar t ⟨b, o, none⟩ := rfl
  rw [e, run_loadVar_cells hk hb (fun ha j hj => by simp only [ha, if_true] at hlen; exact hz j (by omega)) (fun ha => by simp only [ha] at hlen; have := hz 0 (by simp at hlen; omega); simpa using this)]
  simp

theorem K_oneO {x : Option (V reg.T)} {Q : V reg.T × Hp reg.T → Prop} (hq : (oneO x h).K Q) : ∃ v, x = some v ∧ Q (v, h) := by
  unfold oneO at hq
  split at hq
  · exact ⟨_, rfl, hq⟩
  · exact hq.elim

theorem row_at {o : O reg.T} {i b s k z : Nat} (hH : HR N F φ h w) (hi : h.get i = some o) (hp : φ i = some (b, s, k, z)) (hrows : o.isRows reg = true) :
    o.isRows reg = true ∧ k = o.k reg ∧ ¬F b ∧ b < w.heap.size ∧ ∃ C t fz, w.heap[b]? = some (.cells C t fz) ∧ free C fz ∧ RowsAt reg F w φ o s C ∧ C.size = z := by
  obtain ⟨h0, h1⟩ := (hH.obj i o hi).rows reg hrows
  have hw := hH.own i o b s (k, z) hi hp
  rcases h1 with ⟨_, h2⟩ | ⟨b', s', C, t, fz, h2, h3, h4, h5⟩
  · rw [hp] at h2; cases h2
  · rw [hp] at h2
    cases h2
    exact ⟨h0, rfl, hw.1, hw.2, C, t, fz, h3, h4, h5, rfl⟩

/-- A row's cells lie in the block. -/
theorem cell_lt {r n k j s z : Nat} (hr : r < n) (hj : j < k) (hz : s + n * k ≤ z) : s + r * k + j < z := by
  have h1 : (r + 1) * k ≤ n * k := Nat.mul_le_mul_right _ hr
  rw [Nat.succ_mul] at h1
  omega

theorem loadG_ok {t : TypeId} {x : Option (V reg.T)} {cx : Value} {Q : V reg.T × Hp reg.T → Prop} (hH : HR N F φ h w) (hq : (loadG P t x h).K Q) (hx : ∀ v, x = some v → VRel reg F w φ v cx) :
    OpOk P N F φ h w (Instr.loadAt t cx) Q := by
  unfold loadG at hq
  split at hq
  · rename_i i r o
    have hv := hx _ rfl
    split at hq
    · rename_i ob hi
      obtain ⟨h0, hq⟩ := Out.K_ask.1 hq
      obtain ⟨hr, hq⟩ := Out.K_need.1 hq
      have hr : r < ob.len reg := Nat.le_of_ble_eq_true hr
      obtain ⟨v, hv', hq⟩ := K_oneO hq
      generalize cx = c at hv
      cases hv with
      | ptr i r o b s k z hp =>
        obtain ⟨_, rfl, _, _, C, ty, fz, h1, _, h2, _⟩ := row_at hH hi hp h0
        have hw := h2.at_.wid r hr
        have hlen : (((ob.row reg r).drop o).take (P.cellsOf t)).length ≤ ob.k reg - o := by simp; omega
        obtain ⟨cv, h3, h4⟩ := load_main (P := P) (F := F) (φ := φ) hv' h1 (o := s + r * ob.k reg + o) (fun j hj => by
            have hjk : o + j < ob.k reg := by omega
            have := cell_lt hr hjk h2.size
            omega) (fun j hj => by
            have hjk : o + j < ob.k reg := by omega
            have := h2.at_.rel r (o + j) hr hjk
            rw [show s + (r * ob.k reg + (o + j)) = s + r * ob.k reg + o + j by omega] at this
            have e : (((ob.row reg r).drop o).take (P.cellsOf t)).getD j .any = (ob.row reg r).getD (o + j) .any := by
              simp only [List.length_take, List.length_drop] at hj
              simp only [List.getD, List.getElem?_take, List.getElem?_drop]
              rw [if_pos (by omega)]
            rw [e]; exact this)
        exact ⟨cv, w, h4, .pure hH hq h3⟩
    · exact hq.elim
  · rename_i row o
    have hv := hx _ rfl
    obtain ⟨v, hv', hq⟩ := K_oneO hq
    generalize cx = c at hv
    cases hv with
    | fp row o ad C ty fz hF hb hz hr =>
      have hlen : ((row.drop o).take (P.cellsOf t)).length ≤ row.length - o := by simp; omega
      obtain ⟨cv, h3, h4⟩ := load_main (P := P) (F := F) (φ := φ) hv' hb (o := ad.off + o) (fun j hj => by simp only [List.length_map] at hj; omega) (fun j hj => by
        simp only [List.length_map] at hj
        have := hr (o + j) (by omega)
        have e : ((row.drop o).take (P.cellsOf t)).getD j .nilp = row.getD (o + j) .nilp := by
          simp only [List.length_take, List.length_drop] at hj
          simp only [List.getD, List.getElem?_take, List.getElem?_drop]
          rw [if_pos (by omega)]
        rw [getD_map_d _ _ hj, e, show ad.off + o + j = ad.off + (o + j) by omega]
        exact .d _ _ this)
      exact ⟨cv, w, h4, .pure hH hq h3⟩
  · exact hq.elim

theorem solid_all {l : List (V reg.T)} (h : l.all V.solid = true) {j : Nat} (hj : j < l.length) : (l.getD j .any).solid = true := by
  have := List.all_eq_true.1 h (l[j]) (List.getElem_mem _)
  simpa [List.getD, hj] using this

theorem one_all {v : V reg.T} {cv : Value} (hv : VRel reg F w φ v cv) (hs : v.cells.all V.solid = true) : v.isAny = false ∧ v.cells.length = cv.cells.size ∧
    (∀ j, j < v.cells.length → VRel reg F w φ (v.cells.getD j .any) (cv.cells.getD j undef)) ∧ ∀ c ∈ cv.cells.toList, c.oneCell' = true := by
  have hna : v.isAny = false := by cases v <;> first | rfl | simp [V.cells, V.solid] at hs
  obtain ⟨hc1, hc2⟩ := cells_rel hv hna
  refine ⟨hna, hc1, hc2, fun c hcm => ?_⟩
  obtain ⟨j, hj, rfl⟩ := List.mem_iff_getElem.1 hcm
  simp only [Array.length_toList] at hj
  have h8 := solid_oneCell (hc2 j (by omega)) (solid_all hs (by omega))
  have h9 : cv.cells.getD j undef = cv.cells.toList[j] := by simp [Array.getD_eq_getD_getElem?, hj]
  rwa [h9] at h8

/-- An object's rows behind a write of a piece of one row. -/
theorem row_written {o o' : O reg.T} {s r p : Nat} {C : Array Value} {cs : List (V reg.T)} {ds : List Value} (h2 : RowsAt reg F w φ o s C) (hr : r < o.len reg) (hk : o'.k reg = o.k reg) (hl : o'.len reg = o.len reg)
    (hrow : ∀ r', o'.row reg r' = if r' = r then setRange (o.row reg r) p cs else o.row reg r') (hp : p + cs.length ≤ o.k reg) (hd : ds.length = cs.length)
    (hs : ∀ j, j < cs.length → (cs.getD j .any).solid = true) (hrel : ∀ j, j < cs.length → VRel reg F w φ (cs.getD j .any) (ds.getD j undef)) :
    RowsAt reg F w φ o' s (wrC C (s + r * o.k reg + p) ds) := by
  have hw := h2.at_.wid r hr
  have hz : p + cs.length ≤ (o.row reg r).length := by omega
  have hfit : s + r * o.k reg + p + ds.length ≤ C.size := by
    have h1 : (r + 1) * o.k reg ≤ o.len reg * o.k reg := Nat.mul_le_mul_right _ hr
    rw [Nat.succ_mul] at h1
    have := h2.size
    omega
  refine ⟨by rw [wrC_size, hl, hk]; exact h2.size, by rw [hl]; exact h2.len, ?_⟩
  rw [hl, hk]
  refine ⟨fun r' hr' => ?_, fun r' j hr' hj => ?_, fun r' j hr' hj => ?_⟩
  · rw [hrow]
    split
    · rw [length_setRange _ _ _ hz, hw]
    · exact h2.at_.wid r' hr'
  · rw [hrow]
    split
    · rw [getD_setRange _ _ _ _ _ hz]
      split
      · exact hs _ (by omega)
      · exact h2.at_.solid r j hr hj
    · exact h2.at_.solid r' j hr' hj
  · rw [hrow, wrC_getD _ _ _ _ hfit]
    by_cases he : r' = r
    · subst he
      rw [if_pos rfl, getD_setRange _ _ _ _ _ hz]
      by_cases hin : p ≤ j ∧ j < p + cs.length
      · rw [if_pos hin, if_pos (by omega), show s + (r' * o.k reg + j) - (s + r' * o.k reg + p) = j - p by omega]
        exact hrel _ (by omega)
      · rw [if_neg hin, if_neg (by omega)]
        exact h2.at_.rel r' j hr hj
    · rw [if_neg he]
      have hne : ¬ (s + r * o.k reg + p ≤ s + (r' * o.k reg + j) ∧ s + (r' * o.k reg + j) < s + r * o.k reg + p + ds.length) := by
        rcases Nat.lt_or_gt_of_ne he with hlt | hgt
        · have h1 : (r' + 1) * o.k reg ≤ r * o.k reg := Nat.mul_le_mul_right _ hlt
          rw [Nat.succ_mul] at h1
          omega
        · have h1 : (r + 1) * o.k reg ≤ r' * o.k reg := Nat.mul_le_mul_right _ hgt
          rw [Nat.succ_mul] at h1
          omega
      rw [if_neg hne]
      exact h2.at_.rel r' j hr' hj

theorem free_wrC {C : Array Value} {fz : Nat × Nat} (hf : free C fz) (o : Nat) (vs : List Value) : free (wrC C o vs) fz := by unfold free at *; rw [wrC_size]; exact hf

theorem storeG_ok {t : TypeId} {x y : Option (V reg.T)} {cx cy : Value} {Q : V reg.T × Hp reg.T → Prop} (hH : HR N F φ h w) (hq : (storeG P t x y h).K Q) (hx : ∀ v, x = some v → VRel reg F w φ v cx) (hy : ∀ v, y = some v → VRel reg F w φ v cy) :
    ∃ w', (Instr.storeAt t cx cy).run P w = .ok () w' ∧ Res N F φ h w Q undef w' := by
  unfold storeG at hq
  split at hq
  · rename_i i r o v
    have hv := hx _ rfl
    have hvy := hy _ rfl
    split at hq
    · rename_i ob hi
      split at hq
      · rename_i ob' hk hl hs hob
        obtain ⟨hb, hq⟩ := Out.K_need.1 hq
        simp only [Bool.and_eq_true] at hb
        have hr : r < ob.len reg := Nat.le_of_ble_eq_true hb.1
        have hz : o + v.cells.length ≤ (ob.row reg r).length := Nat.le_of_ble_eq_true hb.2
        have hl := Nat.eq_of_beq_eq_true hl
        generalize cx = c at hv
        cases hv with
        | ptr i r o b s k z hp =>
          obtain ⟨_, rfl, hnF, hlt, C, ty, fz, h1, h3, h2, hCz⟩ := row_at hH hi hp (by cases ob <;> first | rfl | simp [O.setRow] at hob)
          obtain ⟨hna, hc1, hc2, hone⟩ := one_all hvy hs
          obtain ⟨g1, g2, g3, g4⟩ := setRow_spec hob hr
          have hw := h2.at_.wid r hr
          have hfit : s + r * ob.k reg + o + cy.cells.size ≤ C.size := by
            have h1 : (r + 1) * ob.k reg ≤ ob.len reg * ob.k reg := Nat.mul_le_mul_right _ hr
            rw [Nat.succ_mul] at h1
            have := h2.size
            omega
          have hrun := run_storeVar_cells (P := P) (w := w) (t := t) (b := b) (o := s + r * ob.k reg + o) (v := cy) hk h1 h3 (by omega) hfit hone
          refine ⟨_, hrun, write_ok hH hi hp (by rw [wrC_size]; exact hCz) hq ?_ ?_ ?_ (size_setCells _ _ _) (fun b' hb' => heap_setCells_other hb' _ _ _) (heap_setCells _ _ _ h1) (free_wrC h3 _ _) g1 g2
            (row_written h2 hr g2 g3 g4 (by omega) (by simp; omega) (fun j hj => solid_all hs hj) (fun j hj => by rw [toList_getD]; exact hc2 j hj)) .undef⟩
          · exact (rest_setCells (b := b) cy.cells.toList _ w).1
          · exact (rest_setCells (b := b) cy.cells.toList _ w).2.1
          · exact (rest_setCells (b := b) cy.cells.toList _ w).2.2
      · exact hq.elim
    · exact hq.elim
  · exact hq.elim
end
end Go.W
