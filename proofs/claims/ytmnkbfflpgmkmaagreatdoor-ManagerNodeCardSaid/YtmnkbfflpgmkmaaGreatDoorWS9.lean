/- That literals do to the machine what the evaluator says. No conditions. -/
import Derived.Test.YtmnkbfflpgmkmaaGreatDoorWS8
namespace Go.W
open Go Go.RowKit

section
variable {reg : Reg} {P : Program} {N F : Nat → Prop} {φ : Phi} {h : Hp reg.T} {w : World}

theorem fillV_rel {place : Nat → Option (Nat × Nat)} :
    ∀ (parts : List (Nat × Option (V reg.T))) (cparts : List (Nat × Value)) (vs us : List (V reg.T)) (C : Array Value), fillV place parts vs = some us → parts.map (·.1) = cparts.map (·.1) →
      (∀ (i : Nat) p q v, parts[i]? = some p → cparts[i]? = some q → p.2 = some v → VRel reg F w φ v q.2) → vs.length = C.size → (∀ j, j < vs.length → VRel reg F w φ (vs.getD j .any) (C.getD j undef)) →
      ∃ C', Instr.fill place C cparts = some C' ∧ us.length = C'.size ∧ C'.size = C.size ∧ ∀ j, j < us.length → VRel reg F w φ (us.getD j .any) (C'.getD j undef) := by
  intro parts
  induction parts with
  | nil =>
    intro cparts vs us C h he _ hl hv
    simp only [fillV, Option.some.injEq] at h
    subst h
    cases cparts with
    | nil => exact ⟨C, rfl, hl, rfl, hv⟩
    | cons q r => simp at he
  | cons p parts ih =>
    intro cparts vs us C h he hr hl hv
    obtain ⟨f, ov⟩ := p
    cases cparts with
    | nil => simp at he
    | cons q r =>
      obtain ⟨f', cv⟩ := q
      simp only [List.map_cons, List.cons.injEq] at he
      obtain ⟨rfl, he⟩ := he
      cases ov with
      | none => simp [fillV] at h
      | some v =>
        simp only [fillV] at h
        split at h
        · rename_i off size hfl
          split at h
          · rename_i e1 e2 e3
            have e2 := Nat.eq_of_beq_eq_true e2
            have e3 : off + v.cells.length ≤ vs.length := Nat.le_of_ble_eq_true e3
            have hrel : VRel reg F w φ v cv := hr 0 (f, some v) (f, cv) v (by simp) (by simp) rfl
            obtain ⟨hc1, hc2⟩ := cells_rel hrel e1
            obtain ⟨g1, g2⟩ := getD_setRange_rel (o := off) hl hv hc1 hc2 e3
            obtain ⟨C', k1, k2, k3, k4⟩ := ih r _ us _ h he (fun i p q v' hp hq hv' => hr (i + 1) p q v' (by simpa using hp) (by simpa using hq) hv') g1 g2
            refine ⟨C', ?_, k2, by rw [k3, wrC_size], k4⟩
            simp only [Instr.fill, hfl]
            have hno : ¬ (decide (cv.cells.size ≠ size) || decide (off + cv.cells.size > C.size)) = true := by
              simp only [Bool.or_eq_true, decide_eq_true_eq]
              omega
            rw [if_neg hno]
            have e4 : cv.cells.zipIdx.foldl (fun cs x => cs.setIfInBounds (off + x.2) x.1) C = wrC C off cv.cells.toList := by
              rw [← Array.foldl_toList, Array.toList_zipIdx, foldl_wrC]
              rfl
            exact (congrArg (fun z => Instr.fill place z r) e4).trans k1
          · simp at h
        · simp at h

theorem buildV_rel {t : TypeId} {parts : List (Nat × Option (V reg.T))} {v : V reg.T} (h : buildV P t parts = some v) (cparts : Array (Nat × Value)) (he : parts.map (·.1) = cparts.toList.map (·.1))
    (hr : ∀ (i : Nat) p q v, parts[i]? = some p → cparts.toList[i]? = some q → p.2 = some v → VRel reg F w φ v q.2) : ∃ cv, (Instr.build t cparts).run P w = .ok cv w ∧ VRel reg F w φ v cv := by
  unfold buildV at h
  split at h
  · rename_i fs hu
    split at h
    · rename_i z hall hz
      split at h
      · rename_i vs hvs
        simp only [Option.some.injEq] at h
        subst h
        obtain ⟨i, zv, h1, h2, h3, h4⟩ := zeroT_rel (F := F) (w := w) (φ := φ) hz
        have hm : ∃ places, fs.toList.mapM (fun f => (P.info? f.type).map fun i => (f.offset, i.size)) = some places ∧ places = fs.toList.map fun f => (f.offset, P.cellsOf f.type) := by
          have key : ∀ l : List Field, l.all (fun f => (P.info? f.type).isSome) = true → ∃ places, l.mapM (fun f => (P.info? f.type).map fun i => (f.offset, i.size)) = some places ∧ places = l.map fun f => (f.offset, P.cellsOf f.type) := by
            intro l
            induction l with
            | nil => intro _; exact ⟨[], rfl, rfl⟩
            | cons a l ih =>
              intro hl
              simp only [List.all_cons, Bool.and_eq_true] at hl
              obtain ⟨ps, hps, hps'⟩ := ih hl.2
              obtain ⟨ia, hia⟩ := Option.isSome_iff_exists.1 hl.1
              refine ⟨(a.offset, ia.size) :: ps, by rw [List.mapM_cons, hia, hps]; rfl, ?_⟩
              rw [List.map_cons, hps']
              simp [Program.cellsOf, hia]
          exact key _ hall
        obtain ⟨places, hp, hpl⟩ := hm
        have hpp : (fun i : Nat => (fs[i]?).map fun f : Field => (f.offset, P.cellsOf f.type)) = (fun x : Nat => places.toArray[x]?) := by
          funext x
          rw [hpl]
          simp
        rw [hpp] at hvs
        obtain ⟨C', k1, k2, _, k3⟩ := fillV_rel parts cparts.toList z vs zv.cells hvs he hr h3 (fun j hj => (h4 j hj).1)
        refine ⟨.agg C', run_build w t cparts C' ?_, .agg _ _ k2 k3⟩
        unfold Program.built
        rw [h1, hu]
        simp only [h2, hp]
        exact k1
      · simp at h
    · simp at h
  · rename_i m e hu
    split at h
    · rename_i z hie hz
      split at h
      · rename_i vs hvs
        simp only [Option.some.injEq] at h
        subst h
        obtain ⟨i, zv, h1, h2, h3, h4⟩ := zeroT_rel (F := F) (w := w) (φ := φ) hz
        obtain ⟨ie, hie', hsz, _⟩ := info_of hie
        obtain ⟨C', k1, k2, _, k3⟩ := fillV_rel parts cparts.toList z vs zv.cells hvs he hr h3 (fun j hj => (h4 j hj).1)
        refine ⟨.agg C', run_build w t cparts C' ?_, .agg _ _ k2 k3⟩
        unfold Program.built
        rw [h1, hu]
        simp only [h2, hie', hsz]
        exact k1
      · simp at h
    · simp at h
  · simp at h

theorem chop_spec {α : Type} (k : Nat) : ∀ (n : Nat) (l : List α), l.length = n * k → (chop k n l).length = n ∧ ∀ r, r < n → ∀ d : List α, (chop k n l).getD r d = (l.drop (r * k)).take k
  | 0, l, _ => ⟨rfl, fun r hr => by omega⟩
  | n + 1, l, hl => by
    rw [Nat.succ_mul] at hl
    obtain ⟨h1, h2⟩ := chop_spec k n (l.drop k) (by simp; omega)
    refine ⟨by simp [chop, h1], fun r hr d => ?_⟩
    cases r with
    | zero => simp [chop]
    | succ r =>
      simp only [chop]
      have := h2 r (by omega) d
      rw [List.getD_cons_succ, this, List.drop_drop]
      congr 2
      rw [Nat.succ_mul, Nat.add_comm]

theorem flatten_replicate_get {α : Type} (z : List α) (d : α) : ∀ (n j : Nat), j < n * z.length → ((List.replicate n z).flatten).getD j d = z.getD (j % z.length) d
  | 0, j, hj => by simp at hj
  | n + 1, j, hj => by
    rw [List.replicate_succ, List.flatten_cons, getD_append_if]
    split
    · rename_i hlt; rw [Nat.mod_eq_of_lt hlt]
    · rename_i hge
      rw [Nat.succ_mul] at hj
      rw [flatten_replicate_get z d n _ (by omega)]
      congr 1
      rw [← Nat.mod_eq_sub_mod (by omega)]

theorem buildSliceG_ok {t : TypeId} {len : Nat} {parts : List (Nat × Option (V reg.T))} {Q : V reg.T × Hp reg.T → Prop} (hH : HR N F φ h w) (hfr : ∀ r, Q r → Fresh N h.nx r.2.nx) (hq : (buildSliceG P t len parts h).K Q) (cparts : Array (Nat × Value)) (he : parts.map (·.1) = cparts.toList.map (·.1))
    (hr : ∀ (i : Nat) p q v, parts[i]? = some p → cparts.toList[i]? = some q → p.2 = some v → VRel reg F w φ v q.2) : OpOk P N F φ h w (Instr.buildSlice t len cparts) Q := by
  unfold buildSliceG at hq
  split at hq
  · rename_i e ht
    have ht := sliceT_eq ht
    split at hq
    · rename_i z hz
      split at hq
      · rename_i cs hcs
        split at hq
        · rename_i o ho
          obtain ⟨hb, hq⟩ := Out.K_need.1 hq
          simp only [Bool.and_eq_true] at hb
          obtain ⟨⟨⟨⟨hb1, hb2⟩, hb3⟩, hb4⟩, hb5⟩ := hb
          have hb1 : len * P.cellsOf e ≤ 16777216 := Nat.le_of_ble_eq_true hb1
          have hb2 := Nat.eq_of_beq_eq_true hb2
          have hb4 : 0 < P.cellsOf e := Nat.le_of_ble_eq_true hb4
          obtain ⟨hok, hq⟩ := K_newO hq
          obtain ⟨inf, zv, hinf, hzz, h3, h4⟩ := zeroT_rel (F := F) (w := w) (φ := φ) hz
          have hsz : inf.size = P.cellsOf e := by simp [Program.cellsOf, hinf]
          have hzs : zv.cells.size = P.cellsOf e := by omega
          -- the zero cells
          have hz0 : ((List.replicate len z).flatten).length = len * P.cellsOf e := by simp [hb2]
          have hm0 : (madeCells zv.cells (len * P.cellsOf e)).size = len * P.cellsOf e := size_madeCells _ _
          have hrel0 : ∀ j, j < ((List.replicate len z).flatten).length → VRel reg F w φ (((List.replicate len z).flatten).getD j .any) ((madeCells zv.cells (len * P.cellsOf e)).getD j undef) := by
            intro j hj
            rw [hz0] at hj
            have h6 : j % P.cellsOf e < P.cellsOf e := Nat.mod_lt _ hb4
            rw [flatten_replicate_get z .any len j (by rw [hb2]; exact hj), hb2]
            have e1 : (madeCells zv.cells (len * P.cellsOf e)).getD j undef = zv.cells.getD (j % P.cellsOf e) undef := by
              simp [madeCells, Array.getD, hj, hzs, h6]
            rw [e1]
            exact (h4 _ (by omega)).1
          obtain ⟨C', k1, k2, k3, k4⟩ := fillV_rel parts cparts.toList _ cs (madeCells zv.cells (len * P.cellsOf e)) hcs he hr (by rw [hz0, hm0]) hrel0
          rw [hm0] at k3
          obtain ⟨g1, g2, g3, g4⟩ := mkRows_spec ho
          have hz1 : (Rw.u [] : Rw reg.T).len = 0 := rfl
          have hcl : cs.length = len * P.cellsOf e := by omega
          obtain ⟨c1, c2⟩ := chop_spec (P.cellsOf e) len cs hcl
          have hz2 : (Rw.u (chop (P.cellsOf e) len cs) : Rw reg.T).len = len := c1
          rw [hz1, hz2, Nat.zero_add] at g3
          rw [hz1, hz2, Nat.zero_add] at g4
          have hrow : ∀ r, r < len → o.row reg r = (cs.drop (r * P.cellsOf e)).take (P.cellsOf e) := by
            intro r hr'
            rw [g4 r hr', if_neg (by omega), Nat.sub_zero]
            exact c2 r hr' []
          have hrun : (Instr.buildSlice t len cparts).run P w = .ok (.slice (some ⟨w.heap.size, 0, none⟩) len len) (w.alloc (.cells C' e)) := by
            have hno : ¬ 16777216 < len * P.cellsOf e := by omega
            by_cases hl0 : len * P.cellsOf e = 0
            · have hk1' : Instr.fill (fun i => some (i * P.cellsOf e, P.cellsOf e)) #[] cparts.toList = some C' := by
                have : madeCells zv.cells (len * P.cellsOf e) = #[] := Array.eq_empty_of_size_eq_zero (by rw [size_madeCells]; exact hl0)
                rwa [this] at k1
              simp [Instr.buildSlice, run_underlying ht, sizeOf, typeInfo, hinf, hsz, hl0, hk1', newRow, Array.range_zero']
            · have hk1' : Instr.fill (fun i => some (i * P.cellsOf e, P.cellsOf e)) ((Array.range (len * P.cellsOf e)).map (zv.cells[· % zv.cells.size]!)) cparts.toList = some C' := k1
              simp [Instr.buildSlice, run_underlying ht, sizeOf, typeInfo, zeroValue, hinf, hzz, hsz, hno, hl0, hk1', newRow]
          have hgd : ∀ r j, r < len → j < P.cellsOf e → ((cs.drop (r * P.cellsOf e)).take (P.cellsOf e)).getD j .any = cs.getD (r * P.cellsOf e + j) .any := by
            intro r j _ hj
            simp only [List.getD, List.getElem?_take, List.getElem?_drop, if_pos hj]
          have hlt : ∀ r j, r < len → j < P.cellsOf e → r * P.cellsOf e + j < len * P.cellsOf e := by
            intro r j hr' hj
            have : (r + 1) * P.cellsOf e ≤ len * P.cellsOf e := Nat.mul_le_mul_right _ hr'
            rw [Nat.succ_mul] at this
            omega
          refine ⟨_, _, hrun, alloc_ok hH hq (fresh_new hfr hq) hok rfl rfl rfl (by simp) (fun b hb => ?_) (C := C') (t := e) (fz := (0, 0)) (heap_alloc_new w _) (.inl rfl) g1 (by rw [g3, g2]; omega) (by rw [g3]; have : len * 1 ≤ len * P.cellsOf e := Nat.mul_le_mul_left _ hb4; omega) ?_ ?_⟩
          · show (w.heap.push _)[b]? = _
            rw [Array.getElem?_push, if_neg (by omega)]
          · rw [g3, g2]
            refine ⟨fun r hr' => ?_, fun r j hr' hj => ?_, fun r j hr' hj => ?_⟩
            · rw [hrow r hr', List.length_take, List.length_drop]
              have := hlt r (P.cellsOf e - 1) hr' (by omega)
              omega
            · rw [hrow r hr', hgd r j hr' hj]
              exact solid_all hb5 (by have := hlt r j hr' hj; omega)
            · rw [hrow r hr', hgd r j hr' hj]
              exact k4 _ (by have := hlt r j hr' hj; omega)
          · intro φ' e1 e2
            rw [g2] at e1
            have := VRel.sl (reg := reg) (F := F) (w := w.alloc (.cells C' e)) (φ := φ') h.nx 0 len (.exact len) _ _ _ _ len e1 rfl (Nat.le_refl _) (by have : len * 1 ≤ len * P.cellsOf e := Nat.mul_le_mul_left _ hb4; omega) (by omega)
            simpa using this
        · exact hq.elim
      · exact hq.elim
    · exact hq.elim
  · exact hq.elim
end
end Go.W
