/- As WM's row, for a statement of what holds together so many values and letters at most. No conditions. -/
import Derived.Test.YtebdbhekdadhbaaGreatDoorWM
import Derived.Test.YtebdbhekdadhbaaGreatDoorRows
import Derived.ProofKit
import Derived.OpenShut
import Derived.Deep.DeepHandedRow
namespace Go.W
open Go Go.RowKit Go.ChangeShapes Go.WideShapes Go.ChangeAt Go.Proofs.YtebdbhekdadhbaaGreatDoor
section
variable (reg : Reg) (P : Program)
/-- Cells of pure data, of a type, texts of at most so many bytes. -/
def WTU (Bd : Nat) : Nat → TypeId → List (D reg.T) → Prop
  | 0, _, _ => False
  | n + 1, t, vs => (match P.underlying t with
    | some .bool => ∃ b, vs = [.bool b]
    | some (.int k) => ∃ m, vs = [.int k m] ∧ (Lit.int k m).wf = true
    | some .string => ∃ s, vs = [.str s] ∧ s.length ≤ Bd
    | some (.struct fs) => wtFields (WTU Bd n) fs.toList vs
    | some (.slice e) => ∃ xs : List (reg.T e), vs = [.sl e xs] ∧ xs.length ≤ Bd ∧ ∀ x ∈ xs, WTU Bd n e (reg.enc e x)
    | _ => False)
def TypedArgsU (Bd n : Nat) : List TypeId → List (V reg.T) → Prop
  | [], vs => vs = []
  | t :: ts, vs => ∃ ds rest, vs = typV reg P t ds :: rest ∧ WTU reg P Bd n t ds ∧ TypedArgsU Bd n ts rest
end
section
variable {reg : Reg} {P : Program}
theorem wtFields_weakU {D : Type} {R S : TypeId → List D → Prop} (h : ∀ t vs, R t vs → S t vs) : ∀ {fs : List Field} {vs : List D}, wtFields R fs vs → wtFields S fs vs
  | [], _, h' => h'
  | _ :: _, _, ⟨a, b, e, h1, h2⟩ => ⟨a, b, e, h _ _ h1, wtFields_weakU h h2⟩
theorem WTU.weak {Bd : Nat} (hB : Bd ≤ 9223372036854775807) : ∀ {n : Nat} {t : TypeId} {vs : List (D reg.T)}, WTU reg P Bd n t vs → WT reg P n t vs := by
  intro n
  induction n with
  | zero => intro t vs h; exact h.elim
  | succ n ih =>
    intro t vs h
    simp only [WTU] at h
    simp only [WT]
    cases hu : P.underlying t with
    | none => rw [hu] at h; exact h.elim
    | some ty =>
      rw [hu] at h
      cases ty with
      | bool => exact h
      | int k => exact h
      | string => obtain ⟨m, e, h1⟩ := h; exact ⟨m, e, by omega⟩
      | slice e => obtain ⟨m, e, h1, h2⟩ := h; exact ⟨m, e, by omega, fun x hx => ih (h2 x hx)⟩
      | struct fs => exact wtFields_weakU (fun _ _ => ih) h
      | _ => exact h.elim
theorem bulk_one {H : Type} (d : DataW H) : 1 ≤ Rows.uptoBulk d := by
  cases d with
  | lit l => cases l <;> simp [Rows.uptoBulk]
  | _ => simp [Rows.uptoBulk]
theorem bulk_part {H : Type} {d : DataW H} {l : List (DataW H)} (h : d ∈ l) : Rows.uptoBulk d ≤ Rows.uptoBulkAll l := by
  induction l with
  | nil => cases h
  | cons x r ih =>
    simp only [Rows.uptoBulkAll]
    cases List.mem_cons.1 h with
    | inl e => subst e; omega
    | inr e => have := ih e; omega
theorem bulk_len {H : Type} (l : List (DataW H)) : l.length ≤ Rows.uptoBulkAll l := by
  induction l with
  | nil => simp [Rows.uptoBulkAll]
  | cons x r ih => have := bulk_one x; simp only [Rows.uptoBulkAll, List.length_cons]; omega
theorem trod_DU {H : Type} {enc : TypeId × Value → H} {w : World} {F : Nat → Prop} {Bd : Nat} (hB : Bd ≤ 9223372036854775807) (hF : ∀ b, b < w.heap.size → F b) (htot : ∀ n e vs, reg.k e = P.cellsOf e → P.cellsOf e ≠ 0 → WT reg P n e vs → ∃ x, reg.enc e x = vs) :
    ∀ (n fuel : Nat) (t : TypeId) (cs : List Value) (d : DataW H) (ps : List MemPlace), chkT reg P n t = true → DataW.trod enc P w 0 (fun _ => true) true fuel t cs = some (d, ps) → Rows.uptoBulk d ≤ Bd →
      ∃ vs : List (D reg.T), vs.length = cs.length ∧ (∀ j, j < vs.length → DRel reg F w (vs.getD j .nilp) (cs.getD j undef)) ∧ WTU reg P Bd n t vs := by
  intro n
  induction n with
  | zero => intro fuel t cs d ps h; simp [chkT] at h
  | succ n ih =>
    intro fuel t cs d ps hc h hw
    cases fuel with
    | zero => simp [DataW.trod] at h
    | succ fuel =>
      have one : ∀ (x : D reg.T) (v : Value), DRel reg F w x v → ∀ j, j < [x].length → DRel reg F w ([x].getD j .nilp) ([v].getD j undef) := by
        intro x v hx j hj
        have : j = 0 := by simpa using hj
        subst this
        simpa using hx
      simp only [chkT] at hc
      simp only [WTU]
      cases hu : P.underlying t with
      | none => rw [hu] at hc; simp at hc
      | some ty =>
        rw [hu] at hc
        cases ty with
        | bool =>
          rcases cs with _ | ⟨c, _ | ⟨c', rest⟩⟩
          · simp [DataW.trod, hu] at h
          · cases c <;> simp [DataW.trod, hu] at h
            rename_i b
            exact ⟨[.bool b], rfl, one _ _ (.bool b), b, rfl⟩
          · simp [DataW.trod, hu] at h
        | int k =>
          rcases cs with _ | ⟨c, _ | ⟨c', rest⟩⟩
          · simp [DataW.trod, hu] at h
          · cases c <;> simp [DataW.trod, hu] at h
            rename_i k' m
            obtain ⟨⟨rfl, hwf⟩, _⟩ := h
            exact ⟨[.int k' m], rfl, one _ _ (.int k' m), m, rfl, hwf⟩
          · simp [DataW.trod, hu] at h
        | string =>
          unfold DataW.trod at h
          rw [hu] at h
          rcases cs with _ | ⟨c, _ | ⟨c', rest⟩⟩
          · cases h
          · cases c with
            | string b =>
              replace h : (if b.size ≤ maxLen then some (DataW.lit (.string b.data.toList), []) else none) = some (d, ps) := h
              split at h
              · rename_i hb
                have hd := (Prod.mk.inj (Option.some.inj h)).1
                subst hd
                refine ⟨[.str b.data.toList], rfl, one _ _ (by have := DRel.str (reg := reg) (F := F) (w := w) b.data.toList; rw [Array.toArray_toList] at this; exact this), _, rfl, ?_⟩
                simp only [Rows.uptoBulk] at hw; omega
              · cases h
            | _ => cases h
          · simp at h
        | struct fs =>
          simp only [Bool.and_eq_true] at hc
          obtain ⟨hcont, hall⟩ := hc
          have h' : (if cs.length = P.cellsOf t then (fs.toList.mapM fun f => DataW.trod enc P w 0 (fun _ => true) true fuel f.type ((cs.drop f.offset).take (P.cellsOf f.type))).map fun xs => (DataW.agg (xs.map (·.1)), xs.flatMap (·.2)) else none) = some (d, ps) := by
            rw [← h]
            simp only [DataW.trod, hu]
          split at h'
          · rename_i hlen
            cases hm : fs.toList.mapM (fun f => DataW.trod enc P w 0 (fun _ => true) true fuel f.type ((cs.drop f.offset).take (P.cellsOf f.type))) with
            | none => simp [hm] at h'
            | some xs =>
              obtain ⟨_, hget⟩ := mapM_get hm
              rw [hm] at h'
              have hd := (Prod.mk.inj (Option.some.inj h')).1
              subst hd
              have hw : Rows.uptoBulkAll (xs.map (·.1)) + 1 ≤ Bd := by
                simp only [Rows.uptoBulk] at hw
                exact hw
              -- the fields, one behind the other
              have go : ∀ (l : List Field) (off : Nat), contB P off l (P.cellsOf t) = true → l.all (fun f => chkT reg P n f.type) = true →
                  (∀ f ∈ l, ∃ y, DataW.trod enc P w 0 (fun _ => true) true fuel f.type ((cs.drop f.offset).take (P.cellsOf f.type)) = some y ∧ Rows.uptoBulk y.1 ≤ Bd) →
                  ∃ vs : List (D reg.T), vs.length = (cs.drop off).length ∧ (∀ j, j < vs.length → DRel reg F w (vs.getD j .nilp) ((cs.drop off).getD j undef)) ∧ wtFields (WTU reg P Bd n) l vs := by
                intro l
                induction l with
                | nil =>
                  intro off hc _ _
                  simp only [contB] at hc
                  have := Nat.eq_of_beq_eq_true hc
                  subst this
                  refine ⟨[], by simp; omega, fun j hj => by simp at hj, rfl⟩
                | cons f l ihl =>
                  intro off hc ha hf
                  simp only [contB, Bool.and_eq_true] at hc
                  have hoff := Nat.eq_of_beq_eq_true hc.1
                  simp only [List.all_cons, Bool.and_eq_true] at ha
                  obtain ⟨y, hy, hyw⟩ := hf f (by simp)
                  obtain ⟨d', ps'⟩ := y
                  rw [hoff] at hy
                  obtain ⟨va, h1, h2, h3⟩ := ih fuel f.type _ d' ps' ha.1 hy hyw
                  obtain ⟨vb, h4, h5, h6⟩ := ihl (off + P.cellsOf f.type) hc.2 ha.2 (fun f' hf' => hf f' (by simp [hf']))
                  simp only [List.length_take, List.length_drop] at h1 h4
                  have hle := contB_le l _ _ hc.2
                  have e1 : va.length = P.cellsOf f.type := by omega
                  refine ⟨va ++ vb, by simp; omega, fun j hj => ?_, va, vb, rfl, h3, h6⟩
                  rcases Nat.lt_or_ge j va.length with hlt | hge
                  · have g := h2 j hlt
                    have e2 : (va ++ vb).getD j .nilp = va.getD j .nilp := by simp only [List.getD, List.getElem?_append_left hlt]
                    have e3 : ((cs.drop off).take (P.cellsOf f.type)).getD j undef = (cs.drop off).getD j undef := by simp only [List.getD, List.getElem?_take]; rw [if_pos (by omega)]
                    rw [e2, ← e3]
                    exact g
                  · have g := h5 (j - va.length) (by simp at hj; omega)
                    have e2 : (va ++ vb).getD j .nilp = vb.getD (j - va.length) .nilp := by simp only [List.getD, List.getElem?_append_right hge]
                    have e3 : (cs.drop (off + P.cellsOf f.type)).getD (j - va.length) undef = (cs.drop off).getD j undef := by
                      simp only [List.getD, List.getElem?_drop]
                      congr 2
                      omega
                    rw [e2, ← e3]
                    exact g
              obtain ⟨vs, h1, h2, h3⟩ := go fs.toList 0 hcont hall (fun f hf => by
                obtain ⟨i, hi⟩ := List.mem_iff_getElem?.1 hf
                obtain ⟨y, hy0, hy⟩ := hget i f hi
                exact ⟨y, hy, by have := bulk_part (List.mem_of_getElem? (show (xs.map (·.1))[i]? = some y.1 by rw [List.getElem?_map, hy0]; rfl)); omega⟩)
              exact ⟨vs, by simpa using h1, by simpa using h2, h3⟩
          · simp at h'
        | slice e =>
          simp only [Bool.and_eq_true, Bool.not_eq_true'] at hc
          obtain ⟨⟨hce, hk⟩, hk0⟩ := hc
          have hk := Nat.eq_of_beq_eq_true hk
          have hk0 : P.cellsOf e ≠ 0 := fun e' => by rw [e'] at hk0; simp [Nat.beq_refl] at hk0
          rcases cs with _ | ⟨c, _ | ⟨c', rest⟩⟩
          · simp [DataW.trod, hu] at h
          · cases c <;> (try (simp [DataW.trod, hu] at h; done))
            rename_i base len cap
            cases base with
            | none =>
              have : len = 0 := by
                cases len with
                | zero => rfl
                | succ n => simp [DataW.trod, hu] at h
              subst this
              exact ⟨[.sl e []], rfl, one _ _ (.emp (.sl e []) rfl rfl none cap), [], rfl, by simp, fun x hx => by simp at hx⟩
            | some a =>
              simp only [DataW.trod, hu] at h
              split at h
              · rename_i hb
                obtain ⟨_, hlc, hcm⟩ := hb
                cases hm : (List.range len).mapM (fun i => (w.cells? 0 (a.add (i * P.cellsOf e)) (P.cellsOf e)).bind (DataW.trod enc P w 0 (fun _ => true) true fuel e)) with
                | none => rw [hm] at h; simp at h
                | some elems =>
                  obtain ⟨hml, hget⟩ := mapM_get hm
                  rw [hm] at h
                  simp only [Option.bind_some, Option.map_eq_some_iff] at h
                  obtain ⟨rest, _, h⟩ := h
                  have hd := (Prod.mk.inj h).1
                  subst hd
                  have hw : Rows.uptoBulkAll (elems.map (·.1)) ≤ Bd := by
                    simp only [Rows.uptoBulk] at hw; omega
                  unfold maxLen at hcm
                  -- each row, and what it says
                  have hrow : ∀ i, i < len → ∃ x : reg.T e, ∃ row : List Value, row.length = P.cellsOf e ∧ (∀ j, j < P.cellsOf e → w.cell? ((a.add (i * P.cellsOf e)).add j) = some (row.getD j undef)) ∧
                      (∀ j, j < (reg.enc e x).length → DRel reg F w ((reg.enc e x).getD j .nilp) (row.getD j undef)) ∧ (reg.enc e x).length = row.length ∧ WTU reg P Bd n e (reg.enc e x) := by
                    intro i hi
                    obtain ⟨y, hy0, hy⟩ := hget i i (by simp [hi])
                    cases hcl : w.cells? 0 (a.add (i * P.cellsOf e)) (P.cellsOf e) with
                    | none => rw [hcl] at hy; simp at hy
                    | some row =>
                      rw [hcl] at hy
                      simp only [Option.bind_some] at hy
                      obtain ⟨g1, g2⟩ := cells_read hcl
                      obtain ⟨d', ps'⟩ := y
                      obtain ⟨vs, h1, h2, h3⟩ := ih fuel e row d' ps' hce hy (by have := bulk_part (List.mem_of_getElem? (show (elems.map (·.1))[i]? = some d' by rw [List.getElem?_map, hy0]; rfl)); omega)
                      obtain ⟨x, rfl⟩ := htot n e vs hk hk0 (WTU.weak hB h3)
                      exact ⟨x, row, g1, g2, h2, h1, h3⟩
                  obtain ⟨xs, hxl, hxs⟩ := list_of len hrow
                  refine ⟨[.sl e xs], rfl, one _ _ ?_, xs, rfl, by have := bulk_len (elems.map (·.1)); simp at this hml; omega, fun x hx => ?_⟩
                  · cases hln : len with
                    | zero =>
                      have : xs = [] := List.length_eq_zero_iff.1 (by omega)
                      subst this
                      exact .emp (.sl e []) rfl rfl _ _
                    | succ m =>
                      -- the block
                      have hcell : ∀ i, i < len → ∀ j, j < P.cellsOf e → ∃ v, w.cell? ((a.add (i * P.cellsOf e)).add j) = some v := by
                        intro i hi j hj
                        obtain ⟨x, row, _, g2, _⟩ := hrow i hi
                        exact ⟨_, g2 j hj⟩
                      obtain ⟨v0, hv0⟩ := hcell 0 (by omega) 0 (by omega)
                      have ha0 : (a.add (0 * P.cellsOf e)).add 0 = a := by simp [Addr.add]
                      rw [ha0] at hv0
                      obtain ⟨blk, off, spot⟩ := a
                      unfold World.cell? at hv0
                      split at hv0
                      · rename_i C ty fz hblk
                        simp only at hblk hv0
                        cases spot with
                        | some _ => simp at hv0
                        | none =>
                          have hadd : ∀ i j, ((⟨blk, off, none⟩ : Addr).add (i * P.cellsOf e)).add j = ⟨blk, off + i * P.cellsOf e + j, none⟩ := by intro i j; rw [addr_add, addr_add]
                          have hC : ∀ i, i < len → ∀ j, j < P.cellsOf e → off + i * P.cellsOf e + j < C.size := by
                            intro i hi j hj
                            obtain ⟨v, hv⟩ := hcell i hi j hj
                            rw [hadd, cell_of_heap hblk] at hv
                            exact (Array.getElem?_eq_some_iff.1 hv).1
                          have hlt : blk < w.heap.size := (Array.getElem?_eq_some_iff.1 hblk).1
                          rw [← hln]
                          have hk' : (D.sl (T := reg.T) e xs).k reg 0 = P.cellsOf e := hk
                          have hrow' : ∀ r, r < len → ∃ row : List Value, row.length = P.cellsOf e ∧ (∀ j, j < P.cellsOf e → w.cell? (((⟨blk, off, none⟩ : Addr).add (r * P.cellsOf e)).add j) = some (row.getD j undef)) ∧
                              (∀ j, j < ((D.sl (T := reg.T) e xs).row reg r).length → DRel reg F w (((D.sl (T := reg.T) e xs).row reg r).getD j .nilp) (row.getD j undef)) ∧ ((D.sl (T := reg.T) e xs).row reg r).length = row.length := by
                            intro r hr
                            have hr' : r < xs.length := by omega
                            obtain ⟨row, g1, g2, g3, g4, _⟩ := hxs r xs[r] (List.getElem?_eq_getElem hr')
                            have e1 : (D.sl (T := reg.T) e xs).row reg r = reg.enc e xs[r] := by simp [D.row, List.getD, hr']
                            rw [e1]
                            exact ⟨row, g1, g2, g3, g4⟩
                          refine .sl (.sl e xs) len ⟨blk, off, none⟩ cap C ty fz rfl (by simp [D.len?, hxl]) (hF _ hlt) hblk rfl (by omega) (by omega) ?_ (fun r hr => ?_) (fun r j hr hj => ?_)
                          · rw [hk']
                            have := hC (len - 1) (by omega) (P.cellsOf e - 1) (by omega)
                            have e1 : len * P.cellsOf e = (len - 1) * P.cellsOf e + P.cellsOf e := by
                              rw [hln]
                              simp [Nat.succ_mul]
                            simp only
                            omega
                          · rw [hk']
                            obtain ⟨row, g1, _, _, g4⟩ := hrow' r hr
                            omega
                          · rw [hk'] at hj ⊢
                            obtain ⟨row, g1, g2, g3, g4⟩ := hrow' r hr
                            have g := g2 j hj
                            rw [hadd, cell_of_heap hblk] at g
                            have e2 : C.getD (off + r * P.cellsOf e + j) undef = row.getD j undef := by simp [Array.getD_eq_getD_getElem?, g]
                            simp only
                            rw [e2]
                            exact g3 j (by omega)
                      · simp at hv0
                  · obtain ⟨i, hi⟩ := List.mem_iff_getElem?.1 hx
                    obtain ⟨row, _, _, _, _, g5⟩ := hxs i x hi
                    exact g5
              · simp at h
          · simp [DataW.trod, hu] at h
        | _ => simp at hc
theorem args_relU {H : Type} {enc : TypeId × Value → H} {w : World} {base : Nat} {F : Nat → Prop} {φ : Phi} {Bd : Nat} (hB : Bd ≤ 9223372036854775807) (hF : ∀ b, b < w.heap.size → F b) (htot : ∀ n e vs, reg.k e = P.cellsOf e → P.cellsOf e ≠ 0 → WT reg P n e vs → ∃ x, reg.enc e x = vs) {n : Nat} :
    ∀ {ts : List TypeId} {args : List Value} {ds : List (DataW H)} {ps : List MemPlace}, (∀ t ∈ ts, chkT reg P n t = true) → (∀ (j : Nat) t v, ts[j]? = some t → args[j]? = some v → Value.okWide P w .any base t v) →
      DataW.TrodAll enc P w 0 (fun _ => true) true ts args ds ps → Rows.uptoBulkAll ds ≤ Bd →
      ∃ vs : List (V reg.T), TypedArgsU reg P Bd n ts vs ∧ vs.length = args.length ∧ ∀ j, j < vs.length → VRel reg F w φ (vs.getD j .any) (args.getD j undef) := by
  intro ts
  induction ts with
  | nil =>
    intro args ds ps _ _ h _
    obtain ⟨rfl, _, _⟩ := trodAll_nil h
    exact ⟨[], rfl, rfl, fun j hj => by simp at hj⟩
  | cons t ts ih =>
    intro args ds ps hc hok h hw
    obtain ⟨v, vs', d, ds', p, q, rfl, rfl, rfl, h1, h2⟩ := trodAll_cons h
    obtain ⟨us, g1, g2, g4⟩ := ih (fun t' ht' => hc t' (by simp [ht'])) (fun j t' v' ht hv => hok (j + 1) t' v' (by simpa using ht) (by simpa using hv)) h2 (by simp only [Rows.uptoBulkAll] at hw; omega)
    obtain ⟨fuel, hf⟩ := h1
    obtain ⟨xs, k1, k2, k3⟩ := trod_DU hB hF htot n fuel t _ d p (hc t (by simp)) hf (by simp only [Rows.uptoBulkAll] at hw; omega)
    have hfl := okWide_flat (hc t (by simp)) (hok 0 t v (by simp) (by simp))
    refine ⟨typV reg P t xs :: us, ⟨xs, us, rfl, k3, g1⟩, by simp [g2], fun j hj => ?_⟩
    cases j with
    | zero => exact VRel.of_cells hfl k1 k2
    | succ j => simpa using g4 j (by simpa using hj)


theorem law_row_upto {H : Type} {enc : TypeId × Value → H} {C : Checked} {os : Os} {f : FuncId} {fn : Func} {s : ChangeSpec} {bt : TypeId} {laid : List (String × DataW Unit)} {F : Stop.Interp} (own : ownKnob C.prog.godebug = none) (started : os.Started)
    (hl : laidOutB C.prog = true) (noInit : C.prog.inits.idxOf? f = none) (hfn : C.prog.funcs[f]? = some fn) (hread : ∀ t ∈ fn.params.toList, C.prog.readableRec t = true ∧ t < C.prog.types.size)
    (hres : fn.resultTypes = #[bt]) (hbt : C.prog.underlying bt = some .bool) (hvars : s.vars = [])
    (hs : ∀ ds : List (DataW H), ds.length = fn.params.size → s.fn H (ds ++ []) = { results := [.lit (.bool true)], args := ds })
    (witness : ∃ (w : World) (tape : Tape) (i : Input), w.os = os ∧ (w.forCall tape i).Shaped C.prog ∧ i.vars = [] ∧ Input.okWide C.prog (w.forCall tape i) .any w.heap.size f i ∧
      (Rows.OpenSpec.upto s).preRow enc C.prog fn [] false laid (w.forCall tape i).memory i.args ∧ ({} : Assume).holds C.prog (lone (Frame.enter C.prog f i.args .normal) [] (w.forCall tape i)))
    (n : Nat) (hchk : ∀ t ∈ fn.params.toList, chkT reg C.prog n t = true) (htot : ∀ n e vs, reg.k e = C.prog.cellsOf e → C.prog.cellsOf e ≠ 0 → WT reg C.prog n e vs → ∃ x, reg.enc e x = vs)
    (hTab : ∀ w, laidMetH C.prog laid w → reg.Tab w) (hm : C.prog.follows .mixedOrders = true) (h : ∀ vs, TypedArgsU reg C.prog 1048576 n fn.params.toList vs → ∃ (hd : Hd reg.T) (_ : HdSound C.prog hd) (fuel : Nat) (G : Type) (g : G) (A : _) (L : _) (J : _), awpFun reg C.prog hd fuel A L J g fn vs (fun r => yes r.1)) :
    ReturnsInHanded {} C os f .any ((Rows.OpenSpec.upto s).preRow enc C.prog fn [] false laid) (((Rows.OpenSpec.upto s).at F).post enc C.prog fn false true false false) := by
  refine returnsInHanded_of_row (C := C) (s := Rows.OpenSpec.upto s) own started noInit hfn witness ?_
  intro W base args ds gs before hok hW _ hk _ hL _ _
  have hvars' : (Rows.OpenSpec.upto s).vars = [] := hvars
  have hW' := hW
  obtain ⟨p, q, hA, hV, rfl, hfz, hnd⟩ := hW
  rw [hvars'] at hV
  obtain ⟨rfl, rfl⟩ := trodVars_none hV
  have hb0 : Rows.uptoBulkAll ds ≤ 1048576 := by
    have := hk _ rfl
    simp only [List.append_nil] at this
    exact of_decide_eq_true this
  simp only [List.append_nil] at hW'
  have hlt : ∀ x ∈ p, x.block < W.heap.size := fun x hx => by simpa using hW'.lt x (by simpa using hx)
  have hlen : ∀ (ts : List TypeId) (vs : List Value) (ds : List (DataW H)) (ps : List MemPlace), DataW.TrodAll enc C.prog W 0 (fun _ => true) true ts vs ds ps → ds.length = ts.length := by
    intro ts
    induction ts with
    | nil => intro vs ds ps h; obtain ⟨_, rfl, _⟩ := trodAll_nil h; rfl
    | cons t ts ih => intro vs ds ps h; obtain ⟨_, _, _, _, _, _, _, rfl, _, _, h2⟩ := trodAll_cons h; simp [ih _ _ _ h2]
  have hsp := hs ds (by simpa using hlen _ _ _ _ hA)
  obtain ⟨vs, h1, h2, h4⟩ := args_relU (reg := reg) (P := C.prog) (Bd := 1048576) (by decide) (F := fun b => b < W.heap.size) (φ := fun _ => none) (fun b hb => hb) htot hchk
    (fun j t v ht hv => hok j t v (by simpa using ht) (by simpa using hv)) hA hb0
  obtain ⟨hd, hHd, fuel, G, g, A, L, J, hL'⟩ := h vs h1
  refine (awpFun_sound hm hHd hfn hL' (F := fun b => b < W.heap.size) (w := W) (fun b hb => hb) ⟨W, hTab W hL, fun b hb => ⟨hb, rfl⟩⟩ (cargs := args) ⟨by simpa using h2, fun j hj => by rw [← toList_getD]; exact h4 j hj⟩).mono fun e W' he => ?_
  obtain ⟨v, h', F', φ', cv, hq, rfl, hv, _, _, h5, h6, h7, h8, h9⟩ := he
  have hq : v = .d (.bool true) := yes_eq hq
  subst hq
  have hcv : cv = .bool true := by
    cases hv with
    | d _ _ hd =>
      cases hd with
      | bool => rfl
      | emp _ hx => cases hx
      | sl _ _ _ _ _ _ _ hx => cases hx
  subst hcv
  have hb : Below W.heap.size W W' := ⟨h5, h6, h7, h8, h9⟩
  refine ⟨_, rfl, ds, [], p, [], p, [], hW', ?_, ?_, ?_, ?_, fun h => by cases h⟩
  · show DataW.TrodAll enc C.prog W' _ _ _ _ _ (s.fn H (ds ++ [])).results _
    rw [hsp, hres]
    exact trodAll_mk1 (shut_bool hbt true)
  · show DataW.TrodAll enc C.prog W' _ _ _ _ _ (s.fn H (ds ++ [])).args _
    rw [hsp]
    exact trodAll_stays hl hb hread hA hlt
  · have e1 : ((Rows.OpenSpec.upto s).at F).vars = [] := hvars
    have e2 : ((Rows.OpenSpec.upto s).at F).fn H (ds ++ []) = { results := [.lit (.bool true)], args := ds } := hsp
    rw [e1, e2]
    rfl
  · exact hb.frame _
end
end Go.W
