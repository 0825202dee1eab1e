/- Arguments that can be read as data are pure data of their types. No conditions. -/
import Derived.Test.YtaencddffbmdeaaVsL
namespace Go.Vs
open Go Go.RowKit Go.ChangeShapes

section
variable (reg : Reg) (P : Program)

/-- The fields lie one behind the other, and make up the whole. -/
def contB : Nat → List Field → Nat → Bool
  | off, [], n => Nat.beq off n
  | off, f :: fs, n => Nat.beq f.offset off && contB (off + P.cellsOf f.type) fs n

/-- The type, to its bottom, is one that is read here. -/
def chkT : Nat → TypeId → Bool
  | 0, _ => false
  | n + 1, t => (match P.underlying t with
    | some .bool => true
    | some (.int _) => true
    | some .string => true
    | some (.struct fs) => contB P 0 fs.toList (P.cellsOf t) && fs.toList.all fun f => chkT n f.type
    | some (.slice e) => chkT n e && Nat.beq (reg.k e) (P.cellsOf e) && !Nat.beq (P.cellsOf e) 0
    | _ => false)

def wtFields {D : Type} (R : TypeId → List D → Prop) : List Field → List D → Prop
  | [], vs => vs = []
  | f :: fs, vs => ∃ a b, vs = a ++ b ∧ R f.type a ∧ wtFields R fs b

/-- Cells of pure data, of a type. -/
def WT : Nat → TypeId → List (D reg.T) → Prop
  | 0, _, _ => False
  | n + 1, t, vs => (match P.underlying t with
    | some .bool => ∃ b, vs = [.bool b]
    | some (.int k) => ∃ m, vs = [.int k m] ∧ (Lit.int k m).wf = true
    | some .string => ∃ s, vs = [.str s] ∧ s.length ≤ 9223372036854775807
    | some (.struct fs) => wtFields (WT n) fs.toList vs
    | some (.slice e) => ∃ xs : List (reg.T e), vs = [.sl e xs] ∧ xs.length ≤ 9223372036854775807 ∧ ∀ x ∈ xs, WT n e (reg.enc e x)
    | _ => False)

variable {reg P}

theorem list_of {α : Type} {p : Nat → α → Prop} : ∀ n, (∀ i, i < n → ∃ x, p i x) → ∃ xs : List α, xs.length = n ∧ ∀ (i : Nat) (x : α), xs[i]? = some x → p i x := by
  intro n
  induction n with
  | zero => intro _; exact ⟨[], rfl, fun i x h => by simp at h⟩
  | succ n ih =>
    intro h
    obtain ⟨xs, h1, h2⟩ := ih (fun i hi => h i (by omega))
    obtain ⟨x, hx⟩ := h n (by omega)
    refine ⟨xs ++ [x], by simp [h1], fun i y hy => ?_⟩
    rcases Nat.lt_or_ge i xs.length with hlt | hge
    · rw [List.getElem?_append_left hlt] at hy; exact h2 i y hy
    · rw [List.getElem?_append_right hge] at hy
      have : i = n := by
        rcases Nat.eq_zero_or_pos (i - xs.length) with h | h
        · omega
        · rw [List.getElem?_eq_none (by simp; omega)] at hy; simp at hy
      subst this
      have e : i - xs.length = 0 := by omega
      rw [e] at hy
      simp at hy
      subst hy
      exact hx

theorem cells_read {w : World} {base : Nat} {a : Addr} {n : Nat} {row : List Value} (h : w.cells? base a n = some row) : row.length = n ∧ ∀ j, j < n → w.cell? (a.add j) = some (row.getD j undef) := by
  unfold World.cells? at h
  split at h
  · have hl : ∀ (l : List Nat) (r : List Value), l.mapM (fun i => w.cell? (a.add i)) = some r → r.length = l.length ∧ ∀ j, j < l.length → w.cell? (a.add (l.getD j 0)) = some (r.getD j undef) := by
      intro l
      induction l with
      | nil => intro r h; simp at h; subst h; exact ⟨rfl, fun j hj => by simp at hj⟩
      | cons x l ih =>
        intro r h
        rw [List.mapM_cons] at h
        cases h1 : w.cell? (a.add x) with
        | none => simp [h1] at h
        | some v =>
          cases h2 : l.mapM (fun i => w.cell? (a.add i)) with
          | none => simp [h1, h2] at h
          | some r' =>
            simp [h1, h2] at h
            subst h
            obtain ⟨g1, g2⟩ := ih r' h2
            refine ⟨by simp [g1], fun j hj => ?_⟩
            cases j with
            | zero => simpa using h1
            | succ j => simpa using g2 j (by simpa using hj)
    obtain ⟨g1, g2⟩ := hl _ _ h
    simp only [List.length_range] at g1 g2
    refine ⟨g1, fun j hj => ?_⟩
    have := g2 j hj
    rwa [show (List.range n).getD j 0 = j by simp [List.getD, hj]] at this
  · simp at h

theorem mapM_get {α β : Type} {f : α → Option β} : ∀ {l : List α} {r : List β}, l.mapM f = some r → r.length = l.length ∧ ∀ (i : Nat) x, l[i]? = some x → ∃ y, r[i]? = some y ∧ f x = some y := by
  intro l
  induction l with
  | nil => intro r h; simp at h; subst h; exact ⟨rfl, fun i x hx => by simp at hx⟩
  | cons a l ih =>
    intro r h
    rw [List.mapM_cons] at h
    cases h1 : f a with
    | none => simp [h1] at h
    | some v =>
      cases h2 : l.mapM f with
      | none => simp [h1, h2] at h
      | some r' =>
        simp [h1, h2] at h
        subst h
        obtain ⟨g1, g2⟩ := ih h2
        refine ⟨by simp [g1], fun i x hx => ?_⟩
        cases i with
        | zero => simp at hx; subst hx; exact ⟨v, by simp, h1⟩
        | succ i => simpa using g2 i x (by simpa using hx)

theorem contB_le : ∀ (l : List Field) (off n : Nat), contB P off l n = true → off ≤ n := by
  intro l
  induction l with
  | nil => intro off n h; have := Nat.eq_of_beq_eq_true h; omega
  | cons f l ih =>
    intro off n h
    simp only [contB, Bool.and_eq_true] at h
    have := ih _ _ h.2
    omega

theorem trod_D {H : Type} {enc : TypeId × Value → H} {w : World} {F : Nat → Prop} (hF : ∀ b, b < w.heap.size → F b) (htot : ∀ n e vs, reg.k e = P.cellsOf e → P.cellsOf e ≠ 0 → WT reg P n e vs → ∃ x, reg.enc e x = vs) :
    ∀ (n fuel : Nat) (t : TypeId) (cs : List Value) (d : DataW H) (ps : List MemPlace), chkT reg P n t = true → DataW.trod enc P w 0 (fun _ => true) true fuel t cs = some (d, ps) →
      ∃ vs : List (D reg.T), vs.length = cs.length ∧ (∀ j, j < vs.length → DRel reg F w (vs.getD j .nilp) (cs.getD j undef)) ∧ WT reg P n t vs := by
  intro n
  induction n with
  | zero => intro fuel t cs d ps h; simp [chkT] at h
  | succ n ih =>
    intro fuel t cs d ps hc h
    cases fuel with
    | zero => simp [DataW.trod] at h
    | succ fuel =>
      have one : ∀ (x : D reg.T) (v : Value), DRel reg F w x v → ∀ j, j < [x].length → DRel reg F w ([x].getD j .nilp) ([v].getD j undef) := by
        intro x v hx j hj
        have : j = 0 := by simpa using hj
        subst this
        simpa using hx
      simp only [chkT] at hc
      simp only [WT]
      cases hu : P.underlying t with
      | none => rw [hu] at hc; simp at hc
      | some ty =>
        rw [hu] at hc
        cases ty with
        | bool =>
          rcases cs with _ | ⟨c, _ | ⟨c', rest⟩⟩
          · simp [DataW.trod, hu] at h
          · cases c <;> simp [DataW.trod, hu] at h
            rename_i b
            exact ⟨[.bool b], rfl, one _ _ (.bool b), b, rfl⟩
          · simp [DataW.trod, hu] at h
        | int k =>
          rcases cs with _ | ⟨c, _ | ⟨c', rest⟩⟩
          · simp [DataW.trod, hu] at h
          · cases c <;> simp [DataW.trod, hu] at h
            rename_i k' m
            obtain ⟨⟨rfl, hwf⟩, _⟩ := h
            exact ⟨[.int k' m], rfl, one _ _ (.int k' m), m, rfl, hwf⟩
          · simp [DataW.trod, hu] at h
        | string =>
          unfold DataW.trod at h
          rw [hu] at h
          rcases cs with _ | ⟨c, _ | ⟨c', rest⟩⟩
          · cases h
          · cases c with
            | string b =>
              replace h : (if b.size ≤ maxLen then some (DataW.lit (.string b.data.toList), []) else none) = some (d, ps) := h
              split at h
              · rename_i hb
                refine ⟨[.str b.data.toList], rfl, one _ _ (by have := DRel.str (reg := reg) (F := F) (w := w) b.data.toList; rw [Array.toArray_toList] at this; exact this), _, rfl, ?_⟩
                unfold maxLen at hb
                have e : b.data.toList.length = b.size := by rw [Array.length_toList]; rfl
                rw [e]; exact hb
              · cases h
            | _ => cases h
          · simp at h
        | struct fs =>
          simp only [Bool.and_eq_true] at hc
          obtain ⟨hcont, hall⟩ := hc
          have h' : (if cs.length = P.cellsOf t then (fs.toList.mapM fun f => DataW.trod enc P w 0 (fun _ => true) true fuel f.type ((cs.drop f.offset).take (P.cellsOf f.type))).map fun xs => (DataW.agg (xs.map (·.1)), xs.flatMap (·.2)) else none) = some (d, ps) := by
            rw [← h]
            simp only [DataW.trod, hu]
          split at h'
          · rename_i hlen
            cases hm : fs.toList.mapM (fun f => DataW.trod enc P w 0 (fun _ => true) true fuel f.type ((cs.drop f.offset).take (P.cellsOf f.type))) with
            | none => simp [hm] at h'
            | some xs =>
              obtain ⟨_, hget⟩ := mapM_get hm
              -- the fields, one behind the other
              have go : ∀ (l : List Field) (off : Nat), contB P off l (P.cellsOf t) = true → l.all (fun f => chkT reg P n f.type) = true →
                  (∀ f ∈ l, ∃ y, DataW.trod enc P w 0 (fun _ => true) true fuel f.type ((cs.drop f.offset).take (P.cellsOf f.type)) = some y) →
                  ∃ vs : List (D reg.T), vs.length = (cs.drop off).length ∧ (∀ j, j < vs.length → DRel reg F w (vs.getD j .nilp) ((cs.drop off).getD j undef)) ∧ wtFields (WT reg P n) l vs := by
                intro l
                induction l with
                | nil =>
                  intro off hc _ _
                  simp only [contB] at hc
                  have := Nat.eq_of_beq_eq_true hc
                  subst this
                  refine ⟨[], by simp; omega, fun j hj => by simp at hj, rfl⟩
                | cons f l ihl =>
                  intro off hc ha hf
                  simp only [contB, Bool.and_eq_true] at hc
                  have hoff := Nat.eq_of_beq_eq_true hc.1
                  simp only [List.all_cons, Bool.and_eq_true] at ha
                  obtain ⟨y, hy⟩ := hf f (by simp)
                  obtain ⟨d', ps'⟩ := y
                  rw [hoff] at hy
                  obtain ⟨va, h1, h2, h3⟩ := ih fuel f.type _ d' ps' ha.1 hy
                  obtain ⟨vb, h4, h5, h6⟩ := ihl (off + P.cellsOf f.type) hc.2 ha.2 (fun f' hf' => hf f' (by simp [hf']))
                  simp only [List.length_take, List.length_drop] at h1 h4
                  have hle := contB_le l _ _ hc.2
                  have e1 : va.length = P.cellsOf f.type := by omega
                  refine ⟨va ++ vb, by simp; omega, fun j hj => ?_, va, vb, rfl, h3, h6⟩
                  rcases Nat.lt_or_ge j va.length with hlt | hge
                  · have g := h2 j hlt
                    have e2 : (va ++ vb).getD j .nilp = va.getD j .nilp := by simp only [List.getD, List.getElem?_append_left hlt]
                    have e3 : ((cs.drop off).take (P.cellsOf f.type)).getD j undef = (cs.drop off).getD j undef := by simp only [List.getD, List.getElem?_take]; rw [if_pos (by omega)]
                    rw [e2, ← e3]
                    exact g
                  · have g := h5 (j - va.length) (by simp at hj; omega)
                    have e2 : (va ++ vb).getD j .nilp = vb.getD (j - va.length) .nilp := by simp only [List.getD, List.getElem?_append_right hge]
                    have e3 : (cs.drop (off + P.cellsOf f.type)).getD (j - va.length) undef = (cs.drop off).getD j undef := by
                      simp only [List.getD, List.getElem?_drop]
                      congr 2
                      omega
                    rw [e2, ← e3]
                    exact g
              obtain ⟨vs, h1, h2, h3⟩ := go fs.toList 0 hcont hall (fun f hf => by
                obtain ⟨i, hi⟩ := List.mem_iff_getElem?.1 hf
                obtain ⟨y, _, hy⟩ := hget i f hi
                exact ⟨y, hy⟩)
              exact ⟨vs, by simpa using h1, by simpa using h2, h3⟩
          · simp at h'
        | slice e =>
          simp only [Bool.and_eq_true, Bool.not_eq_true'] at hc
          obtain ⟨⟨hce, hk⟩, hk0⟩ := hc
          have hk := Nat.eq_of_beq_eq_true hk
          have hk0 : P.cellsOf e ≠ 0 := fun e' => by rw [e'] at hk0; simp [Nat.beq_refl] at hk0
          rcases cs with _ | ⟨c, _ | ⟨c', rest⟩⟩
          · simp [DataW.trod, hu] at h
          · cases c <;> (try (simp [DataW.trod, hu] at h; done))
            rename_i base len cap
            cases base with
            | none =>
              have : len = 0 := by
                cases len with
                | zero => rfl
                | succ n => simp [DataW.trod, hu] at h
              subst this
              exact ⟨[.sl e []], rfl, one _ _ (.none e none cap), [], rfl, by simp, fun x hx => by simp at hx⟩
            | some a =>
              simp only [DataW.trod, hu] at h
              split at h
              · rename_i hb
                obtain ⟨_, hlc, hcm⟩ := hb
                cases hm : (List.range len).mapM (fun i => (w.cells? 0 (a.add (i * P.cellsOf e)) (P.cellsOf e)).bind (DataW.trod enc P w 0 (fun _ => true) true fuel e)) with
                | none => rw [hm] at h; simp at h
                | some elems =>
                  obtain ⟨_, hget⟩ := mapM_get hm
                  unfold maxLen at hcm
                  -- each row, and what it says
                  have hrow : ∀ i, i < len → ∃ x : reg.T e, ∃ row : List Value, row.length = P.cellsOf e ∧ (∀ j, j < P.cellsOf e → w.cell? ((a.add (i * P.cellsOf e)).add j) = some (row.getD j undef)) ∧
                      (∀ j, j < (reg.enc e x).length → DRel reg F w ((reg.enc e x).getD j .nilp) (row.getD j undef)) ∧ (reg.enc e x).length = row.length ∧ WT reg P n e (reg.enc e x) := by
                    intro i hi
                    obtain ⟨y, _, hy⟩ := hget i i (by simp [hi])
                    cases hcl : w.cells? 0 (a.add (i * P.cellsOf e)) (P.cellsOf e) with
                    | none => rw [hcl] at hy; simp at hy
                    | some row =>
                      rw [hcl] at hy
                      simp only [Option.bind_some] at hy
                      obtain ⟨g1, g2⟩ := cells_read hcl
                      obtain ⟨d', ps'⟩ := y
                      obtain ⟨vs, h1, h2, h3⟩ := ih fuel e row d' ps' hce hy
                      obtain ⟨x, rfl⟩ := htot n e vs hk hk0 h3
                      exact ⟨x, row, g1, g2, h2, h1, h3⟩
                  obtain ⟨xs, hxl, hxs⟩ := list_of len hrow
                  refine ⟨[.sl e xs], rfl, one _ _ ?_, xs, rfl, by omega, fun x hx => ?_⟩
                  · cases hln : len with
                    | zero =>
                      have : xs = [] := List.length_eq_zero_iff.1 (by omega)
                      subst this
                      exact .none e _ _
                    | succ m =>
                      -- the block
                      have hcell : ∀ i, i < len → ∀ j, j < P.cellsOf e → ∃ v, w.cell? ((a.add (i * P.cellsOf e)).add j) = some v := by
                        intro i hi j hj
                        obtain ⟨x, row, _, g2, _⟩ := hrow i hi
                        exact ⟨_, g2 j hj⟩
                      obtain ⟨v0, hv0⟩ := hcell 0 (by omega) 0 (by omega)
                      have ha0 : (a.add (0 * P.cellsOf e)).add 0 = a := by simp [Addr.add]
                      rw [ha0] at hv0
                      obtain ⟨blk, off, spot⟩ := a
                      unfold World.cell? at hv0
                      split at hv0
                      · rename_i C ty fz hblk
                        simp only at hblk hv0
                        cases spot with
                        | some _ => simp at hv0
                        | none =>
                          have hadd : ∀ i j, ((⟨blk, off, none⟩ : Addr).add (i * P.cellsOf e)).add j = ⟨blk, off + i * P.cellsOf e + j, none⟩ := by intro i j; rw [addr_add, addr_add]
                          have hC : ∀ i, i < len → ∀ j, j < P.cellsOf e → off + i * P.cellsOf e + j < C.size := by
                            intro i hi j hj
                            obtain ⟨v, hv⟩ := hcell i hi j hj
                            rw [hadd, cell_of_heap hblk] at hv
                            exact (Array.getElem?_eq_some_iff.1 hv).1
                          have hlt : blk < w.heap.size := (Array.getElem?_eq_some_iff.1 hblk).1
                          rw [← hln, ← hxl]
                          refine .sl e xs ⟨blk, off, none⟩ cap C ty fz (hF _ hlt) hblk rfl (by omega) (by omega) ?_ (fun r x j hr hj => ?_)
                          · rw [hk]
                            have := hC (len - 1) (by omega) (P.cellsOf e - 1) (by omega)
                            have e1 : xs.length * P.cellsOf e = (len - 1) * P.cellsOf e + P.cellsOf e := by
                              rw [hxl, hln]
                              simp [Nat.succ_mul]
                            simp only
                            omega
                          · rw [hk] at hj ⊢
                            obtain ⟨row, g1, g2, g3, g4, _⟩ := hxs r x hr
                            have hrl : r < len := by have := (List.getElem?_eq_some_iff.1 hr).1; omega
                            have g := g2 j hj
                            rw [hadd, cell_of_heap hblk] at g
                            have e2 : C.getD (off + r * P.cellsOf e + j) undef = row.getD j undef := by simp [Array.getD_eq_getD_getElem?, g]
                            simp only
                            rw [e2]
                            exact g3 j (by omega)
                      · simp at hv0
                  · obtain ⟨i, hi⟩ := List.mem_iff_getElem?.1 hx
                    obtain ⟨row, _, _, _, _, g5⟩ := hxs i x hi
                    exact g5
              · simp at h
          · simp [DataW.trod, hu] at h
        | _ => simp at hc
end
end Go.Vs
