/- A statement's row out of what is left to be shown of its function over pure data. No conditions. -/
import Derived.ProofKit
import Derived.HandedShaped
import Derived.Test.YtmnkbfflpgmkmaaGreatDoorWA
namespace Go.W
open Go Go.RowKit Go.ChangeShapes Go.WideShapes Go.ChangeAt

theorem trodAll_stays {H : Type} {enc : TypeId × Value → H} {P : Program} (hl : laidOutB P = true) {W W' : World} (hb : Below W.heap.size W W') : ∀ {ts : List TypeId} {vs : List Value} {ds : List (DataW H)} {ps : List MemPlace},
    (∀ t ∈ ts, P.readableRec t = true ∧ t < P.types.size) → DataW.TrodAll enc P W 0 (fun _ => true) true ts vs ds ps → (∀ x ∈ ps, x.block < W.heap.size) → DataW.TrodAll enc P W' 0 (fun b => decide (b < W.heap.size)) true ts vs ds ps := by
  intro ts
  induction ts with
  | nil =>
    intro vs ds ps _ h _
    obtain ⟨rfl, rfl, rfl⟩ := trodAll_nil h
    exact trodAll_mk0
  | cons t ts ih =>
    intro vs ds ps hr h hlt
    obtain ⟨v, vs', d, ds', p, q, rfl, rfl, rfl, h1, h2⟩ := trodAll_cons h
    obtain ⟨r1, r2⟩ := hr t (by simp)
    exact ⟨p, q, Below.trod hl r1 r2 h1 hb (fun x hx => hlt x (by simp [hx])), ih (fun t' ht' => hr t' (by simp [ht'])) h2 (fun x hx => hlt x (by simp [hx])), rfl⟩

theorem law_lifted {H : Type} {enc : TypeId × Value → H} {C : Checked} {os : Os} {f : FuncId} {fn : Func} {s : ChangeSpec} {bt : TypeId} (own : ownKnob C.prog.godebug = none) (started : os.Started)
    (hl : laidOutB C.prog = true) (noInit : C.prog.inits.idxOf? f = none) (hfn : C.prog.funcs[f]? = some fn) (hread : ∀ t ∈ fn.params.toList, C.prog.readableRec t = true ∧ t < C.prog.types.size)
    (hres : fn.resultTypes = #[bt]) (hbt : C.prog.underlying bt = some .bool) (hvars : s.vars = [])
    (hs : ∀ ds : List (DataW H), ds.length = fn.params.size → s.fn H (ds ++ []) = { results := [.lit (.bool true)], args := ds })
    (witness : ∃ (w : World) (tape : Tape) (i : Input), w.os = os ∧ (w.forCall tape i).Shaped C.prog ∧ i.vars = [] ∧ Input.okWide C.prog (w.forCall tape i) .any w.heap.size f i ∧
      s.pre6 enc C.prog fn [] false (w.forCall tape i).memory i.args ∧ ({} : Assume).holds C.prog (lone (Frame.enter C.prog f i.args .normal) [] (w.forCall tape i)))
    (walk : ∀ (W : World) (base : Nat) (args : Array Value) (ds : List (DataW H)) (ps : List MemPlace), (∀ (j : Nat) t v, fn.params[j]? = some t → args[j]? = some v → Value.okWide C.prog W .any base t v) →
      (DataW.weightsEach C.prog fn.params.toList ds).all (· ≤ reachBytes) = true → DataW.TrodAll enc C.prog W 0 (fun _ => true) true fn.params.toList args.toList ds ps → (∀ x ∈ ps, x.block < W.heap.size) →
      Calls C.prog f args W fun e W' => e = .returned (.bool true) ∧ Below W.heap.size W W') :
    ReturnsInHanded {} C os f .any (s.pre6 enc C.prog fn [] false) (s.post enc C.prog fn false true false false) := by
  refine returnsInHanded_of_change_shaped (C := C) own started noInit hfn witness ?_
  intro W base args ds gs before hok hW _ hwt _ _
  have hW' := hW
  obtain ⟨p, q, hA, hV, rfl, hfz, hnd⟩ := hW
  rw [hvars] at hV
  obtain ⟨rfl, rfl⟩ := trodVars_none hV
  have hwt' : (DataW.weightsEach C.prog fn.params.toList ds).all (· ≤ reachBytes) = true := by
    have e : s.plain.varTypes C.prog = [] := by simp [DataSpec.varTypes, ChangeSpec.plain, hvars]
    simpa [e] using hwt
  simp only [List.append_nil] at hW'
  have hlt : ∀ x ∈ p, x.block < W.heap.size := fun x hx => by simpa using hW'.lt x (by simpa using hx)
  have hlen : ∀ (ts : List TypeId) (vs : List Value) (ds : List (DataW H)) (ps : List MemPlace), DataW.TrodAll enc C.prog W 0 (fun _ => true) true ts vs ds ps → ds.length = ts.length := by
    intro ts
    induction ts with
    | nil => intro vs ds ps h; obtain ⟨_, rfl, _⟩ := trodAll_nil h; rfl
    | cons t ts ih => intro vs ds ps h; obtain ⟨_, _, _, _, _, _, _, rfl, _, _, h2⟩ := trodAll_cons h; simp [ih _ _ _ h2]
  have hsp := hs ds (by simpa using hlen _ _ _ _ hA)
  refine (walk W base args ds p hok hwt' hA hlt).mono fun e W' ⟨he, hb⟩ => ?_
  subst he
  refine ⟨_, rfl, ds, [], p, [], p, [], hW', ?_, ?_, ?_, ?_, fun h => by cases h⟩
  · rw [hsp, hres]
    exact trodAll_mk1 (shut_bool hbt true)
  · rw [hsp]
    exact trodAll_stays hl hb hread hA hlt
  · rw [hsp, hvars]
    rfl
  · exact hb.frame _

section
variable (reg : Reg) (P : Program)

/-- The fields lie one behind the other, and make up the whole. -/
def contB : Nat → List Field → Nat → Bool
  | off, [], n => Nat.beq off n
  | off, f :: fs, n => Nat.beq f.offset off && contB (off + P.cellsOf f.type) fs n

/-- The type, to its bottom, is one that is read here. -/
def chkT : Nat → TypeId → Bool
  | 0, _ => false
  | n + 1, t => (match P.underlying t with
    | some .bool => true
    | some (.int _) => true
    | some .string => true
    | some (.struct fs) => contB P 0 fs.toList (P.cellsOf t) && fs.toList.all fun f => chkT n f.type
    | some (.slice e) => chkT n e && Nat.beq (reg.k e) (P.cellsOf e) && !Nat.beq (P.cellsOf e) 0
    | _ => false)

def wtFields {D : Type} (R : TypeId → List D → Prop) : List Field → List D → Prop
  | [], vs => vs = []
  | f :: fs, vs => ∃ a b, vs = a ++ b ∧ R f.type a ∧ wtFields R fs b

/-- Cells of pure data, of a type. -/
def WT : Nat → TypeId → List (D reg.T) → Prop
  | 0, _, _ => False
  | n + 1, t, vs => (match P.underlying t with
    | some .bool => ∃ b, vs = [.bool b]
    | some (.int k) => ∃ m, vs = [.int k m] ∧ (Lit.int k m).wf = true
    | some .string => ∃ s, vs = [.str s] ∧ s.length ≤ 9223372036854775807
    | some (.struct fs) => wtFields (WT n) fs.toList vs
    | some (.slice e) => ∃ xs : List (reg.T e), vs = [.sl e xs] ∧ xs.length ≤ 9223372036854775807 ∧ ∀ x ∈ xs, WT n e (reg.enc e x)
    | _ => False)

variable {reg P}

theorem list_of {α : Type} {p : Nat → α → Prop} : ∀ n, (∀ i, i < n → ∃ x, p i x) → ∃ xs : List α, xs.length = n ∧ ∀ (i : Nat) (x : α), xs[i]? = some x → p i x := by
  intro n
  induction n with
  | zero => intro _; exact ⟨[], rfl, fun i x h => by simp at h⟩
  | succ n ih =>
    intro h
    obtain ⟨xs, h1, h2⟩ := ih (fun i hi => h i (by omega))
    obtain ⟨x, hx⟩ := h n (by omega)
    refine ⟨xs ++ [x], by simp [h1], fun i y hy => ?_⟩
    rcases Nat.lt_or_ge i xs.length with hlt | hge
    · rw [List.getElem?_append_left hlt] at hy; exact h2 i y hy
    · rw [List.getElem?_append_right hge] at hy
      have : i = n := by
        rcases Nat.eq_zero_or_pos (i - xs.length) with h | h
        · omega
        · rw [List.getElem?_eq_none (by simp; omega)] at hy; simp at hy
      subst this
      have e : i - xs.length = 0 := by omega
      rw [e] at hy
      simp at hy
      subst hy
      exact hx

theorem cells_read {w : World} {base : Nat} {a : Addr} {n : Nat} {row : List Value} (h : w.cells? base a n = some row) : row.length = n ∧ ∀ j, j < n → w.cell? (a.add j) = some (row.getD j undef) := by
  unfold World.cells? at h
  split at h
  · have hl : ∀ (l : List Nat) (r : List Value), l.mapM (fun i => w.cell? (a.add i)) = some r → r.length = l.length ∧ ∀ j, j < l.length → w.cell? (a.add (l.getD j 0)) = some (r.getD j undef) := by
      intro l
      induction l with
      | nil => intro r h; simp at h; subst h; exact ⟨rfl, fun j hj => by simp at hj⟩
      | cons x l ih =>
        intro r h
        rw [List.mapM_cons] at h
        cases h1 : w.cell? (a.add x) with
        | none => simp [h1] at h
        | some v =>
          cases h2 : l.mapM (fun i => w.cell? (a.add i)) with
          | none => simp [h1, h2] at h
          | some r' =>
            simp [h1, h2] at h
            subst h
            obtain ⟨g1, g2⟩ := ih r' h2
            refine ⟨by simp [g1], fun j hj => ?_⟩
            cases j with
            | zero => simpa using h1
            | succ j => simpa using g2 j (by simpa using hj)
    obtain ⟨g1, g2⟩ := hl _ _ h
    simp only [List.length_range] at g1 g2
    refine ⟨g1, fun j hj => ?_⟩
    have := g2 j hj
    rwa [show (List.range n).getD j 0 = j by simp [List.getD, hj]] at this
  · simp at h

theorem mapM_get {α β : Type} {f : α → Option β} : ∀ {l : List α} {r : List β}, l.mapM f = some r → r.length = l.length ∧ ∀ (i : Nat) x, l[i]? = some x → ∃ y, r[i]? = some y ∧ f x = some y := by
  intro l
  induction l with
  | nil => intro r h; simp at h; subst h; exact ⟨rfl, fun i x hx => by simp at hx⟩
  | cons a l ih =>
    intro r h
    rw [List.mapM_cons] at h
    cases h1 : f a with
    | none => simp [h1] at h
    | some v =>
      cases h2 : l.mapM f with
      | none => simp [h1, h2] at h
      | some r' =>
        simp [h1, h2] at h
        subst h
        obtain ⟨g1, g2⟩ := ih h2
        refine ⟨by simp [g1], fun i x hx => ?_⟩
        cases i with
        | zero => simp at hx; subst hx; exact ⟨v, by simp, h1⟩
        | succ i => simpa using g2 i x (by simpa using hx)

theorem contB_le : ∀ (l : List Field) (off n : Nat), contB P off l n = true → off ≤ n := by
  intro l
  induction l with
  | nil => intro off n h; have := Nat.eq_of_beq_eq_true h; omega
  | cons f l ih =>
    intro off n h
    simp only [contB, Bool.and_eq_true] at h
    have := ih _ _ h.2
    omega

theorem trod_D {H : Type} {enc : TypeId × Value → H} {w : World} {F : Nat → Prop} (hF : ∀ b, b < w.heap.size → F b) (htot : ∀ n e vs, reg.k e = P.cellsOf e → P.cellsOf e ≠ 0 → WT reg P n e vs → ∃ x, reg.enc e x = vs) :
    ∀ (n fuel : Nat) (t : TypeId) (cs : List Value) (d : DataW H) (ps : List MemPlace), chkT reg P n t = true → DataW.trod enc P w 0 (fun _ => true) true fuel t cs = some (d, ps) →
      ∃ vs : List (D reg.T), vs.length = cs.length ∧ (∀ j, j < vs.length → DRel reg F w (vs.getD j .nilp) (cs.getD j undef)) ∧ WT reg P n t vs := by
  intro n
  induction n with
  | zero => intro fuel t cs d ps h; simp [chkT] at h
  | succ n ih =>
    intro fuel t cs d ps hc h
    cases fuel with
    | zero => simp [DataW.trod] at h
    | succ fuel =>
      have one : ∀ (x : D reg.T) (v : Value), DRel reg F w x v → ∀ j, j < [x].length → DRel reg F w ([x].getD j .nilp) ([v].getD j undef) := by
        intro x v hx j hj
        have : j = 0 := by simpa using hj
        subst this
        simpa using hx
      simp only [chkT] at hc
      simp only [WT]
      cases hu : P.underlying t with
      | none => rw [hu] at hc; simp at hc
      | some ty =>
        rw [hu] at hc
        cases ty with
        | bool =>
          rcases cs with _ | ⟨c, _ | ⟨c', rest⟩⟩
          · simp [DataW.trod, hu] at h
          · cases c <;> simp [DataW.trod, hu] at h
            rename_i b
            exact ⟨[.bool b], rfl, one _ _ (.bool b), b, rfl⟩
          · simp [DataW.trod, hu] at h
        | int k =>
          rcases cs with _ | ⟨c, _ | ⟨c', rest⟩⟩
          · simp [DataW.trod, hu] at h
          · cases c <;> simp [DataW.trod, hu] at h
            rename_i k' m
            obtain ⟨⟨rfl, hwf⟩, _⟩ := h
            exact ⟨[.int k' m], rfl, one _ _ (.int k' m), m, rfl, hwf⟩
          · simp [DataW.trod, hu] at h
        | string =>
          unfold DataW.trod at h
          rw [hu] at h
          rcases cs with _ | ⟨c, _ | ⟨c', rest⟩⟩
          · cases h
          · cases c with
            | string b =>
              replace h : (if b.size ≤ maxLen then some (DataW.lit (.string b.data.toList), []) else none) = some (d, ps) := h
              split at h
              · rename_i hb
                refine ⟨[.str b.data.toList], rfl, one _ _ (by have := DRel.str (reg := reg) (F := F) (w := w) b.data.toList; rw [Array.toArray_toList] at this; exact this), _, rfl, ?_⟩
                unfold maxLen at hb
                have e : b.data.toList.length = b.size := by rw [Array.length_toList]; rfl
                rw [e]; exact hb
              · cases h
            | _ => cases h
          · simp at h
        | struct fs =>
          simp only [Bool.and_eq_true] at hc
          obtain ⟨hcont, hall⟩ := hc
          have h' : (if cs.length = P.cellsOf t then (fs.toList.mapM fun f => DataW.trod enc P w 0 (fun _ => true) true fuel f.type ((cs.drop f.offset).take (P.cellsOf f.type))).map fun xs => (DataW.agg (xs.map (·.1)), xs.flatMap (·.2)) else none) = some (d, ps) := by
            rw [← h]
            simp only [DataW.trod, hu]
          split at h'
          · rename_i hlen
            cases hm : fs.toList.mapM (fun f => DataW.trod enc P w 0 (fun _ => true) true fuel f.type ((cs.drop f.offset).take (P.cellsOf f.type))) with
            | none => simp [hm] at h'
            | some xs =>
              obtain ⟨_, hget⟩ := mapM_get hm
              -- the fields, one behind the other
              have go : ∀ (l : List Field) (off : Nat), contB P off l (P.cellsOf t) = true → l.all (fun f => chkT reg P n f.type) = true →
                  (∀ f ∈ l, ∃ y, DataW.trod enc P w 0 (fun _ => true) true fuel f.type ((cs.drop f.offset).take (P.cellsOf f.type)) = some y) →
                  ∃ vs : List (D reg.T), vs.length = (cs.drop off).length ∧ (∀ j, j < vs.length → DRel reg F w (vs.getD j .nilp) ((cs.drop off).getD j undef)) ∧ wtFields (WT reg P n) l vs := by
                intro l
                induction l with
                | nil =>
                  intro off hc _ _
                  simp only [contB] at hc
                  have := Nat.eq_of_beq_eq_true hc
                  subst this
                  refine ⟨[], by simp; omega, fun j hj => by simp at hj, rfl⟩
                | cons f l ihl =>
                  intro off hc ha hf
                  simp only [contB, Bool.and_eq_true] at hc
                  have hoff := Nat.eq_of_beq_eq_true hc.1
                  simp only [List.all_cons, Bool.and_eq_true] at ha
                  obtain ⟨y, hy⟩ := hf f (by simp)
                  obtain ⟨d', ps'⟩ := y
                  rw [hoff] at hy
                  obtain ⟨va, h1, h2, h3⟩ := ih fuel f.type _ d' ps' ha.1 hy
                  obtain ⟨vb, h4, h5, h6⟩ := ihl (off + P.cellsOf f.type) hc.2 ha.2 (fun f' hf' => hf f' (by simp [hf']))
                  simp only [List.length_take, List.length_drop] at h1 h4
                  have hle := contB_le l _ _ hc.2
                  have e1 : va.length = P.cellsOf f.type := by omega
                  refine ⟨va ++ vb, by simp; omega, fun j hj => ?_, va, vb, rfl, h3, h6⟩
                  rcases Nat.lt_or_ge j va.length with hlt | hge
                  · have g := h2 j hlt
                    have e2 : (va ++ vb).getD j .nilp = va.getD j .nilp := by simp only [List.getD, List.getElem?_append_left hlt]
                    have e3 : ((cs.drop off).take (P.cellsOf f.type)).getD j undef = (cs.drop off).getD j undef := by simp only [List.getD, List.getElem?_take]; rw [if_pos (by omega)]
                    rw [e2, ← e3]
                    exact g
                  · have g := h5 (j - va.length) (by simp at hj; omega)
                    have e2 : (va ++ vb).getD j .nilp = vb.getD (j - va.length) .nilp := by simp only [List.getD, List.getElem?_append_right hge]
                    have e3 : (cs.drop (off + P.cellsOf f.type)).getD (j - va.length) undef = (cs.drop off).getD j undef := by
                      simp only [List.getD, List.getElem?_drop]
                      congr 2
                      omega
                    rw [e2, ← e3]
                    exact g
              obtain ⟨vs, h1, h2, h3⟩ := go fs.toList 0 hcont hall (fun f hf => by
                obtain ⟨i, hi⟩ := List.mem_iff_getElem?.1 hf
                obtain ⟨y, _, hy⟩ := hget i f hi
                exact ⟨y, hy⟩)
              exact ⟨vs, by simpa using h1, by simpa using h2, h3⟩
          · simp at h'
        | slice e =>
          simp only [Bool.and_eq_true, Bool.not_eq_true'] at hc
          obtain ⟨⟨hce, hk⟩, hk0⟩ := hc
          have hk := Nat.eq_of_beq_eq_true hk
          have hk0 : P.cellsOf e ≠ 0 := fun e' => by rw [e'] at hk0; simp [Nat.beq_refl] at hk0
          rcases cs with _ | ⟨c, _ | ⟨c', rest⟩⟩
          · simp [DataW.trod, hu] at h
          · cases c <;> (try (simp [DataW.trod, hu] at h; done))
            rename_i base len cap
            cases base with
            | none =>
              have : len = 0 := by
                cases len with
                | zero => rfl
                | succ n => simp [DataW.trod, hu] at h
              subst this
              exact ⟨[.sl e []], rfl, one _ _ (.emp (.sl e []) rfl rfl none cap), [], rfl, by simp, fun x hx => by simp at hx⟩
            | some a =>
              simp only [DataW.trod, hu] at h
              split at h
              · rename_i hb
                obtain ⟨_, hlc, hcm⟩ := hb
                cases hm : (List.range len).mapM (fun i => (w.cells? 0 (a.add (i * P.cellsOf e)) (P.cellsOf e)).bind (DataW.trod enc P w 0 (fun _ => true) true fuel e)) with
                | none => rw [hm] at h; simp at h
                | some elems =>
                  obtain ⟨_, hget⟩ := mapM_get hm
                  unfold maxLen at hcm
                  -- each row, and what it says
                  have hrow : ∀ i, i < len → ∃ x : reg.T e, ∃ row : List Value, row.length = P.cellsOf e ∧ (∀ j, j < P.cellsOf e → w.cell? ((a.add (i * P.cellsOf e)).add j) = some (row.getD j undef)) ∧
                      (∀ j, j < (reg.enc e x).length → DRel reg F w ((reg.enc e x).getD j .nilp) (row.getD j undef)) ∧ (reg.enc e x).length = row.length ∧ WT reg P n e (reg.enc e x) := by
                    intro i hi
                    obtain ⟨y, _, hy⟩ := hget i i (by simp [hi])
                    cases hcl : w.cells? 0 (a.add (i * P.cellsOf e)) (P.cellsOf e) with
                    | none => rw [hcl] at hy; simp at hy
                    | some row =>
                      rw [hcl] at hy
                      simp only [Option.bind_some] at hy
                      obtain ⟨g1, g2⟩ := cells_read hcl
                      obtain ⟨d', ps'⟩ := y
                      obtain ⟨vs, h1, h2, h3⟩ := ih fuel e row d' ps' hce hy
                      obtain ⟨x, rfl⟩ := htot n e vs hk hk0 h3
                      exact ⟨x, row, g1, g2, h2, h1, h3⟩
                  obtain ⟨xs, hxl, hxs⟩ := list_of len hrow
                  refine ⟨[.sl e xs], rfl, one _ _ ?_, xs, rfl, by omega, fun x hx => ?_⟩
                  · cases hln : len with
                    | zero =>
                      have : xs = [] := List.length_eq_zero_iff.1 (by omega)
                      subst this
                      exact .emp (.sl e []) rfl rfl _ _
                    | succ m =>
                      -- the block
                      have hcell : ∀ i, i < len → ∀ j, j < P.cellsOf e → ∃ v, w.cell? ((a.add (i * P.cellsOf e)).add j) = some v := by
                        intro i hi j hj
                        obtain ⟨x, row, _, g2, _⟩ := hrow i hi
                        exact ⟨_, g2 j hj⟩
                      obtain ⟨v0, hv0⟩ := hcell 0 (by omega) 0 (by omega)
                      have ha0 : (a.add (0 * P.cellsOf e)).add 0 = a := by simp [Addr.add]
                      rw [ha0] at hv0
                      obtain ⟨blk, off, spot⟩ := a
                      unfold World.cell? at hv0
                      split at hv0
                      · rename_i C ty fz hblk
                        simp only at hblk hv0
                        cases spot with
                        | some _ => simp at hv0
                        | none =>
                          have hadd : ∀ i j, ((⟨blk, off, none⟩ : Addr).add (i * P.cellsOf e)).add j = ⟨blk, off + i * P.cellsOf e + j, none⟩ := by intro i j; rw [addr_add, addr_add]
                          have hC : ∀ i, i < len → ∀ j, j < P.cellsOf e → off + i * P.cellsOf e + j < C.size := by
                            intro i hi j hj
                            obtain ⟨v, hv⟩ := hcell i hi j hj
                            rw [hadd, cell_of_heap hblk] at hv
                            exact (Array.getElem?_eq_some_iff.1 hv).1
                          have hlt : blk < w.heap.size := (Array.getElem?_eq_some_iff.1 hblk).1
                          rw [← hln]
                          have hk' : (D.sl (T := reg.T) e xs).k reg 0 = P.cellsOf e := hk
                          have hrow' : ∀ r, r < len → ∃ row : List Value, row.length = P.cellsOf e ∧ (∀ j, j < P.cellsOf e → w.cell? (((⟨blk, off, none⟩ : Addr).add (r * P.cellsOf e)).add j) = some (row.getD j undef)) ∧
                              (∀ j, j < ((D.sl (T := reg.T) e xs).row reg r).length → DRel reg F w (((D.sl (T := reg.T) e xs).row reg r).getD j .nilp) (row.getD j undef)) ∧ ((D.sl (T := reg.T) e xs).row reg r).length = row.length := by
                            intro r hr
                            have hr' : r < xs.length := by omega
                            obtain ⟨row, g1, g2, g3, g4, _⟩ := hxs r xs[r] (List.getElem?_eq_getElem hr')
                            have e1 : (D.sl (T := reg.T) e xs).row reg r = reg.enc e xs[r] := by simp [D.row, List.getD, hr']
                            rw [e1]
                            exact ⟨row, g1, g2, g3, g4⟩
                          refine .sl (.sl e xs) len ⟨blk, off, none⟩ cap C ty fz rfl (by simp [D.len?, hxl]) (hF _ hlt) hblk rfl (by omega) (by omega) ?_ (fun r hr => ?_) (fun r j hr hj => ?_)
                          · rw [hk']
                            have := hC (len - 1) (by omega) (P.cellsOf e - 1) (by omega)
                            have e1 : len * P.cellsOf e = (len - 1) * P.cellsOf e + P.cellsOf e := by
                              rw [hln]
                              simp [Nat.succ_mul]
                            simp only
                            omega
                          · rw [hk']
                            obtain ⟨row, g1, _, _, g4⟩ := hrow' r hr
                            omega
                          · rw [hk'] at hj ⊢
                            obtain ⟨row, g1, g2, g3, g4⟩ := hrow' r hr
                            have g := g2 j hj
                            rw [hadd, cell_of_heap hblk] at g
                            have e2 : C.getD (off + r * P.cellsOf e + j) undef = row.getD j undef := by simp [Array.getD_eq_getD_getElem?, g]
                            simp only
                            rw [e2]
                            exact g3 j (by omega)
                      · simp at hv0
                  · obtain ⟨i, hi⟩ := List.mem_iff_getElem?.1 hx
                    obtain ⟨row, _, _, _, _, g5⟩ := hxs i x hi
                    exact g5
              · simp at h
          · simp [DataW.trod, hu] at h
        | _ => simp at hc
end

section
variable (reg : Reg) (P : Program)

/-- Cells of pure data as the value of a parameter. -/
def typV (t : TypeId) (vs : List (D reg.T)) : V reg.T := match isAggT P t with | true => .agg (vs.map .d) | false => .d (vs.getD 0 .nilp)

def TypedArgs (n : Nat) : List TypeId → List (V reg.T) → Prop
  | [], vs => vs = []
  | t :: ts, vs => ∃ ds rest, vs = typV reg P t ds :: rest ∧ WT reg P n t ds ∧ TypedArgs n ts rest

/-- What a cell of pure data is. -/
inductive Sh where
  | b
  | i (k : IntKind)
  | s
  | l (e : TypeId)

/-- The cells of a type, one behind the other. -/
def shOf : Nat → TypeId → List Sh
  | 0, _ => []
  | n + 1, t => (match P.underlying t with
    | some .bool => [.b]
    | some (.int k) => [.i k]
    | some .string => [.s]
    | some (.struct fs) => fs.toList.flatMap fun f => shOf n f.type
    | some (.slice e) => [.l e]
    | _ => [])

def WS : List Sh → List (D reg.T) → Prop
  | [], vs => vs = []
  | .b :: r, vs => ∃ x t, vs = .bool x :: t ∧ WS r t
  | .i k :: r, vs => ∃ x t, vs = .int k x :: t ∧ (Lit.int k x).wf = true ∧ WS r t
  | .s :: r, vs => ∃ x t, vs = .str x :: t ∧ x.length ≤ 9223372036854775807 ∧ WS r t
  | .l e :: r, vs => ∃ (x : List (reg.T e)) (t : List (D reg.T)), vs = .sl e x :: t ∧ x.length ≤ 9223372036854775807 ∧ (∃ n, ∀ y ∈ x, WT reg P n e (reg.enc e y)) ∧ WS r t

variable {reg P}

theorem WS.append : ∀ {a b : List Sh} {vs us : List (D reg.T)}, WS reg P a vs → WS reg P b us → WS reg P (a ++ b) (vs ++ us) := by
  intro a
  induction a with
  | nil => intro b vs us h h'; cases h; exact h'
  | cons x a ih =>
    intro b vs us h h'
    cases x with
    | b => obtain ⟨y, t, rfl, h2⟩ := h; exact ⟨y, t ++ us, rfl, ih h2 h'⟩
    | i k => obtain ⟨y, t, rfl, h1, h2⟩ := h; exact ⟨y, t ++ us, rfl, h1, ih h2 h'⟩
    | s => obtain ⟨y, t, rfl, h1, h2⟩ := h; exact ⟨y, t ++ us, rfl, h1, ih h2 h'⟩
    | l e => obtain ⟨y, t, rfl, h1, h3, h2⟩ := h; exact ⟨y, t ++ us, rfl, h1, h3, ih h2 h'⟩

theorem WT.flat : ∀ {n : Nat} {t : TypeId} {vs : List (D reg.T)}, WT reg P n t vs → WS reg P (shOf P n t) vs := by
  intro n
  induction n with
  | zero => intro t vs h; exact h.elim
  | succ n ih =>
    intro t vs h
    simp only [WT] at h
    simp only [shOf]
    cases hu : P.underlying t with
    | none => rw [hu] at h; exact h.elim
    | some ty =>
      rw [hu] at h
      cases ty with
      | bool => obtain ⟨b, rfl⟩ := h; exact ⟨b, [], rfl, rfl⟩
      | int k => obtain ⟨m, rfl, h1⟩ := h; exact ⟨m, [], rfl, h1, rfl⟩
      | string => obtain ⟨m, rfl, h1⟩ := h; exact ⟨m, [], rfl, h1, rfl⟩
      | slice e => obtain ⟨m, rfl, h1, h2⟩ := h; exact ⟨m, [], rfl, h1, ⟨n, h2⟩, rfl⟩
      | struct fs =>
        simp only at h ⊢
        generalize fs.toList = l at h
        induction l generalizing vs with
        | nil => cases h; exact rfl
        | cons f l ihl =>
          obtain ⟨a, b, rfl, h1, h2⟩ := h
          rw [List.flatMap_cons]
          exact WS.append (ih h1) (ihl h2)
      | _ => exact h.elim

theorem okWide_flat {w : World} {r : Reach} {base : Nat} {n : Nat} {t : TypeId} {v : Value} (hc : chkT reg P n t = true) (h : Value.okWide P w r base t v) :
    (isAggT P t = true ∧ ∃ cs, v = .agg cs) ∨ (isAggT P t = false ∧ v.cells = #[v]) := by
  cases n with
  | zero => simp [chkT] at hc
  | succ n =>
    simp only [chkT] at hc
    cases hu : P.underlying t with
    | none => rw [hu] at hc; simp at hc
    | some ty =>
      rw [hu] at hc
      cases ty with
      | struct fs =>
        obtain ⟨cs, h1, _⟩ := okWide_struct hu h
        exact .inl ⟨by simp [isAggT, hu], cs, h1⟩
      | bool =>
        refine .inr ⟨by simp [isAggT, hu], ?_⟩
        simp only [Value.okWide, hu, Cell.okWide] at h
        cases v <;> simp_all [Cell.ok, Value.cells]
      | int k =>
        refine .inr ⟨by simp [isAggT, hu], ?_⟩
        simp only [Value.okWide, hu, Cell.okWide] at h
        cases v <;> simp_all [Cell.ok, Value.cells]
      | string =>
        refine .inr ⟨by simp [isAggT, hu], ?_⟩
        simp only [Value.okWide, hu, Cell.okWide] at h
        cases v <;> simp_all [Cell.ok, Value.cells]
      | slice e =>
        refine .inr ⟨by simp [isAggT, hu], ?_⟩
        simp only [Value.okWide, hu, Cell.okWide] at h
        cases v <;> simp_all [Cell.ok, Value.cells]
      | _ => simp at hc

theorem VRel.of_cells {F : Nat → Prop} {w : World} {φ : Phi} {t : TypeId} {v : Value} {vs : List (D reg.T)} (hf : (isAggT P t = true ∧ ∃ cs, v = .agg cs) ∨ (isAggT P t = false ∧ v.cells = #[v]))
    (hl : vs.length = v.cells.toList.length) (h : ∀ j, j < vs.length → DRel reg F w (vs.getD j .nilp) (v.cells.toList.getD j Go.undef)) : VRel reg F w φ (typV reg P t vs) v := by
  rcases hf with ⟨ha, cs, rfl⟩ | ⟨ha, hv⟩
  · simp only [typV, ha]
    simp only [Value.cells] at hl h
    refine .agg _ cs (by simpa using hl) (fun j hj => ?_)
    have hj' : j < vs.length := by simpa using hj
    have e : (vs.map V.d).getD j .any = .d (vs.getD j .nilp) := by simp [List.getD, List.getElem?_map, List.getElem?_eq_getElem hj']
    rw [e, ← toList_getD]
    exact .d _ _ (h j hj')
  · simp only [typV, ha]
    rw [hv] at hl h
    exact .d _ _ (by simpa using h 0 (by simp at hl; omega))

theorem args_rel {H : Type} {enc : TypeId × Value → H} {w : World} {base : Nat} {F : Nat → Prop} {φ : Phi} (hF : ∀ b, b < w.heap.size → F b) (htot : ∀ n e vs, reg.k e = P.cellsOf e → P.cellsOf e ≠ 0 → WT reg P n e vs → ∃ x, reg.enc e x = vs) {n : Nat} :
    ∀ {ts : List TypeId} {args : List Value} {ds : List (DataW H)} {ps : List MemPlace}, (∀ t ∈ ts, chkT reg P n t = true) → (∀ (j : Nat) t v, ts[j]? = some t → args[j]? = some v → Value.okWide P w .any base t v) →
      DataW.TrodAll enc P w 0 (fun _ => true) true ts args ds ps →
      ∃ vs : List (V reg.T), TypedArgs reg P n ts vs ∧ vs.length = args.length ∧ ∀ j, j < vs.length → VRel reg F w φ (vs.getD j .any) (args.getD j undef) := by
  intro ts
  induction ts with
  | nil =>
    intro args ds ps _ _ h
    obtain ⟨rfl, _, _⟩ := trodAll_nil h
    exact ⟨[], rfl, rfl, fun j hj => by simp at hj⟩
  | cons t ts ih =>
    intro args ds ps hc hok h
    obtain ⟨v, vs', d, ds', p, q, rfl, rfl, rfl, h1, h2⟩ := trodAll_cons h
    obtain ⟨us, g1, g2, g4⟩ := ih (fun t' ht' => hc t' (by simp [ht'])) (fun j t' v' ht hv => hok (j + 1) t' v' (by simpa using ht) (by simpa using hv)) h2
    obtain ⟨fuel, hf⟩ := h1
    obtain ⟨xs, k1, k2, k3⟩ := trod_D hF htot n fuel t _ d p (hc t (by simp)) hf
    have hfl := okWide_flat (hc t (by simp)) (hok 0 t v (by simp) (by simp))
    refine ⟨typV reg P t xs :: us, ⟨xs, us, rfl, k3, g1⟩, by simp [g2], fun j hj => ?_⟩
    cases j with
    | zero => exact VRel.of_cells hfl k1 k2
    | succ j => simpa using g4 j (by simpa using hj)

/-- The answer true. -/
def yes {T : Nat → Type} (v : V T) : Prop := match v with
  | .d (.bool b) => b = true
  | _ => False
theorem yes_eq {T : Nat → Type} {v : V T} (h : yes v) : v = .d (.bool true) := by
  unfold yes at h
  split at h
  · rw [h]
  · exact h.elim

theorem law_row {H : Type} {enc : TypeId × Value → H} {C : Checked} {os : Os} {f : FuncId} {fn : Func} {s : ChangeSpec} {bt : TypeId} (own : ownKnob C.prog.godebug = none) (started : os.Started)
    (hl : laidOutB C.prog = true) (noInit : C.prog.inits.idxOf? f = none) (hfn : C.prog.funcs[f]? = some fn) (hread : ∀ t ∈ fn.params.toList, C.prog.readableRec t = true ∧ t < C.prog.types.size)
    (hres : fn.resultTypes = #[bt]) (hbt : C.prog.underlying bt = some .bool) (hvars : s.vars = [])
    (hs : ∀ ds : List (DataW H), ds.length = fn.params.size → s.fn H (ds ++ []) = { results := [.lit (.bool true)], args := ds })
    (witness : ∃ (w : World) (tape : Tape) (i : Input), w.os = os ∧ (w.forCall tape i).Shaped C.prog ∧ i.vars = [] ∧ Input.okWide C.prog (w.forCall tape i) .any w.heap.size f i ∧
      s.pre6 enc C.prog fn [] false (w.forCall tape i).memory i.args ∧ ({} : Assume).holds C.prog (lone (Frame.enter C.prog f i.args .normal) [] (w.forCall tape i)))
    (n : Nat) (hchk : ∀ t ∈ fn.params.toList, chkT reg C.prog n t = true) (htot : ∀ n e vs, reg.k e = C.prog.cellsOf e → C.prog.cellsOf e ≠ 0 → WT reg C.prog n e vs → ∃ x, reg.enc e x = vs)
    (hTab : ∀ w, reg.Tab w) (hm : C.prog.follows .mixedOrders = true) {hd : Hd reg.T} (hHd : HdSound C.prog hd) {fuel : Nat} (h : ∀ vs, TypedArgs reg C.prog n fn.params.toList vs → ∃ (G : Type) (g : G) (A : _) (L : _) (J : _), awpFun reg C.prog hd fuel A L J g fn vs (fun r => yes r.1)) :
    ReturnsInHanded {} C os f .any (s.pre6 enc C.prog fn [] false) (s.post enc C.prog fn false true false false) := by
  refine law_lifted own started hl noInit hfn hread hres hbt hvars hs witness ?_
  intro W base args ds ps hok _ hA _
  obtain ⟨vs, h1, h2, h4⟩ := args_rel (reg := reg) (P := C.prog) (F := fun b => b < W.heap.size) (φ := fun _ => none) (fun b hb => hb) htot hchk
    (fun j t v ht hv => hok j t v (by simpa using ht) (by simpa using hv)) hA
  obtain ⟨G, g, A, L, J, hL⟩ := h vs h1
  refine (awpFun_sound hm hHd hfn hL (F := fun b => b < W.heap.size) (w := W) (fun b hb => hb) ⟨W, hTab W, fun b hb => ⟨hb, rfl⟩⟩ (cargs := args) ⟨by simpa using h2, fun j hj => by rw [← toList_getD]; exact h4 j hj⟩).mono fun e W' he => ?_
  obtain ⟨v, h', F', φ', cv, hq, rfl, hv, _, _, h5, h6, h7, h8, h9⟩ := he
  have hq : v = .d (.bool true) := yes_eq hq
  subst hq
  refine ⟨?_, ⟨h5, h6, h7, h8, h9⟩⟩
  cases hv with
  | d _ _ hd =>
    cases hd with
    | bool => rfl
    | emp _ hx => cases hx
    | sl _ _ _ _ _ _ _ hx => cases hx
end
end Go.W
