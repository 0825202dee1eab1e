/- A statement's row out of its function's contract over pure data. No conditions. -/
import Derived.Test.YtaencddffbmdeaaVsT
namespace Go.Vs
open Go Go.RowKit Go.ChangeShapes Go.WideShapes

section
variable (reg : Reg) (P : Program)

/-- Cells of pure data as the value of a parameter. -/
def typV (t : TypeId) (vs : List (D reg.T)) : V reg.T := match isAggT P t with | true => .agg (vs.map .d) | false => .d (vs.getD 0 .nilp)

def TypedArgs (n : Nat) : List TypeId → List (V reg.T) → Prop
  | [], vs => vs = []
  | t :: ts, vs => ∃ ds rest, vs = typV reg P t ds :: rest ∧ WT reg P n t ds ∧ TypedArgs n ts rest

/-- What a cell of pure data is. -/
inductive Sh where
  | b
  | i (k : IntKind)
  | s
  | l (e : TypeId)

/-- The cells of a type, one behind the other. -/
def shOf : Nat → TypeId → List Sh
  | 0, _ => []
  | n + 1, t => (match P.underlying t with
    | some .bool => [.b]
    | some (.int k) => [.i k]
    | some .string => [.s]
    | some (.struct fs) => fs.toList.flatMap fun f => shOf n f.type
    | some (.slice e) => [.l e]
    | _ => [])

def WS : List Sh → List (D reg.T) → Prop
  | [], vs => vs = []
  | .b :: r, vs => ∃ x t, vs = .bool x :: t ∧ WS r t
  | .i k :: r, vs => ∃ x t, vs = .int k x :: t ∧ (Lit.int k x).wf = true ∧ WS r t
  | .s :: r, vs => ∃ x t, vs = .str x :: t ∧ x.length ≤ 9223372036854775807 ∧ WS r t
  | .l e :: r, vs => ∃ (x : List (reg.T e)) (t : List (D reg.T)), vs = .sl e x :: t ∧ x.length ≤ 9223372036854775807 ∧ (∃ n, ∀ y ∈ x, WT reg P n e (reg.enc e y)) ∧ WS r t

variable {reg P}

theorem WS.append : ∀ {a b : List Sh} {vs us : List (D reg.T)}, WS reg P a vs → WS reg P b us → WS reg P (a ++ b) (vs ++ us) := by
  intro a
  induction a with
  | nil => intro b vs us h h'; cases h; exact h'
  | cons x a ih =>
    intro b vs us h h'
    cases x with
    | b => obtain ⟨y, t, rfl, h2⟩ := h; exact ⟨y, t ++ us, rfl, ih h2 h'⟩
    | i k => obtain ⟨y, t, rfl, h1, h2⟩ := h; exact ⟨y, t ++ us, rfl, h1, ih h2 h'⟩
    | s => obtain ⟨y, t, rfl, h1, h2⟩ := h; exact ⟨y, t ++ us, rfl, h1, ih h2 h'⟩
    | l e => obtain ⟨y, t, rfl, h1, h3, h2⟩ := h; exact ⟨y, t ++ us, rfl, h1, h3, ih h2 h'⟩

theorem WT.flat : ∀ {n : Nat} {t : TypeId} {vs : List (D reg.T)}, WT reg P n t vs → WS reg P (shOf P n t) vs := by
  intro n
  induction n with
  | zero => intro t vs h; exact h.elim
  | succ n ih =>
    intro t vs h
    simp only [WT] at h
    simp only [shOf]
    cases hu : P.underlying t with
    | none => rw [hu] at h; exact h.elim
    | some ty =>
      rw [hu] at h
      cases ty with
      | bool => obtain ⟨b, rfl⟩ := h; exact ⟨b, [], rfl, rfl⟩
      | int k => obtain ⟨m, rfl, h1⟩ := h; exact ⟨m, [], rfl, h1, rfl⟩
      | string => obtain ⟨m, rfl, h1⟩ := h; exact ⟨m, [], rfl, h1, rfl⟩
      | slice e => obtain ⟨m, rfl, h1, h2⟩ := h; exact ⟨m, [], rfl, h1, ⟨n, h2⟩, rfl⟩
      | struct fs =>
        simp only at h ⊢
        generalize fs.toList = l at h
        induction l generalizing vs with
        | nil => cases h; exact rfl
        | cons f l ihl =>
          obtain ⟨a, b, rfl, h1, h2⟩ := h
          rw [List.flatMap_cons]
          exact WS.append (ih h1) (ihl h2)
      | _ => exact h.elim

theorem okWide_flat {w : World} {r : Reach} {base : Nat} {n : Nat} {t : TypeId} {v : Value} (hc : chkT reg P n t = true) (h : Value.okWide P w r base t v) :
    (isAggT P t = true ∧ ∃ cs, v = .agg cs) ∨ (isAggT P t = false ∧ v.cells = #[v]) := by
  cases n with
  | zero => simp [chkT] at hc
  | succ n =>
    simp only [chkT] at hc
    cases hu : P.underlying t with
    | none => rw [hu] at hc; simp at hc
    | some ty =>
      rw [hu] at hc
      cases ty with
      | struct fs =>
        obtain ⟨cs, h1, _⟩ := okWide_struct hu h
        exact .inl ⟨by simp [isAggT, hu], cs, h1⟩
      | bool =>
        refine .inr ⟨by simp [isAggT, hu], ?_⟩
        simp only [Value.okWide, hu, Cell.okWide] at h
        cases v <;> simp_all [Cell.ok, Value.cells]
      | int k =>
        refine .inr ⟨by simp [isAggT, hu], ?_⟩
        simp only [Value.okWide, hu, Cell.okWide] at h
        cases v <;> simp_all [Cell.ok, Value.cells]
      | string =>
        refine .inr ⟨by simp [isAggT, hu], ?_⟩
        simp only [Value.okWide, hu, Cell.okWide] at h
        cases v <;> simp_all [Cell.ok, Value.cells]
      | slice e =>
        refine .inr ⟨by simp [isAggT, hu], ?_⟩
        simp only [Value.okWide, hu, Cell.okWide] at h
        cases v <;> simp_all [Cell.ok, Value.cells]
      | _ => simp at hc

theorem VRel.of_cells {F : Nat → Prop} {w : World} {φ : Phi} {t : TypeId} {v : Value} {vs : List (D reg.T)} (hf : (isAggT P t = true ∧ ∃ cs, v = .agg cs) ∨ (isAggT P t = false ∧ v.cells = #[v]))
    (hl : vs.length = v.cells.toList.length) (h : ∀ j, j < vs.length → DRel reg F w (vs.getD j .nilp) (v.cells.toList.getD j Go.undef)) : VRel reg F w φ (typV reg P t vs) v := by
  rcases hf with ⟨ha, cs, rfl⟩ | ⟨ha, hv⟩
  · simp only [typV, ha]
    simp only [Value.cells] at hl h
    refine .agg _ cs (by simpa using hl) (fun j hj => ?_)
    have hj' : j < vs.length := by simpa using hj
    have e : (vs.map V.d).getD j .any = .d (vs.getD j .nilp) := by simp [List.getD, List.getElem?_map, List.getElem?_eq_getElem hj']
    rw [e, ← toList_getD]
    exact .d _ _ (h j hj')
  · simp only [typV, ha]
    rw [hv] at hl h
    exact .d _ _ (by simpa using h 0 (by simp at hl; omega))

theorem args_rel {H : Type} {enc : TypeId × Value → H} {w : World} {base : Nat} {F : Nat → Prop} {φ : Phi} (hF : ∀ b, b < w.heap.size → F b) (htot : ∀ n e vs, reg.k e = P.cellsOf e → P.cellsOf e ≠ 0 → WT reg P n e vs → ∃ x, reg.enc e x = vs) {n : Nat} :
    ∀ {ts : List TypeId} {args : List Value} {ds : List (DataW H)} {ps : List MemPlace}, (∀ t ∈ ts, chkT reg P n t = true) → (∀ (j : Nat) t v, ts[j]? = some t → args[j]? = some v → Value.okWide P w .any base t v) →
      DataW.TrodAll enc P w 0 (fun _ => true) true ts args ds ps →
      ∃ vs : List (V reg.T), TypedArgs reg P n ts vs ∧ vs.length = args.length ∧ V.pure.goL vs = true ∧ ∀ j, j < vs.length → VRel reg F w φ (vs.getD j .any) (args.getD j undef) := by
  intro ts
  induction ts with
  | nil =>
    intro args ds ps _ _ h
    obtain ⟨rfl, _, _⟩ := trodAll_nil h
    exact ⟨[], rfl, rfl, rfl, fun j hj => by simp at hj⟩
  | cons t ts ih =>
    intro args ds ps hc hok h
    obtain ⟨v, vs', d, ds', p, q, rfl, rfl, rfl, h1, h2⟩ := trodAll_cons h
    obtain ⟨us, g1, g2, g3, g4⟩ := ih (fun t' ht' => hc t' (by simp [ht'])) (fun j t' v' ht hv => hok (j + 1) t' v' (by simpa using ht) (by simpa using hv)) h2
    obtain ⟨fuel, hf⟩ := h1
    obtain ⟨xs, k1, k2, k3⟩ := trod_D hF htot n fuel t _ d p (hc t (by simp)) hf
    have hfl := okWide_flat (hc t (by simp)) (hok 0 t v (by simp) (by simp))
    have hp : (typV reg P t xs).pure = true := by
      unfold typV
      cases isAggT P t with
      | false => rfl
      | true =>
        simp only [V.pure]
        clear k1 k2 k3
        induction xs with
        | nil => rfl
        | cons x xs ihx => simpa [V.pure.goL, V.pure] using ihx
    refine ⟨typV reg P t xs :: us, ⟨xs, us, rfl, k3, g1⟩, by simp [g2], by simp [V.pure.goL, hp, g3], fun j hj => ?_⟩
    cases j with
    | zero => exact VRel.of_cells hfl k1 k2
    | succ j => simpa using g4 j (by simpa using hj)

theorem law_row {H : Type} {enc : TypeId × Value → H} {C : Checked} {os : Os} {f : FuncId} {fn : Func} {s : ChangeSpec} {bt : TypeId} (own : ownKnob C.prog.godebug = none) (started : os.Started)
    (hl : laidOutB C.prog = true) (noInit : C.prog.inits.idxOf? f = none) (hfn : C.prog.funcs[f]? = some fn) (hread : ∀ t ∈ fn.params.toList, C.prog.readableRec t = true ∧ t < C.prog.types.size)
    (hres : fn.resultTypes = #[bt]) (hbt : C.prog.underlying bt = some .bool) (hvars : s.vars = [])
    (hs : ∀ ds : List (DataW H), ds.length = fn.params.size → s.fn H (ds ++ []) = { results := [.lit (.bool true)], args := ds })
    (witness : ∃ (w : World) (tape : Tape) (i : Input), w.os = os ∧ (w.forCall tape i).Shaped C.prog ∧ i.vars = [] ∧ Input.okWide C.prog (w.forCall tape i) .any w.heap.size f i ∧
      s.pre6 enc C.prog fn [] false (w.forCall tape i).memory i.args ∧ ({} : Assume).holds C.prog (lone (Frame.enter C.prog f i.args .normal) [] (w.forCall tape i)))
    (n : Nat) (hchk : ∀ t ∈ fn.params.toList, chkT reg C.prog n t = true) (htot : ∀ n e vs, reg.k e = C.prog.cellsOf e → C.prog.cellsOf e ≠ 0 → WT reg C.prog n e vs → ∃ x, reg.enc e x = vs)
    {S : PureC reg.T} (hS : CSound reg C.prog f S) (h : ∀ vs, TypedArgs reg C.prog n fn.params.toList vs → ∃ p, S vs = some (p, .d (.bool true)) ∧ p) :
    ReturnsInHanded {} C os f .any (s.pre6 enc C.prog fn [] false) (s.post enc C.prog fn false true false false) := by
  refine law_lifted own started hl noInit hfn hread hres hbt hvars hs witness ?_
  intro W base args ds ps hok _ hA _
  obtain ⟨vs, h1, h2, h3, h4⟩ := args_rel (reg := reg) (P := C.prog) (F := fun b => b < W.heap.size) (φ := fun _ _ => none) (fun b hb => hb) htot hchk
    (fun j t v ht hv => hok j t v (by simpa using ht) (by simpa using hv)) hA
  obtain ⟨p, hp, hp'⟩ := h vs h1
  refine (hS.calls vs p _ hp hp' h3 rfl (fun b => b < W.heap.size) W args (fun b hb => hb) (by simpa using h2) (fun j hj => by rw [← toList_getD]; exact h4 j hj)).mono fun e W' he => ?_
  obtain ⟨cv, F', rfl, hv, hb, _⟩ := he
  refine ⟨?_, hb⟩
  cases hv with
  | d _ _ hd => cases hd; rfl
end
end Go.Vs
