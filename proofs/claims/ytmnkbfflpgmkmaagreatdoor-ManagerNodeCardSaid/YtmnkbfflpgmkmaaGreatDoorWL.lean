/- That one operation does to the machine what the evaluator says. No conditions. -/
import Derived.Test.YtmnkbfflpgmkmaaGreatDoorWS10
import Derived.ControlIn
import Derived.OrdersIn
namespace Go.W
open Go Go.RowKit

section
variable {reg : Reg} {P : Program}

/-- Values, one by one. -/
def LRel (F : Nat → Prop) (w : World) (φ : Phi) (vs : List (V reg.T)) (cs : Array Value) : Prop := vs.length = cs.size ∧ ∀ j, j < vs.length → VRel reg F w φ (vs.getD j .any) (cs.getD j undef)

theorem LRel.mono {F F' : Nat → Prop} {w w' : World} {φ φ' : Phi} {vs : List (V reg.T)} {cs : Array Value} (h : ∀ b, F b → F' b ∧ w'.heap[b]? = w.heap[b]?) (hφ : ∀ i p, φ i = some p → φ' i = some p) (hl : LRel F w φ vs cs) : LRel F' w' φ' vs cs :=
  ⟨hl.1, fun j hj => (hl.2 j hj).mono reg h hφ⟩

theorem LRel.append {F : Nat → Prop} {w : World} {φ : Phi} {vs us : List (V reg.T)} {cs ds : Array Value} (h1 : LRel F w φ vs cs) (h2 : LRel F w φ us ds) : LRel F w φ (vs ++ us) (cs ++ ds) := by
  refine ⟨by simp [h1.1, h2.1], fun j hj => ?_⟩
  rw [getD_append_if]
  have e : (cs ++ ds).getD j undef = if j < vs.length then cs.getD j undef else ds.getD (j - vs.length) undef := by
    simp only [Array.getD_eq_getD_getElem?]
    split
    · rename_i h; rw [Array.getElem?_append_left (by rw [← h1.1]; exact h)]
    · rename_i h; rw [Array.getElem?_append_right (by rw [← h1.1]; omega), h1.1]
  rw [e]
  split
  · rename_i h; exact h1.2 j h
  · rename_i h; exact h2.2 _ (by simp at hj; omega)

/-- What a call comes to. -/
def CallPost (N F : Nat → Prop) (φ : Phi) (h : Hp reg.T) (w : World) (Q : V reg.T × Hp reg.T → Prop) (e : Ending) (w' : World) : Prop := ∃ cv, e = .returned cv ∧ Res N F φ h w Q cv w'

def There (P : Program) (f : FuncId) : Prop := ∃ fn, P.funcs[f]? = some fn ∧ (fn.name == "runtime.NumGoroutine") = false ∧ fn.body.isNone = false

/-- That calls are carried out so. -/
def HdSound (P : Program) (hd : Hd reg.T) : Prop := ∀ f args h Q, (hd f args h).K Q → There P f ∧ ∀ N F φ w cargs, (∀ r, Q r → Fresh N h.nx r.2.nx) → HR N F φ h w → LRel F w φ args cargs → Calls P f cargs w (CallPost N F φ h w Q)

variable {N F : Nat → Prop} {φ : Phi} {h : Hp reg.T} {w : World}

theorem VRel.fp_inv {row : List (D reg.T)} {o : Nat} {cv : Value} (h : VRel reg F w φ (.fp row o) cv) : ∃ ad : Addr, cv = .pointer (some ad) := by
  cases h with | fp _ _ ad C tt fz hF hb hzz hr => exact ⟨_, rfl⟩
theorem VRel.fn_inv {f : FuncId} {cs fs : List (V reg.T)} {cv : Value} (h : VRel reg F w φ (.fn f cs fs) cv) : ∃ c d, cv = .func (.func f) c d := by
  cases h with | fn => exact ⟨_, _, rfl⟩

theorem wp_skip' {o : Oper} {a : Act} {w w' : World} {K : Act → World → Prop} {Q : Exit → Act → World → Prop} (hr : (execOp a.eval o).run P w = .ok .skip w')
    (h : K (a.put o.dst undef) w') : o.wp P a w K Q := by unfold Oper.wp; rw [hr]; exact h

theorem K_outD {o : Out (D reg.T)} {Q : V reg.T × Hp reg.T → Prop} (hq : (outD o h).K Q) : o.K fun x => Q (.d x, h) := Out.K_bind.1 hq

theorem opok_wp {o : Oper} {a : Act} {s : Sem Value} {Q : V reg.T × Hp reg.T → Prop} {K : Act → World → Prop} {Qx : Exit → Act → World → Prop} (hs : OpOk P N F φ h w s Q) (he : execOp a.eval o = (do pure (.value (← s))))
    (hK : ∀ cv w', Res N F φ h w Q cv w' → K (a.put o.dst cv) w') : o.wp P a w K Qx := by
  obtain ⟨cv, w', hr, hres⟩ := hs
  unfold Oper.wp
  rw [he]
  have : (do pure (Next.value (← s)) : Sem Next).run P w = .ok (.value cv) w' := by rw [Sem.run_bind, hr]; rfl
  rw [this]
  exact hK cv w' hres

theorem dok_op {s : Sem Value} {Q : V reg.T × Hp reg.T → Prop} (hH : HR N F φ h w) (hd : DOk P (fun _ => s) fun x => Q (.d x, h)) : OpOk P N F φ h w s Q := by
  obtain ⟨d, cv, h1, h2, h3⟩ := hd
  exact ⟨cv, w, h3 w, .pure hH h1 (.d _ _ (h2 F w))⟩

theorem builtinG_ok {b : Builtin} {ts : Array TypeId} {vs : List (V reg.T)} {cs : Array Value} {ty : TypeId} {consts : Array Bool} {Q : V reg.T × Hp reg.T → Prop} (hH : HR N F φ h w) (hfr : ∀ r, Q r → Fresh N h.nx r.2.nx) (hq : (builtinG P b ts.toList vs h).K Q) (hl : LRel F w φ vs cs) :
    ∃ s, builtin b ts ty consts cs = (do pure (.value (← s))) ∧ OpOk P N F φ h w s Q := by
  have one : ∀ {v : V reg.T}, vs = [v] → ∃ c, cs = #[c] ∧ VRel reg F w φ v c := by
    rintro v rfl
    have h1 : cs.size = 1 := hl.1.symm
    refine ⟨cs.getD 0 undef, ?_, hl.2 0 (by simp)⟩
    apply Array.ext
    · simpa using h1
    · intro i h2 h3; obtain rfl : i = 0 := by simpa using h3
      simp [h1]
  have two : ∀ {v u : V reg.T}, vs = [v, u] → ∃ c d, cs = #[c, d] ∧ VRel reg F w φ v c ∧ VRel reg F w φ u d := by
    rintro v u rfl
    have h1 : cs.size = 2 := hl.1.symm
    refine ⟨cs.getD 0 undef, cs.getD 1 undef, ?_, hl.2 0 (by simp), hl.2 1 (by simp)⟩
    apply Array.ext
    · simpa using h1
    · intro i h2 h3
      have h4 : i < 2 := by simpa using h3
      match i, h4 with
      | 0, _ => simp [h1]
      | 1, _ => simp [h1]
  have tt : ∀ {l : List TypeId}, ts.toList = l → ts = l.toArray := fun e => by rw [← e]
  unfold builtinG at hq
  split at hq
  · -- len
    rename_i t v hts
    obtain ⟨c, rfl, hv⟩ := one rfl
    have hts := tt hts
    subst hts
    refine ⟨_, rfl, ?_⟩
    split at hq
    · rename_i s
      obtain ⟨ht, hq⟩ := Out.K_ask.1 hq
      have ht := isStrT_eq ht
      rw [hv.str_inv]
      refine ⟨_, w, ?_, .pure hH hq (.d _ _ (.int _ _))⟩
      have hsz : (ByteArray.mk s.toArray).size = s.length := by simp [ByteArray.size]
      simp [Builtin.len_, run_underlying ht, goInt, hsz]
    · split at hq
      · rename_i e x ht hns
        have ht := sliceT_eq ht
        split at hq
        · rename_i n hn
          have hform : ∃ base cap', c = .slice base n cap' := by
            cases hv with | d _ _ hd' =>
            cases hd' <;> (try (simp only [D.len?, reduceCtorEq] at hn; done))
            case nils => simp only [D.len?, Option.some.injEq] at hn; subst hn; exact ⟨none, 0, rfl⟩
            case emp base cap hx1 hx2 => rw [hx2] at hn; cases hn; exact ⟨base, cap, rfl⟩
            case sl n' a cap C t' fz hF hb hs hc hm hx1 hx2 hz hkr hr => rw [hx2] at hn; cases hn; exact ⟨_, cap, rfl⟩
          obtain ⟨base, cap', rfl⟩ := hform
          exact ⟨_, w, by simp [Builtin.len_, run_underlying ht, goInt], .pure hH hq (.d _ _ (.int _ _))⟩
        · exact hq.elim
      · rename_i e i off n cap ht hns
        have ht := sliceT_eq ht
        have hform : ∃ base cap', c = .slice base n cap' := by
          cases hv with
          | sl _ _ _ _ b s k z cap' hp hcr hlc hm hzz => exact ⟨_, cap', rfl⟩
          | slz _ _ _ base hcr => exact ⟨base, 0, rfl⟩
        obtain ⟨base, cap', rfl⟩ := hform
        exact ⟨_, w, by simp [Builtin.len_, run_underlying ht, goInt], .pure hH hq (.d _ _ (.int _ _))⟩
      · rename_i i hns hne
        split at hq
        · rename_i p c0 es hm hget
          obtain ⟨kt, et⟩ := p
          obtain ⟨b, ces, rfl, hp, hb, he⟩ := map_at hH hget hv
          have hl : es.length = ces.size := by simpa using he.length
          rw [hl] at hq
          exact ⟨_, w, by simp [Builtin.len_, run_underlying (mapT_eq hm), MapKept.run_getObj_map hb, goInt, Result.andThen], .pure hH hq (.d _ _ (.int _ _))⟩
        · exact hq.elim
      · exact hq.elim
  · -- append
    rename_i t t2 x y hts
    obtain ⟨c, d, rfl, hx, hy⟩ := two rfl
    have hts := tt hts
    subst hts
    split at hq
    · rename_i hk
      have hk2 : Kind2 P t2 := by
        rw [Bool.or_eq_true] at hk
        rcases hk with hk | hk
        · obtain ⟨e, he⟩ := Option.isSome_iff_exists.1 hk; exact .inl ⟨e, sliceT_eq he⟩
        · exact .inr (isStrT_eq hk)
      exact ⟨_, rfl, appendG_ok hH hfr hk2 hq hx hy⟩
    · exact hq.elim
  · -- copy
    rename_i t t2 x y hts
    obtain ⟨c, d, rfl, hx, hy⟩ := two rfl
    have hts := tt hts
    subst hts
    split at hq
    · rename_i hk
      have hk2 : Kind2 P t2 := by
        rw [Bool.or_eq_true] at hk
        rcases hk with hk | hk
        · obtain ⟨e, he⟩ := Option.isSome_iff_exists.1 hk; exact .inl ⟨e, sliceT_eq he⟩
        · exact .inr (isStrT_eq hk)
      exact ⟨_, rfl, copyG_ok hH hk2 hq hx hy⟩
    · exact hq.elim
  · -- clear
    rename_i t x hts
    obtain ⟨c, rfl, hx⟩ := one rfl
    have hts := tt hts
    subst hts
    exact ⟨_, rfl, clearG_ok hH hq hx⟩
  · rename_i k x k' y
    obtain ⟨c, d, rfl, hx, hy⟩ := two rfl
    rw [hx.int_inv, hy.int_inv]
    obtain ⟨hk, hq⟩ := Out.K_ask.1 hq
    exact ⟨_, rfl, _, w, by simp [Builtin.min_, Builtin.min2], .pure hH hq (.d _ _ (.int _ _))⟩
  · rename_i k x k' y
    obtain ⟨c, d, rfl, hx, hy⟩ := two rfl
    rw [hx.int_inv, hy.int_inv]
    obtain ⟨hk, hq⟩ := Out.K_ask.1 hq
    exact ⟨_, rfl, _, w, by simp [Builtin.max_, Builtin.max2], .pure hH hq (.d _ _ (.int _ _))⟩
  · exact hq.elim

/-- The values of operands. -/
theorem operands_rel {val : Operand → Option (V reg.T)} {ev : Operand → Value} (hv : ∀ x v, val x = some v → VRel reg F w φ v (ev x)) {xs : Array Operand} {vs : List (V reg.T)} (h : allSome (xs.toList.map val) = some vs) : LRel F w φ vs (xs.map ev) := by
  have h1 := allSome_spec h
  have hlen : vs.length = xs.size := by
    have := congrArg List.length h1
    simpa using this.symm
  refine ⟨by simpa using hlen, fun j hj => ?_⟩
  have hj' : j < xs.size := by omega
  have h2 : val xs[j] = some (vs.getD j .any) := by
    have := congrArg (fun l => l[j]?) h1
    simp [hj', hj] at this
    simp [this, List.getD, hj]
  have h3 : (xs.map ev).getD j undef = ev xs[j] := by simp [Array.getD, hj']
  rw [h3]
  exact hv _ _ h2

theorem parts_rel {val : Operand → Option (V reg.T)} {ev : Operand → Value} (hv : ∀ x v, val x = some v → VRel reg F w φ v (ev x)) (parts : Array (Nat × Operand)) :
    (parts.toList.map fun p => (p.1, val p.2)).map (·.1) = (parts.map fun p => (p.1, ev p.2)).toList.map (·.1) ∧
    ∀ (i : Nat) (p : Nat × Option (V reg.T)) (q : Nat × Value) (v : V reg.T), (parts.toList.map fun p => (p.1, val p.2))[i]? = some p → (parts.map fun p => (p.1, ev p.2)).toList[i]? = some q → p.2 = some v → VRel reg F w φ v q.2 := by
  refine ⟨by simp, fun i p q v hp hq hpv => ?_⟩
  simp only [Array.toList_map, List.getElem?_map, Option.map_eq_some_iff] at hp hq
  obtain ⟨x, hx, rfl⟩ := hp
  obtain ⟨y, hy, rfl⟩ := hq
  rw [hx] at hy
  cases hy
  exact hv _ _ hpv

set_option maxHeartbeats 1000000 in
theorem lexec_sound {hd : Hd reg.T} (hHd : HdSound P hd) {o : Oper} {a : Act} {val : Operand → Option (V reg.T)} {Q : V reg.T × Hp reg.T → Prop} (hH : HR N F φ h w) (hfr : ∀ r, Q r → Fresh N h.nx r.2.nx) (hv : ∀ x v, val x = some v → VRel reg F w φ v (a.eval x))
    (hq : (lexec P hd o.op val h).K Q) {K : Act → World → Prop} {Qx : Exit → Act → World → Prop} (hK : ∀ cv w', Res N F φ h w Q cv w' → K (a.put o.dst cv) w') : o.wp P a w K Qx := by
  obtain ⟨dst, op, ty, pos, after, guard⟩ := o
  simp only at hq hK
  have pureV : ∀ {x : Operand} {op'}, op = op' → execOp a.eval ⟨dst, op', ty, pos, after, guard⟩ = pure (.value (a.eval x)) → (oneO (val x) h).K Q → Oper.wp P ⟨dst, op, ty, pos, after, guard⟩ a w K Qx := by
    intro x op' he hex hq
    subst he
    obtain ⟨v, hx, hq⟩ := K_oneO hq
    unfold Oper.wp
    rw [hex]
    exact hK _ _ (.pure hH hq (hv x v hx))
  cases op <;> (try simp only [lexec] at hq) <;> (try exact hq.elim)
  case move x => exact pureV rfl rfl hq
  case assign x => exact pureV rfl rfl hq
  case pick c x y =>
    split at hq
    · rename_i t hc
      have hct := (hv c _ hc).bool_inv
      simp only [Out.K, branch_iff] at hq
      cases t with
      | true => exact pureV (x := x) rfl (by simp [execOp, hct, asBool]) (hq.1 rfl)
      | false => exact pureV (x := y) rfl (by simp [execOp, hct, asBool]) (hq.2 rfl)
    · exact hq.elim
  case box t x =>
    split at hq
    · rename_i v hx
      split at hq
      · rename_i hs hlen
        have hlen := Nat.eq_of_beq_eq_true hlen
        obtain ⟨hok, hq⟩ := K_newO hq
        obtain ⟨_, h1, h2, _⟩ := one_all (hv x v hx) hs
        refine opok_wp (s := Instr.box t (a.eval x)) ⟨.pointer (some ⟨w.heap.size, 0, none⟩), w.alloc (.cells (a.eval x).cells t), by simp [Instr.box, newVar, newRow], alloc_ok hH hq (fresh_new hfr hq) hok rfl rfl rfl (by simp) (fun b hb => ?_) (heap_alloc_new w _) (.inl rfl) rfl ?_ ?_ ?_ ?_⟩ rfl hK
        · show (w.heap.push _)[b]? = _
          rw [Array.getElem?_push, if_neg (by omega)]
        · simp only [O.len, O.k, List.length_singleton, Nat.one_mul]; omega
        · simp [O.len]
        · simp only [O.len, O.k, List.length_singleton]
          refine ⟨fun r hr => by obtain rfl : r = 0 := by omega
                                 rfl, fun r j hr hj => ?_, fun r j hr hj => ?_⟩
          · obtain rfl : r = 0 := by omega
            exact solid_all hs hj
          · obtain rfl : r = 0 := by omega
            rw [Nat.zero_mul, Nat.zero_add]
            exact h2 j hj
        · intro φ' e1 _
          have := VRel.ptr (reg := reg) (F := F) (w := w.alloc (.cells (a.eval x).cells t)) (φ := φ') h.nx 0 0 _ _ _ _ e1
          simpa using this
      · exact hq.elim
    · exact hq.elim
  case alloc t =>
    split at hq
    · rename_i vs hz
      obtain ⟨hok, hq⟩ := K_newO hq
      obtain ⟨i, z, hi, hzz, h1, h2⟩ := zeroT_rel (F := F) (w := w) (φ := φ) hz
      refine opok_wp (s := Instr.alloc t true (.tuple #[])) ⟨.pointer (some ⟨w.heap.size, 0, none⟩), w.alloc (.cells z.cells t), by simp [Instr.alloc, zeroValue, typeInfo, hi, hzz, newVar, newRow], alloc_ok hH hq (fresh_new hfr hq) hok rfl rfl rfl (by simp) (fun b hb => ?_) (heap_alloc_new w _) (.inl rfl) rfl ?_ ?_ ?_ ?_⟩ rfl hK
      · show (w.heap.push _)[b]? = _
        rw [Array.getElem?_push, if_neg (by omega)]
      · simp only [O.len, O.k, List.length_singleton, Nat.one_mul]; omega
      · simp [O.len]
      · simp only [O.len, O.k, List.length_singleton]
        refine ⟨fun r hr => by obtain rfl : r = 0 := by omega
                               rfl, fun r j hr hj => ?_, fun r j hr hj => ?_⟩
        · obtain rfl : r = 0 := by omega
          exact (h2 j hj).2
        · obtain rfl : r = 0 := by omega
          rw [Nat.zero_mul, Nat.zero_add]
          exact (h2 j hj).1
      · intro φ' e1 _
        have := VRel.ptr (reg := reg) (F := F) (w := w.alloc (.cells z.cells t)) (φ := φ') h.nx 0 0 _ _ _ _ e1
        simpa using this
    · exact hq.elim
  case fieldAddr s x f =>
    split at hq
    · rename_i fs hs
      split at hq
      · rename_i fl hf
        split at hq
        · exact hq.elim
        · rename_i hz
          have hinfo : ∃ i, P.info? fl.type = some i ∧ i.size ≠ 0 := by
            cases hi : P.info? fl.type with
            | none => exact absurd (by simp [Program.cellsOf, hi]) hz
            | some i => exact ⟨i, rfl, fun e => hz (by simp [Program.cellsOf, hi, e])⟩
          obtain ⟨i, hi, hi'⟩ := hinfo
          have hrun : ∀ b o', (Instr.fieldAt s (.pointer (some ⟨b, o', none⟩)) f).run P w = .ok (.pointer (some ⟨b, o' + fl.offset, none⟩)) w := by
            intro b o'
            simp [Instr.fieldAt, run_underlying hs, hf, Instr.sureAddr, fieldPlace, sizeOf, typeInfo, hi, hi', addr_add]
          split at hq
          · rename_i i' r o' hx
            obtain ⟨b, s', k, z, hp, he⟩ := (hv x _ hx).ptr_inv
            refine opok_wp (s := Instr.fieldAt s (a.eval x) f) ⟨_, w, by rw [he]; exact hrun _ _, .pure hH hq ?_⟩ rfl hK
            have := VRel.ptr (reg := reg) (F := F) (w := w) (φ := φ) i' r (o' + fl.offset) b s' k z hp
            rwa [show s' + r * k + (o' + fl.offset) = s' + r * k + o' + fl.offset by omega] at this
          · rename_i row o' hx
            have hvx := hv x _ hx
            generalize hax : a.eval x = ax at hvx
            cases hvx with
            | fp _ _ ad Cc tt fz hF hb hzz hr =>
              refine opok_wp (s := Instr.fieldAt s (a.eval x) f) ⟨_, w, by rw [hax]; exact hrun _ _, .pure hH hq ?_⟩ rfl hK
              have := VRel.fp (reg := reg) (F := F) (w := w) (φ := φ) row (o' + fl.offset) ad Cc tt fz hF hb hzz hr
              rwa [show ad.off + (o' + fl.offset) = ad.off + o' + fl.offset by omega] at this
          · exact hq.elim
      · exact hq.elim
    · exact hq.elim
  case load t x => exact opok_wp (loadG_ok hH hq (fun v hx => hv x v hx)) rfl hK
  case store t x y =>
    obtain ⟨w', hr, hres⟩ := storeG_ok hH hq (fun v hx => hv x v hx) (fun v hy => hv y v hy)
    refine wp_skip' (w' := w') ?_ (hK _ _ hres)
    simp [execOp, hr]
  case nilCheck x =>
    split at hq
    · rename_i i r o hx
      obtain ⟨b, s', k, z, hp, he⟩ := (hv x _ hx).ptr_inv
      exact opok_wp (s := pure (a.eval x)) ⟨_, w, rfl, .pure hH hq (hv x _ hx)⟩ (by simp only [execOp, he]; rfl) hK
    · rename_i row o hx
      have hvx := hv x _ hx
      obtain ⟨ad, he⟩ := hvx.fp_inv
      exact opok_wp (s := pure (a.eval x)) ⟨_, w, rfl, .pure hH hq hvx⟩ (by simp only [execOp, he]; rfl) hK
    · rename_i f cs fs hx
      have hvx := hv x _ hx
      obtain ⟨c, d, he⟩ := hvx.fn_inv
      exact opok_wp (s := pure (a.eval x)) ⟨_, w, rfl, .pure hH hq hvx⟩ (by simp only [execOp, he]; rfl) hK
    · exact hq.elim
  case binOp op t x y yt =>
    split at hq
    · rename_i xs ys hx hy
      exact opok_wp (s := do eqGuard op t x y (a.eval x) (a.eval y); binOp op t (a.eval x) (a.eval y)) (eqG_ok hH hq (hv x _ hx) (hv y _ hy) x y) rfl hK
    · rename_i vx vy hne hx hy
      split at hq
      · rename_i hn
        have he : a.eval y = .slice none 0 0 := by
          unfold isNilS at hn
          split at hn
          · rfl
          · cases hn
        exact opok_wp (s := do eqGuard op t x y (a.eval x) (a.eval y); binOp op t (a.eval x) (a.eval y)) (by rw [he]; exact dok_op hH (nilD_ok (K_outD hq) (hv x _ hx) x y)) rfl hK
      · exact opok_wp (s := do eqGuard op t x y (a.eval x) (a.eval y); binOp op t (a.eval x) (a.eval y)) (dok_op hH (binD_ok (K_outD hq) (hv x _ hx) (hv y _ hy) x y rfl)) rfl hK
    · exact hq.elim
  case unOp op t x =>
    split at hq
    · rename_i vx hx
      exact opok_wp (dok_op hH (unD_ok (K_outD hq) (hv x _ hx))) rfl hK
    · exact hq.elim
  case build t parts =>
    obtain ⟨v, hb, hq⟩ := K_oneO hq
    obtain ⟨h1, h2⟩ := parts_rel (F := F) (w := w) (φ := φ) hv parts
    obtain ⟨cv, h3, h4⟩ := buildV_rel hb _ h1 h2
    exact opok_wp ⟨cv, w, h3, .pure hH hq h4⟩ rfl hK
  case buildSlice t len parts =>
    obtain ⟨h1, h2⟩ := parts_rel (F := F) (w := w) (φ := φ) hv parts
    exact opok_wp (buildSliceG_ok hH hfr hq _ h1 h2) rfl hK
  case makeSlice t l c =>
    split at hq
    · rename_i vl vc hl hc
      exact opok_wp (makeSliceG_ok hH hfr hq (hv l _ hl) (hv c _ hc)) rfl hK
    · exact hq.elim
  case slice t x lo hi mx =>
    split at hq
    · rename_i vx hx
      have side : ∀ (y : Option Operand), (y.map val = none ↔ y.map a.eval = none) ∧ ∀ v cv, y.map val = some (some v) → y.map a.eval = some cv → VRel reg F w φ v cv := by
        intro y
        cases y with
        | none => exact ⟨by simp, fun v cv h => by simp at h⟩
        | some z => exact ⟨by simp, fun v cv h h' => by simp at h h'; subst h'; exact hv z v h⟩
      exact opok_wp (sliceG_ok hH hq (hv x _ hx) (side lo).1 (side lo).2 (side hi).1 (side hi).2 (side mx).1 (side mx).2) rfl hK
    · exact hq.elim
  case indexAddr t x i =>
    split at hq
    · rename_i vx vi hx hi
      exact opok_wp (indexAddrG_ok hH hq (hv x _ hx) (hv i _ hi)) rfl hK
    · exact hq.elim
  case index t x i =>
    split at hq
    · rename_i vx vi hx hi
      exact opok_wp (indexG_ok hH hq (hv x _ hx) (hv i _ hi)) rfl hK
    · exact hq.elim
  case field t x f =>
    split at hq
    · rename_i vx hx
      exact opok_wp (fieldG_ok hH hq (hv x _ hx)) rfl hK
    · exact hq.elim
  case convert src dst' x =>
    split at hq
    · rename_i vx hx
      exact opok_wp (convertG_ok hH hfr hq (hv x _ hx)) rfl hK
    · exact hq.elim
  case extract x n =>
    split at hq
    · rename_i vs hx
      obtain ⟨v, hn, hq⟩ := K_oneO hq
      have hvx := hv x _ hx
      generalize hax : a.eval x = ax at hvx
      cases hvx with
      | tup _ cs hz hr =>
        have hlt : n < vs.length := by
          rcases Nat.lt_or_ge n vs.length with h | h
          · exact h
          · rw [List.getElem?_eq_none h] at hn; cases hn
        have hvn : vs.getD n .any = v := by simp [List.getD, hn]
        have hrel := hr n hlt
        rw [hvn] at hrel
        have hn' : n < cs.size := by omega
        have hc : cs[n]? = some (cs.getD n undef) := by simp [hn']
        exact opok_wp (s := Instr.extract (a.eval x) n) ⟨_, w, by rw [hax]; unfold Instr.extract; simp only [hc]; rfl, .pure hH hq hrel⟩ rfl hK
    · exact hq.elim
  case makeMap t r =>
    cases r with
    | none => exact opok_wp (s := Instr.makeMap t none) (makeMapG_ok hH hfr hq (.inl rfl)) rfl hK
    | some o =>
      simp only at hq
      split at hq
      · rename_i k n ho
        exact opok_wp (s := Instr.makeMap t (some (a.eval o))) (makeMapG_ok hH hfr hq (.inr ⟨k, n, by rw [(hv o _ ho).int_inv]⟩)) rfl hK
      · exact hq.elim
  case range t x =>
    split at hq
    · rename_i vx hx
      exact opok_wp (rangeG_ok hH hfr hq (hv x _ hx)) rfl hK
    · exact hq.elim
  case next x b =>
    split at hq
    · rename_i vx hx
      exact opok_wp (nextG_ok (ty := ty) hH hq (hv x _ hx)) rfl hK
    · exact hq.elim
  case lookup t x k ok =>
    split at hq
    · rename_i vx vk hx hk
      exact opok_wp (lookupG_ok hH hq (hv x _ hx) (hv k _ hk)) rfl hK
    · exact hq.elim
  case mapUpdate t m k x =>
    split at hq
    · rename_i vm vk vx hm hk hx
      obtain ⟨w', hr, hres⟩ := mapUpdateG_ok hH hq (hv m _ hm) (hv k _ hk) (hv x _ hx)
      refine wp_skip' (w' := w') ?_ (hK _ _ hres)
      simp [execOp, hr]
    · exact hq.elim
  case insert t m k x =>
    split at hq
    · rename_i vm vk vx hm hk hx
      obtain ⟨w', hr, hres⟩ := mapUpdateG_ok hH hq (hv m _ hm) (hv k _ hk) (hv x _ hx)
      refine wp_skip' (w' := w') ?_ (hK _ _ hres)
      simp [execOp, hr]
    · exact hq.elim
  case mapEntry t m k =>
    split at hq
    · rename_i vm vk hm hk
      exact opok_wp (mapEntryG_ok hH hq (hv m _ hm) (hv k _ hk)) rfl hK
    · exact hq.elim
  case entryStore t m n x =>
    split at hq
    · rename_i vm vn vx hm hn hx
      obtain ⟨w', hr, hres⟩ := entryStoreG_ok (P := P) (t := t) hH hq (hv m _ hm) (hv n _ hn) (hv x _ hx)
      refine wp_skip' (w' := w') ?_ (hK _ _ hres)
      simp [execOp, hr]
    · exact hq.elim
  case makeFunc fn first caps =>
    cases fn <;> (try simp only at hq) <;> (try exact hq.elim)
    rename_i f
    split at hq
    · rename_i fs cs h1 h2
      have r1 := operands_rel (F := F) (w := w) (φ := φ) hv h1
      have r2 := operands_rel (F := F) (w := w) (φ := φ) hv h2
      exact opok_wp (s := Instr.makeFunc (.func f) (first.map a.eval) (caps.map a.eval)) ⟨_, w, rfl, .pure hH hq (.fn f cs fs _ _ r2.1 r2.2 r1.1 r1.2)⟩ rfl hK
    · exact hq.elim
  case call c =>
    split at hq
    · rename_i vs hvs
      have hl := operands_rel (F := F) (w := w) (φ := φ) hv hvs
      obtain ⟨callee, cargs, cts⟩ := c
      simp only at hq hl
      cases callee <;> (try simp only at hq) <;> (try exact hq.elim)
      case builtin b =>
        obtain ⟨s, he, hs⟩ := builtinG_ok (ty := ty) (consts := cargs.map fun | .const _ => true | _ => false) hH hfr hq hl
        refine opok_wp hs ?_ hK
        simp only [execOp, resolve]
        exact he
      case value of =>
        split at hq
        · rename_i f cs fs hf
          have hvf := hv of _ hf
          generalize haf : a.eval of = af at hvf
          cases hvf with
          | fn _ _ _ ccs cfs hz hr hz' hr' =>
            obtain ⟨⟨fn, hfn, hname, hbody⟩, hcall⟩ := hHd _ _ _ _ hq
            have hargs := LRel.append (LRel.append (⟨hz', hr'⟩ : LRel F w φ fs cfs) hl) (⟨hz, hr⟩ : LRel F w φ cs ccs)
            have hc := hcall N F φ w _ hfr hH hargs
            have hrun : (execOp a.eval ⟨dst, .call ⟨.value of, cargs, cts⟩, ty, pos, after, guard⟩).run P w = .ok (.enter f (cfs ++ cargs.map a.eval ++ ccs)) w := by
              have hname' : ¬ fn.name = "runtime.NumGoroutine" := fun e => by rw [e] at hname; simp at hname
              have hbody' : ¬ fn.body = none := fun e => by rw [e] at hbody; simp at hbody
              simp [execOp, resolve, haf, Deferred.ofValue, invoke, callFunc, hfn, hname', hbody']
            unfold Oper.wp
            rw [hrun]
            simp only [Oper.upon_enter]
            refine hc.mono (fun e w' hpost => ?_)
            obtain ⟨cv, rfl, hres⟩ := hpost
            exact hK cv w' hres
        · exact hq.elim
    · exact hq.elim

/-! ### In a round of a range over a function -/
/-- No fence, and the round. -/
def Fr (r : Option Nat) : Fence := { Fence.wide with round := r }
theorem callsIn_fr {r : Option Nat} {n : Nat} {P : Program} {f : FuncId} {args : Array Value} {w : World} {R : Ending → World → Prop} : CallsIn (Fr r) n P f args w R ↔ Calls P f args w R := (callsIn_wide (n := n) : CallsIn Fence.wide n P f args w R ↔ Calls P f args w R)
theorem rowsIn_fr {r : Option Nat} {n : Nat} {P : Program} {row : String} {args : Array Value} {w : World} {R : Value → World → Prop} (h : Rows P row args w R) : RowsIn (Fr r) n P row args w R :=
  fun c cs _ => let ⟨v, w', h1, h2⟩ := h c cs; ⟨v, w', h1, (stepsIn_wide (P := P)).2 h2⟩
theorem Oper.in_of_wp {r : Option Nat} {n : Nat} {P : Program} {o : Oper} {a : Act} {w : World} {K : Act → World → Prop} {Q : Exit → Act → World → Prop} (hnd : ∀ c, o.op ≠ .defer c) (h : Oper.wp P o a w K Q) : Oper.wpIn (Fr r) n P o a w K Q := by
  refine ⟨fun _ _ => trivial, ?_⟩
  rw [Oper.semAt_eq _ _ _ hnd]
  unfold Oper.wp at h
  revert h
  generalize (execOp a.eval o).run P w = x
  intro h
  cases x with
  | ok y w' =>
    cases y with
    | enter f args => exact ⟨fun hd => (by cases hd), callsIn_fr.2 h⟩
    | row row args => exact ⟨fun hd => (by cases hd), rowsIn_fr h⟩
    | value v => exact h
    | skip => exact h
    | defer d => exact h
    | _ => exact h.elim
  | halt y w' =>
    cases y with
    | panic v => exact h
    | _ => exact h.elim
theorem lexec_in {r : Option Nat} {m : Nat} {reg : Reg} {P : Program} {hd : Hd reg.T} {N F : Nat → Prop} {φ : Phi} {h : Hp reg.T} {w : World} (hHd : HdSound P hd) {o : Oper} {a : Act} {val : Operand → Option (V reg.T)} {Q : V reg.T × Hp reg.T → Prop} (hH : HR N F φ h w) (hfr : ∀ r, Q r → Fresh N h.nx r.2.nx) (hv : ∀ x v, val x = some v → VRel reg F w φ v (a.eval x))
    (hq : (lexec P hd o.op val h).K Q) {K : Act → World → Prop} {Qx : Exit → Act → World → Prop} (hK : ∀ cv w', Res N F φ h w Q cv w' → K (a.put o.dst cv) w') : Oper.wpIn (Fr r) m P o a w K Qx := by
  refine Oper.in_of_wp (fun c hc => ?_) (lexec_sound hHd hH hfr hv hq hK)
  rw [hc] at hq
  exact hq.elim
end
end Go.W
