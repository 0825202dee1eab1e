/- Runs with symbols; rows. No conditions. -/
import Derived.Test.YtbcmfkognanjdaaGreatDoorVg
import Derived.Test.YtbcmfkognanjdaaGreatDoorVe
namespace Go.W
open Go Go.RowKit

section
variable {α β γ : Type}
theorem Out.bind_bind (o : Out α) (f : α → Out β) (g : β → Out γ) : (o.bind f).bind g = o.bind fun a => (f a).bind g := by
  induction o with
  | ret a => rfl
  | need b o ih => show Out.need b ((o.bind f).bind g) = Out.need b (o.bind fun a => (f a).bind g); rw [ih]
  | br b x y ihx ihy => show Out.br b ((x.bind f).bind g) ((y.bind f).bind g) = Out.br b (x.bind fun a => (f a).bind g) (y.bind fun a => (f a).bind g); rw [ihx, ihy]
  | bad => rfl
theorem Out.ask_bind (b : Bool) (o : Out α) (f : α → Out β) : (Out.ask b o).bind f = Out.ask b (o.bind f) := by cases b <;> rfl
end

section
variable {reg : Reg} (P : Program) {R : Type}
abbrev KS (T : Nat → Type) (R : Type) := Tr (V T) → Hp T → Out R
noncomputable def stepS (hd : Hd reg.T) (o : Oper) (k : KS reg.T R) (env : Tr (V reg.T)) (hp : Hp reg.T) : Out R :=
  (lexec P hd o.op (valC env) hp).bind fun r => Out.ask (Nat.ble hp.nx r.2.nx) (k (putC env o.dst r.1) r.2)
noncomputable def opS (hd : Hd reg.T) (ops : Array Oper) (o : Oper) (k : KS reg.T R) (env : Tr (V reg.T)) (hp : Hp reg.T) : Out R :=
  match o.guard with
  | none => stepS P hd o k env hp
  | some (j, want) => (match (ops[j]?).bind (·.dst) with
    | none => .bad
    | some d => (match env.getC d with
      | some (.d (.bool b)) => .br b
          (match want with | true => stepS P hd o k (env.setC d (some (.d (.bool true)))) hp | false => k (putC (env.setC d (some (.d (.bool true)))) o.dst .undef) hp)
          (match want with | true => k (putC (env.setC d (some (.d (.bool false)))) o.dst .undef) hp | false => stepS P hd o k (env.setC d (some (.d (.bool false)))) hp)
      | some .undef => k (putC env o.dst .undef) hp
      | _ => .bad))
noncomputable def exOpsS (hd : Hd reg.T) (nt : Nat) (ops : Array Oper) : List Oper → KS reg.T R → KS reg.T R
  | [], k, env, hp => k env hp
  | o :: rest, k, env, hp => (match dstOk nt o.dst with
    | false => .bad
    | true => opS P hd ops o (exOpsS hd nt ops rest k) env hp)

theorem stepS_eq (hd : Hd reg.T) (o : Oper) (k : KS reg.T R) (f : St reg.T → Out (St reg.T)) (g : St reg.T → Out R) (hk : ∀ env hp, k env hp = (f ⟨env, hp⟩).bind g) (env : Tr (V reg.T)) (hp : Hp reg.T) :
    stepS P hd o k env hp = ((lexec P hd o.op (valOf env.get) hp).bind fun r => Out.ask (Nat.ble hp.nx r.2.nx) (f (St.put ⟨env, r.2⟩ o.dst r.1))).bind g := by
  unfold stepS
  rw [Out.bind_bind, valC_eq]
  congr 1
  funext r
  rw [Out.ask_bind, hk, putC_eq]
theorem exOpsS_eq (hd : Hd reg.T) (nt : Nat) (ops : Array Oper) (k : KS reg.T R) : ∀ (l : List Oper) (env : Tr (V reg.T)) (hp : Hp reg.T), exOpsS P hd nt ops l k env hp = (exOps P hd nt ops l ⟨env, hp⟩).bind fun st => k st.env st.hp
  | [], _, _ => rfl
  | o :: rest, env, hp => by
    have ih := fun env hp => exOpsS_eq hd nt ops k rest env hp
    simp only [exOpsS, exOps]
    cases dstOk nt o.dst with
    | false => rfl
    | true =>
      simp only [opS]
      cases o.guard with
      | none => exact stepS_eq P hd o _ _ _ ih env hp
      | some gd =>
        obtain ⟨j, want⟩ := gd
        simp only
        cases (ops[j]?).bind (·.dst) with
        | none => rfl
        | some d =>
          simp only [Tr.getC_eq]
          have e1 : ∀ c, (env.setC d (some (.d (.bool c)))) = ((⟨env, hp⟩ : St reg.T).fix d c).env := fun c => by simp only [St.fix, Tr.setC_eq]
          cases env.get d with
          | none => rfl
          | some v =>
            cases v with
            | d x =>
              cases x with
              | bool b =>
                have a1 := fun c => stepS_eq P hd o _ _ _ ih (env.setC d (some (.d (.bool c)))) hp
                have a2 := fun c => ih (putC (env.setC d (some (.d (.bool c)))) o.dst .undef) hp
                simp only [← putC_eq, e1] at a1 a2
                cases want with
                | true => exact congr (congrArg (Out.br b) ((congrArg (fun en => stepS P hd o (exOpsS P hd nt ops rest k) en hp) (e1 true)).trans (a1 true))) ((congrArg (fun en => exOpsS P hd nt ops rest k (putC en o.dst .undef) hp) (e1 false)).trans (a2 false))
                | false => exact congr (congrArg (Out.br b) ((congrArg (fun en => exOpsS P hd nt ops rest k (putC en o.dst .undef) hp) (e1 true)).trans (a2 true))) ((congrArg (fun en => stepS P hd o (exOpsS P hd nt ops rest k) en hp) (e1 false)).trans (a1 false))
              | _ => rfl
            | undef => exact (ih _ _).trans (by rw [← putC_eq])
            | _ => rfl

noncomputable def exRegS (hd : Hd reg.T) (nt : Nat) (ops : Array Oper) (draw : Bool) (k : KS reg.T R) (env : Tr (V reg.T)) (hp : Hp reg.T) : Out R :=
  match draw with
  | false => exOpsS P hd nt ops ops.toList k env hp
  | true => (exOpsD P hd nt ops ops.toList 0 ⟨env, hp⟩ []).bind fun r => Out.ask (okTrace ops r.2) (k r.1.env r.1.hp)
theorem exRegS_eq (hd : Hd reg.T) (nt : Nat) (ops : Array Oper) (draw : Bool) (k : KS reg.T R) (env : Tr (V reg.T)) (hp : Hp reg.T) : exRegS P hd nt ops draw k env hp = (exReg P hd nt ops draw ⟨env, hp⟩).bind fun st => k st.env st.hp := by
  cases draw with
  | false => exact exOpsS_eq P hd nt ops k _ env hp
  | true =>
    simp only [exRegS, exReg]
    rw [Out.bind_bind]
    congr 1
    funext r
    rw [Out.ask_bind]
    rfl

abbrev KX (T : Nat → Type) (R : Type) := AExit → Tr (V T) → Hp T → Out R
noncomputable def thenS (kb : KS reg.T R) (k : KX reg.T R) : KX reg.T R := fun e env hp => match e with | .normal => kb env hp | e => k e env hp
noncomputable def blockS (id : Nat) (k : KX reg.T R) : KX reg.T R := fun e env hp => match e with
  | .exit j => (match Nat.beq j id with | true => k .normal env hp | false => k (.exit j) env hp)
  | e => k e env hp
noncomputable def loopS (body : KX reg.T R → KS reg.T R) (k : KX reg.T R) : Nat → KS reg.T R
  | 0, _, _ => .bad
  | n + 1, env, hp => body (thenS (loopS body k n) k) env hp
noncomputable def exS (hd : Hd reg.T) (nt fuel : Nat) : Code → KX reg.T R → KS reg.T R
  | .skip, k, env, hp => k .normal env hp
  | .region _ ops draw, k, env, hp => exRegS P hd nt ops draw (fun env hp => k .normal env hp) env hp
  | .seq a b, k, env, hp => exS hd nt fuel a (thenS (exS hd nt fuel b k) k) env hp
  | .cond c a b, k, env, hp => (match c with
    | .tmp t => (match env.getC t with
      | some (.d (.bool v)) => .br v (exS hd nt fuel a k (env.setC t (some (.d (.bool true)))) hp) (exS hd nt fuel b k (env.setC t (some (.d (.bool false)))) hp)
      | _ => .bad)
    | .const (.bool v) => (match v with | true => exS hd nt fuel a k env hp | false => exS hd nt fuel b k env hp)
    | _ => .bad)
  | .block id c, k, env, hp => exS hd nt fuel c (blockS id k) env hp
  | .loop c, k, env, hp => loopS (exS hd nt fuel c) k fuel env hp
  | .exit id, k, env, hp => k (.exit id) env hp
  | .ret, k, env, hp => k .ret env hp
  | .scope c, k, env, hp => exS hd nt fuel c k env hp
  | .label _, k, env, hp => k .normal env hp
  | _, _, _, _ => .bad

theorem loopS_eq {body : KX reg.T R → KS reg.T R} {b : St reg.T → Out (AExit × St reg.T)} (hb : ∀ k env hp, body k env hp = (b ⟨env, hp⟩).bind fun r => k r.1 r.2.env r.2.hp) (k : KX reg.T R) :
    ∀ (n : Nat) (env : Tr (V reg.T)) (hp : Hp reg.T), loopS body k n env hp = (loopN b n ⟨env, hp⟩).bind fun r => k r.1 r.2.env r.2.hp
  | 0, _, _ => rfl
  | n + 1, env, hp => by
    simp only [loopS, loopN]
    rw [hb, Out.bind_bind]
    congr 1
    funext r
    obtain ⟨e, st⟩ := r
    cases e with
    | normal => exact loopS_eq hb k n st.env st.hp
    | exit id => rfl
    | ret => rfl
theorem exS_eq (hd : Hd reg.T) (nt fuel : Nat) : ∀ (c : Code) (k : KX reg.T R) (env : Tr (V reg.T)) (hp : Hp reg.T), exS P hd nt fuel c k env hp = (ex P hd nt fuel c ⟨env, hp⟩).bind fun r => k r.1 r.2.env r.2.hp := by
  intro c
  induction c with
  | skip => intro k env hp; rfl
  | region id ops draw =>
    intro k env hp
    simp only [exS, ex]
    rw [exRegS_eq, Out.bind_bind]
    rfl
  | seq a b iha ihb =>
    intro k env hp
    simp only [exS, ex]
    rw [iha, Out.bind_bind]
    congr 1
    funext r
    obtain ⟨e, st⟩ := r
    cases e with
    | normal => exact ihb k st.env st.hp
    | exit id => rfl
    | ret => rfl
  | cond o a b iha ihb =>
    intro k env hp
    simp only [exS, ex]
    cases o with
    | tmp t =>
      simp only [Tr.getC_eq]
      cases env.get t with
      | none => rfl
      | some v =>
        cases v with
        | d x =>
          cases x with
          | bool v =>
            have e1 : ∀ c, (env.setC t (some (.d (.bool c)))) = ((⟨env, hp⟩ : St reg.T).fix t c).env := fun c => by simp only [St.fix, Tr.setC_eq]
            exact congr (congrArg (Out.br v) ((congrArg (fun en => exS P hd nt fuel a k en hp) (e1 true)).trans (iha k _ hp))) ((congrArg (fun en => exS P hd nt fuel b k en hp) (e1 false)).trans (ihb k _ hp))
          | _ => rfl
        | _ => rfl
    | const v =>
      cases v with
      | bool v =>
        cases v with
        | true => exact iha k env hp
        | false => exact ihb k env hp
      | _ => rfl
    | global g => rfl
    | func f => rfl
  | block id c ih =>
    intro k env hp
    simp only [exS, ex]
    rw [ih, Out.bind_bind]
    congr 1
    funext r
    obtain ⟨e, st⟩ := r
    cases e with
    | normal => rfl
    | exit j =>
      simp only [blockS, blockX]
      cases Nat.beq j id <;> rfl
    | ret => rfl
  | loop c ih => intro k env hp; simp only [exS, ex]; exact loopS_eq ih k _ _ _
  | exit id => intro k env hp; rfl
  | ret => intro k env hp; rfl
  | scope c ih => intro k env hp; simp only [exS, ex]; exact ih k env hp
  | label l => intro k env hp; rfl
  | rangeFunc f ps c1 c2 _ _ => intro k env hp; rfl
  | goto l => intro k env hp; rfl
  | refuse s => intro k env hp; rfl

noncomputable def finS (fn : Func) : KX reg.T (V reg.T × Hp reg.T) := fun e env hp => match e with | .exit _ => .bad | _ => oneO (retV P fn ⟨env, hp⟩) hp
noncomputable def exFunS (hd : Hd reg.T) (fuel : Nat) (f : FuncId) (args : List (V reg.T)) (h : Hp reg.T) : Out (V reg.T × Hp reg.T) :=
  match P.funcs[f]? with
  | none => .bad
  | some fn => (match fn.body with
    | none => .bad
    | some c => Out.ask (Nat.ble args.length fn.ntmps && Nat.ble fn.ntmps 1000000) (exS P hd fn.ntmps fuel c (finS P fn) (initEnvC args 0 .e) h))
theorem exFunS_eq (hd : Hd reg.T) (fuel : Nat) (f : FuncId) (args : List (V reg.T)) (h : Hp reg.T) : exFunS P hd fuel f args h = exFun P hd fuel f args h := by
  unfold exFunS exFun
  cases P.funcs[f]? with
  | none => rfl
  | some fn =>
    simp only
    cases fn.body with
    | none => rfl
    | some c =>
      simp only
      rw [exS_eq, initEnvC_eq]
      congr 2

/-- Calls: by contract; by a table; some by what the evaluator of all ways says; the rest is closed. -/
noncomputable def hdJ (C : Con reg.T) (tabs : Tabs reg.T) (sym : FuncId → Bool) (fuel depth : Nat) : Nat → Hd reg.T
  | 0 => fun f args h => (match C f with | some S => S args h | none => .bad)
  | n + 1 => fun f args h => (match C f with
    | some S => S args h
    | none => (match tabs f with
      | some tab => tabG tab args h (exFunS P (hdJ C tabs sym fuel depth n) fuel f args h)
      | none => (match sym f with | true => exFunS P (hdJ C tabs sym fuel depth n) fuel f args h | false => Out.ofO (exFunF P (hdF P C fuel depth) fuel f args h))))
theorem hdJ_eq (C : Con reg.T) (tabs : Tabs reg.T) (sym : FuncId → Bool) (fuel depth : Nat) : ∀ n, hdJ P C tabs sym fuel depth n = hdG P C tabs sym fuel depth n
  | 0 => rfl
  | n + 1 => by
    funext f args h
    simp only [hdJ, hdG, exFunS_eq, hdJ_eq C tabs sym fuel depth n]
    cases C f with
    | some S => rfl
    | none =>
      cases tabs f with
      | some tab => rfl
      | none => cases sym f <;> rfl
theorem hdJ_sound {P : Program} (hm : P.follows .mixedOrders = true) (hno : ∀ (f : FuncId) fn, P.funcs[f]? = some fn → fn.body.isNone = false → (fn.name == "runtime.NumGoroutine") = false) {C : Con reg.T} (hC : ConOk P C) {tabs : Tabs reg.T} (hT : TabsOk P tabs) (sym : FuncId → Bool) (fuel depth n : Nat) : HdSound P (hdJ P C tabs sym fuel depth n) := by
  rw [hdJ_eq]; exact hdG_sound hm hno hC hT sym fuel depth n

/-- A function that is handed no objects. -/
theorem runFun_sound {P : Program} {hd : Hd reg.T} (hm : P.follows .mixedOrders = true) (hHd : HdSound P hd) (hno : ∀ (f : FuncId) fn, P.funcs[f]? = some fn → fn.body.isNone = false → (fn.name == "runtime.NumGoroutine") = false) {fuel : Nat} {f : FuncId} {args : List (V reg.T)} {Q : V reg.T × Hp reg.T → Prop}
    (h : (exFunS P hd fuel f args ⟨.e, 0, []⟩).K Q) {F : Nat → Prop} {w : World} {cargs : Array Value} (hF : ∀ b, F b → b < w.heap.size) (hlay : LayOk reg F w) (hl : LRel F w (fun _ => none) args cargs) :
    Calls P f cargs w fun e w' => ∃ v h' F' φ' cv, Q (v, h') ∧ e = .returned cv ∧ VRel reg F' w' φ' v cv ∧ (∀ b, F b → F' b) ∧ (∀ b, F' b → F b ∨ w.heap.size ≤ b) ∧ w'.os = w.os ∧ w'.tape = w.tape ∧ w'.output = w.output ∧ w.heap.size ≤ w'.heap.size ∧
      ∀ b, b < w.heap.size → w'.heap[b]? = w.heap[b]? := by
  rw [exFunS_eq] at h
  have hH : HR (reg := reg) (fun _ => False) F (fun _ => none) ⟨.e, 0, []⟩ w :=
    ⟨fun i o hi => by simp [Hp.get, Tr.get_e] at hi, fun i o b s k hi => by simp [Hp.get, Tr.get_e] at hi, fun i j oi oj b s k s' k' hi => by simp [Hp.get, Tr.get_e] at hi, fun i p hp => by simp at hp, fun i o hi => by simp [Hp.get, Tr.get_e] at hi, fun i hi => hi.elim, hF, hlay⟩
  have own0 : ∀ b, ¬Owned reg (fun _ => none) (Hp.get (⟨.e, 0, []⟩ : Hp reg.T)) b := fun b ⟨i, o, s, k, hi, _⟩ => by simp [Hp.get, Tr.get_e] at hi
  refine ((exFun_sound hm hHd hno fuel f args _ Q h).2 (fun _ => False) F (fun _ => none) w cargs (fun r _ i _ _ hN => hN) hH hl).mono fun e w' he => ?_
  obtain ⟨cv, rfl, v, h', N', F', φ', hq, hv, hH', hG⟩ := he
  have hG := hG.goes
  refine ⟨v, h', F', φ', cv, hq, rfl, hv, hG.fsub, fun b hb => ?_, hG.os, hG.tape, hG.output, hG.size, fun b hb => hG.block b hb (own0 b)⟩
  rcases hG.fnew b hb with h | h | h
  · exact .inl h
  · exact .inr h
  · exact (own0 b h).elim
end

section
variable {reg : Reg} {P : Program}
theorem law_row_run {H : Type} {enc : TypeId × Value → H} {C : Checked} {os : Os} {f : FuncId} {fn : Func} {s : ChangeSpec} {bt : TypeId} {X : World → Array Value → Prop} (hX : ∀ (w w' : World) (args : Array Value), w.heap = w'.heap → X w args → X w' args) (own : ownKnob C.prog.godebug = none) (started : os.Started)
    (hl : laidOutB C.prog = true) (noInit : C.prog.inits.idxOf? f = none) (hfn : C.prog.funcs[f]? = some fn) (hread : ∀ t ∈ fn.params.toList, C.prog.readableRec t = true ∧ t < C.prog.types.size)
    (hres : fn.resultTypes = #[bt]) (hbt : C.prog.underlying bt = some .bool) (hvars : s.vars = [])
    (hs : ∀ ds : List (DataW H), ds.length = fn.params.size → s.fn H (ds ++ []) = { results := [.lit (.bool true)], args := ds })
    (witness : ∃ (w : World) (tape : Tape) (i : Input), w.os = os ∧ (w.forCall tape i).Shaped C.prog ∧ i.vars = [] ∧ Input.okWide C.prog (w.forCall tape i) .any w.heap.size f i ∧
      ((s.pre enc C.prog fn [] false (w.forCall tape i).memory i.args ∧ X (w.forCall tape i).memory i.args) ∧ sizedMet enc C.prog fn (OpenSpec.ofChange s) false (w.forCall tape i).memory i.args) ∧ ({} : Assume).holds C.prog (lone (Frame.enter C.prog f i.args .normal) [] (w.forCall tape i)))
    (n : Nat) (hchk : ∀ t ∈ fn.params.toList, chkT reg C.prog n t = true) (htot : ∀ n e vs, reg.k e = C.prog.cellsOf e → C.prog.cellsOf e ≠ 0 → WT reg C.prog n e vs → ∃ x, reg.enc e x = vs)
    (hTab : ∀ w args, X w args → reg.Tab w) (hm : C.prog.follows .mixedOrders = true) (hno : ∀ (f : FuncId) fn, C.prog.funcs[f]? = some fn → fn.body.isNone = false → (fn.name == "runtime.NumGoroutine") = false) (h : ∀ vs, TypedArgs reg C.prog n fn.params.toList vs → ∃ (hd : Hd reg.T) (_ : HdSound C.prog hd) (fuel : Nat), (exFunS C.prog hd fuel f vs ⟨.e, 0, []⟩).K (fun r => yes r.1)) :
    ReturnsInHanded {} C os f .any (fun w args => (s.pre enc C.prog fn [] false w args ∧ X w args) ∧ sizedMet enc C.prog fn (OpenSpec.ofChange s) false w args) (s.post enc C.prog fn false true false false) := by
  refine law_lifted_and hX own started hl noInit hfn hread hres hbt hvars hs witness ?_
  intro W base args ds ps hok _ hA _ hx
  obtain ⟨vs, h1, h2, h4⟩ := args_rel (reg := reg) (P := C.prog) (F := fun b => b < W.heap.size) (φ := fun _ => none) (fun b hb => hb) htot hchk
    (fun j t v ht hv => hok j t v (by simpa using ht) (by simpa using hv)) hA
  obtain ⟨hd, hHd, fuel, hL⟩ := h vs h1
  refine (runFun_sound hm hHd hno hL (F := fun b => b < W.heap.size) (w := W) (fun b hb => hb) ⟨W, hTab W args hx, fun b hb => ⟨hb, rfl⟩⟩ (cargs := args) ⟨by simpa using h2, fun j hj => by rw [← toList_getD]; exact h4 j hj⟩).mono fun e W' he => ?_
  obtain ⟨v, h', F', φ', cv, hq, rfl, hv, _, _, h5, h6, h7, h8, h9⟩ := he
  have hq : v = .d (.bool true) := yes_eq hq
  subst hq
  refine ⟨?_, ⟨h5, h6, h7, h8, h9⟩⟩
  cases hv with
  | d _ _ hd =>
    cases hd with
    | bool => rfl
    | emp _ hx => cases hx
    | sl _ _ _ _ _ _ _ hx => cases hx
end
end Go.W
