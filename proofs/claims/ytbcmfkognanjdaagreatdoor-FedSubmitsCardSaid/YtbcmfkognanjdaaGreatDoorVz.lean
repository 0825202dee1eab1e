/- A closed evaluator. No conditions. -/
import Derived.Test.YtbcmfkognanjdaaGreatDoorVc
namespace Go.W
open Go

/-! ### The way that is taken -/
noncomputable def Out.run {α : Type} (o : Out α) : Option α :=
  Out.rec (motive := fun _ => Option α) (fun a => some a) (fun b _ ih => Bool.rec (motive := fun _ => Option α) none ih b) (fun b _ _ x y => Bool.rec (motive := fun _ => Option α) y x b) none o

section
variable {α β : Type}
theorem Out.run_K {o : Out α} {r : α} (h : o.run = some r) {Q : α → Prop} (hq : Q r) : o.K Q := by
  induction o with
  | ret a => cases h; exact hq
  | need b o ih =>
    cases b with
    | true => exact (must_iff _ _).2 ⟨rfl, ih h⟩
    | false => cases h
  | br b x y ihx ihy =>
    cases b with
    | true => exact ihx h
    | false => exact ihy h
  | bad => cases h
theorem Out.run_bind {o : Out α} {f : α → Out β} {a : α} {r : β} (h : o.run = some a) (h2 : (f a).run = some r) : (o.bind f).run = some r := by
  induction o with
  | ret b => cases h; exact h2
  | need b o ih =>
    cases b with
    | true => exact ih h
    | false => cases h
  | br b x y ihx ihy =>
    cases b with
    | true => exact ihx h
    | false => exact ihy h
  | bad => cases h
theorem Out.run_ask {b : Bool} {o : Out α} {r : α} (hb : b = true) (h : o.run = some r) : (Out.ask b o).run = some r := by subst hb; exact h
theorem Out.run_ofO {x : Option α} : (Out.ofO x).run = x := by cases x <;> rfl
end

/-! ### Tries, quickly -/
namespace Tr
variable {α : Type}
noncomputable def getF (t : Tr α) : Nat → Option α :=
  Tr.rec (motive := fun _ => Nat → Option α) (fun _ => none)
    (fun _ v _ gl gr p => Bool.rec (motive := fun _ => Option α) (Bool.rec (motive := fun _ => Option α) (gr (Nat.div p 2)) (gl (Nat.div p 2)) (Nat.beq (Nat.mod p 2) 0)) v (Nat.beq p 1)) t
theorem getF_eq : ∀ (t : Tr α) (p : Nat), t.getF p = t.getP p
  | .e, _ => rfl
  | .n l v r, p => by
    show Bool.rec (motive := fun _ => Option α) (Bool.rec (motive := fun _ => Option α) (r.getF (Nat.div p 2)) (l.getF (Nat.div p 2)) (Nat.beq (Nat.mod p 2) 0)) v (Nat.beq p 1) = _
    rw [getF_eq l, getF_eq r]
    simp only [getP]
    cases Nat.beq p 1 <;> cases Nat.beq (Nat.mod p 2) 0 <;> rfl
noncomputable def setF : Nat → Tr α → Nat → Option α → Tr α :=
  Nat.rec (motive := fun _ => Tr α → Nat → Option α → Tr α) (fun t _ _ => t) (fun _ ih t p x =>
    Tr.rec (motive := fun _ => Tr α)
      (Bool.rec (motive := fun _ => Tr α) (Bool.rec (motive := fun _ => Tr α) (.n .e none (ih .e (Nat.div p 2) x)) (.n (ih .e (Nat.div p 2) x) none .e) (Nat.beq (Nat.mod p 2) 0)) (.n .e x .e) (Nat.beq p 1))
      (fun l v r _ _ => Bool.rec (motive := fun _ => Tr α) (Bool.rec (motive := fun _ => Tr α) (.n l v (ih r (Nat.div p 2) x)) (.n (ih l (Nat.div p 2) x) v r) (Nat.beq (Nat.mod p 2) 0)) (.n l x r) (Nat.beq p 1)) t)
theorem setF_eq : ∀ (f : Nat) (t : Tr α) (p : Nat) (x : Option α), setF f t p x = setP f t p x
  | 0, _, _, _ => rfl
  | f + 1, .e, p, x => by
    show Bool.rec (motive := fun _ => Tr α) (Bool.rec (motive := fun _ => Tr α) (.n .e none (setF f .e (Nat.div p 2) x)) (.n (setF f .e (Nat.div p 2) x) none .e) (Nat.beq (Nat.mod p 2) 0)) (.n .e x .e) (Nat.beq p 1) = _
    rw [setF_eq f]
    simp only [setP]
    cases Nat.beq p 1 <;> cases Nat.beq (Nat.mod p 2) 0 <;> rfl
  | f + 1, .n l v r, p, x => by
    show Bool.rec (motive := fun _ => Tr α) (Bool.rec (motive := fun _ => Tr α) (.n l v (setF f r (Nat.div p 2) x)) (.n (setF f l (Nat.div p 2) x) v r) (Nat.beq (Nat.mod p 2) 0)) (.n l x r) (Nat.beq p 1) = _
    rw [setF_eq f, setF_eq f]
    simp only [setP]
    cases Nat.beq p 1 <;> cases Nat.beq (Nat.mod p 2) 0 <;> rfl
noncomputable def getC (t : Tr α) (i : Nat) : Option α := t.getF (Nat.succ i)
noncomputable def setC (t : Tr α) (i : Nat) (x : Option α) : Tr α := setF 64 t (Nat.succ i) x
theorem getC_eq (t : Tr α) (i : Nat) : t.getC i = t.get i := getF_eq t _
theorem setC_eq (t : Tr α) (i : Nat) (x : Option α) : t.setC i x = t.set i x := setF_eq 64 t _ _
end Tr

section
variable {reg : Reg} (P : Program)
abbrev HdC (T : Nat → Type) := FuncId → List (V T) → Hp T → Option (V T × Hp T)
def HdRel (hc : HdC reg.T) (hd : Hd reg.T) : Prop := ∀ f a h r, hc f a h = some r → (hd f a h).run = some r

noncomputable def valC {T : Nat → Type} (env : Tr (V T)) : Operand → Option (V T)
  | .tmp t => env.getC t
  | .const v => some (V.ofValue v)
  | .func f => some (.fn f [] [])
  | .global _ => none
theorem valC_eq {T : Nat → Type} (env : Tr (V T)) : valC env = valOf env.get := by
  funext x
  cases x with
  | tmp t => exact Tr.getC_eq env t
  | const v => rfl
  | func f => rfl
  | global g => rfl
noncomputable def putC {T : Nat → Type} (env : Tr (V T)) (dst : Option Nat) (v : V T) : Tr (V T) := match dst with | some d => env.setC d (some v) | none => env
theorem putC_eq {T : Nat → Type} (env : Tr (V T)) (hp : Hp T) (dst : Option Nat) (v : V T) : St.put ⟨env, hp⟩ dst v = ⟨putC env dst v, hp⟩ := by
  cases dst with
  | none => rfl
  | some d => simp only [St.put, putC, Tr.setC_eq]

noncomputable def lexecC (hc : HdC reg.T) (op : Op) (val : Operand → Option (V reg.T)) (h : Hp reg.T) : Option (V reg.T × Hp reg.T) :=
  match op with
  | .call c => (match c.callee with
    | .value o => (match allSome (c.args.toList.map val) with
      | some vs => (match val o with | some (.fn f cs fs) => hc f (fs ++ vs ++ cs) h | _ => none)
      | none => none)
    | _ => (lexec P (fun _ _ _ => .bad) (.call c) val h).run)
  | op => (lexec P (fun _ _ _ => .bad) op val h).run
theorem lexecC_run {hc : HdC reg.T} {hd : Hd reg.T} (hr : HdRel hc hd) {op : Op} {val : Operand → Option (V reg.T)} {h : Hp reg.T} {r : V reg.T × Hp reg.T} (he : lexecC P hc op val h = some r) : (lexec P hd op val h).run = some r := by
  cases op with
  | call c =>
    obtain ⟨callee, args, ts⟩ := c
    cases callee with
    | value o =>
      simp only [lexecC] at he
      split at he
      · rename_i vs hv
        split at he
        · rename_i f cs fs ho
          simp only [lexec, hv, ho]
          exact hr _ _ _ _ he
        · cases he
      · cases he
    | invoke x m => exact he
    | builtin b => exact he
  | makeFunc fn a b => cases fn <;> exact he
  | _ => exact he

inductive RC (T : Nat → Type) : Type
  | fail
  | go (k : AExit) (env : Tr (V T)) (hp : Hp T)

def dstAll (nt : Nat) : List Oper → Bool
  | [] => true
  | o :: r => (match dstOk nt o.dst with | true => dstAll nt r | false => false)

noncomputable def exOpsC (hc : HdC reg.T) (ops : Array Oper) (l : List Oper) : Tr (V reg.T) → Hp reg.T → RC reg.T :=
  List.rec (motive := fun _ => Tr (V reg.T) → Hp reg.T → RC reg.T) (fun env hp => .go .normal env hp) (fun o _ ih env hp =>
    match o.guard with
    | none => (match lexecC P hc o.op (valC env) hp with
      | some (v, h) => (match Nat.ble hp.nx h.nx with | true => ih (putC env o.dst v) h | false => .fail)
      | none => .fail)
    | some (j, want) => (match (ops[j]?).bind (·.dst) with
      | none => .fail
      | some d => (match env.getC d with
        | some (.d (.bool b)) => (match Bool.rec (motive := fun _ => Bool) (!b) b want with
          | true => (match lexecC P hc o.op (valC env) hp with
            | some (v, h) => (match Nat.ble hp.nx h.nx with | true => ih (putC env o.dst v) h | false => .fail)
            | none => .fail)
          | false => ih (putC env o.dst .undef) hp)
        | some .undef => ih (putC env o.dst .undef) hp
        | _ => .fail))) l

theorem St.fix_at {T : Nat → Type} {env : Tr (V T)} {hp : Hp T} {d : Nat} {b : Bool} (h : env.getC d = some (.d (.bool b))) : (⟨env, hp⟩ : St T).fix d b = ⟨env, hp⟩ := St.fix_same (s := ⟨env, hp⟩) ((Tr.getC_eq env d).symm.trans h)

theorem exOpsC_run {hc : HdC reg.T} {hd : Hd reg.T} (hr : HdRel hc hd) {nt : Nat} {ops : Array Oper} : ∀ (l : List Oper) (env : Tr (V reg.T)) (hp : Hp reg.T) {k env' hp'}, dstAll nt l = true → exOpsC P hc ops l env hp = .go k env' hp' →
    k = .normal ∧ (exOps P hd nt ops l ⟨env, hp⟩).run = some ⟨env', hp'⟩
  | [], env, hp, k, env', hp', _, h => by
    have h : RC.go AExit.normal env hp = .go k env' hp' := h
    cases h; exact ⟨rfl, rfl⟩
  | o :: rest, env, hp, k, env', hp', hd0, h => by
    simp only [dstAll] at hd0
    split at hd0
    case h_2 => cases hd0
    rename_i hdst
    simp only [exOps, hdst]
    have step : ∀ {k env' hp'}, (match lexecC P hc o.op (valC env) hp with
        | some (v, h) => (match Nat.ble hp.nx h.nx with | true => exOpsC P hc ops rest (putC env o.dst v) h | false => .fail)
        | none => .fail) = RC.go k env' hp' → k = .normal ∧ ((lexec P hd o.op (valOf env.get) hp).bind fun r => Out.ask (Nat.ble hp.nx r.2.nx) (exOps P hd nt ops rest (St.put ⟨env, r.2⟩ o.dst r.1))).run = some ⟨env', hp'⟩ := by
      intro k env' hp' h
      split at h
      · rename_i v h2 hl
        split at h
        · rename_i hb
          obtain ⟨e1, e2⟩ := exOpsC_run hr rest _ _ hd0 h
          rw [valC_eq] at hl
          refine ⟨e1, Out.run_bind (lexecC_run P hr hl) (Out.run_ask hb ?_)⟩
          rw [putC_eq]; exact e2
        · cases h
      · cases h
    have skip : ∀ {k env' hp'}, exOpsC P hc ops rest (putC env o.dst .undef) hp = RC.go k env' hp' → k = .normal ∧ (exOps P hd nt ops rest (St.put ⟨env, hp⟩ o.dst .undef)).run = some ⟨env', hp'⟩ := by
      intro k env' hp' h
      rw [putC_eq]
      exact exOpsC_run hr rest _ _ hd0 h
    have h : (match o.guard with
      | none => (match lexecC P hc o.op (valC env) hp with
        | some (v, h) => (match Nat.ble hp.nx h.nx with | true => exOpsC P hc ops rest (putC env o.dst v) h | false => .fail)
        | none => .fail)
      | some (j, want) => (match (ops[j]?).bind (·.dst) with
        | none => .fail
        | some d => (match env.getC d with
          | some (.d (.bool b)) => (match Bool.rec (motive := fun _ => Bool) (!b) b want with
            | true => (match lexecC P hc o.op (valC env) hp with
              | some (v, h) => (match Nat.ble hp.nx h.nx with | true => exOpsC P hc ops rest (putC env o.dst v) h | false => .fail)
              | none => .fail)
            | false => exOpsC P hc ops rest (putC env o.dst .undef) hp)
          | some .undef => exOpsC P hc ops rest (putC env o.dst .undef) hp
          | _ => .fail))) = RC.go k env' hp' := h
    split at h
    · rename_i hg
      simp only [hg]
      exact step h
    · rename_i j want hg
      simp only [hg]
      split at h
      · cases h
      · rename_i d hd1
        simp only [hd1]
        split at h
        · rename_i b hb
          have hb' : env.get d = some (.d (.bool b)) := (Tr.getC_eq env d).symm.trans hb
          have hfix := St.fix_at (hp := hp) hb
          simp only [hb']
          cases b <;> cases want <;> simp only [Out.run, hfix] <;> first | exact step h | exact skip h
        · rename_i hb
          have hb' : env.get d = some .undef := (Tr.getC_eq env d).symm.trans hb
          simp only [hb']
          exact skip h
        · cases h

/-- The operations of a region that draws its order. -/
noncomputable def exOpsDC (hc : HdC reg.T) (ops : Array Oper) (l : List Oper) : Nat → Tr (V reg.T) → Hp reg.T → List Foot → Option ((Tr (V reg.T) × Hp reg.T) × List Foot) :=
  List.rec (motive := fun _ => Nat → Tr (V reg.T) → Hp reg.T → List Foot → Option ((Tr (V reg.T) × Hp reg.T) × List Foot)) (fun _ env hp tr => some ((env, hp), tr)) (fun o _ ih n env hp tr =>
    let run : Unit → Option ((Tr (V reg.T) × Hp reg.T) × List Foot) := fun _ =>
      (match lookAt o.op (valC env) hp.get with
      | l => (match lexecC P hc o.op (valC env) (partH hp.get hp.nx l) with
        | some (v, h) => (match okPart l h.wr hp.nx h.nx with
          | true => ih (n + 1) (putC env o.dst v) (hp.join h (h.wr ++ List.range' hp.nx (h.nx - hp.nx))) (⟨n, l, h.wr ++ List.range' hp.nx (h.nx - hp.nx), hp.nx, h.nx⟩ :: tr)
          | false => none)
        | none => none))
    let skip : Unit → Option ((Tr (V reg.T) × Hp reg.T) × List Foot) := fun _ => ih (n + 1) (putC env o.dst .undef) hp (⟨n, [], [], hp.nx, hp.nx⟩ :: tr)
    match o.guard with
    | none => run ()
    | some (j, want) => (match (ops[j]?).bind (·.dst) with
      | none => none
      | some d => (match env.getC d with
        | some (.d (.bool b)) => (match Bool.rec (motive := fun _ => Bool) (!b) b want with
          | true => run ()
          | false => skip ())
        | some .undef => skip ()
        | _ => none))) l

theorem exOpsDC_run {hc : HdC reg.T} {hd : Hd reg.T} (hr : HdRel hc hd) {nt : Nat} {ops : Array Oper} : ∀ (l : List Oper) (n : Nat) (env : Tr (V reg.T)) (hp : Hp reg.T) (tr : List Foot) {env' hp' tr'}, dstAll nt l = true → exOpsDC P hc ops l n env hp tr = some ((env', hp'), tr') →
    (exOpsD P hd nt ops l n ⟨env, hp⟩ tr).run = some (⟨env', hp'⟩, tr')
  | [], n, env, hp, tr, env', hp', tr', _, h => by
    have h : some ((env, hp), tr) = some ((env', hp'), tr') := h
    cases h; rfl
  | o :: rest, n, env, hp, tr, env', hp', tr', hd0, h => by
    simp only [dstAll] at hd0
    split at hd0
    case h_2 => cases hd0
    rename_i hdst
    simp only [exOpsD, hdst]
    have step : ∀ {env' hp' tr'}, (match lexecC P hc o.op (valC env) (partH hp.get hp.nx (lookAt o.op (valC env) hp.get)) with
        | some (v, h) => (match okPart (lookAt o.op (valC env) hp.get) h.wr hp.nx h.nx with
          | true => exOpsDC P hc ops rest (n + 1) (putC env o.dst v) (hp.join h (h.wr ++ List.range' hp.nx (h.nx - hp.nx))) (⟨n, lookAt o.op (valC env) hp.get, h.wr ++ List.range' hp.nx (h.nx - hp.nx), hp.nx, h.nx⟩ :: tr)
          | false => none)
        | none => none) = some ((env', hp'), tr') → ((lexec P hd o.op (valOf env.get) (partH hp.get hp.nx (lookAt o.op (valOf env.get) hp.get))).bind fun r =>
          let wr := r.2.wr ++ List.range' hp.nx (r.2.nx - hp.nx)
          Out.ask (okPart (lookAt o.op (valOf env.get) hp.get) r.2.wr hp.nx r.2.nx) (exOpsD P hd nt ops rest (n + 1) (St.put ⟨env, hp.join r.2 wr⟩ o.dst r.1) (⟨n, lookAt o.op (valOf env.get) hp.get, wr, hp.nx, r.2.nx⟩ :: tr))).run = some (⟨env', hp'⟩, tr') := by
      intro env' hp' tr' h
      rw [valC_eq] at h
      split at h
      · rename_i v h2 hl
        split at h
        · rename_i hb
          refine Out.run_bind (lexecC_run P hr hl) (Out.run_ask hb ?_)
          rw [putC_eq]
          exact exOpsDC_run hr rest _ _ _ _ hd0 h
        · cases h
      · cases h
    have skip : ∀ {env' hp' tr'}, exOpsDC P hc ops rest (n + 1) (putC env o.dst .undef) hp (⟨n, [], [], hp.nx, hp.nx⟩ :: tr) = some ((env', hp'), tr') → (exOpsD P hd nt ops rest (n + 1) (St.put ⟨env, hp⟩ o.dst .undef) (⟨n, [], [], hp.nx, hp.nx⟩ :: tr)).run = some (⟨env', hp'⟩, tr') := by
      intro env' hp' tr' h
      rw [putC_eq]
      exact exOpsDC_run hr rest _ _ _ _ hd0 h
    have h : (match o.guard with
      | none => (match lexecC P hc o.op (valC env) (partH hp.get hp.nx (lookAt o.op (valC env) hp.get)) with
        | some (v, h) => (match okPart (lookAt o.op (valC env) hp.get) h.wr hp.nx h.nx with
          | true => exOpsDC P hc ops rest (n + 1) (putC env o.dst v) (hp.join h (h.wr ++ List.range' hp.nx (h.nx - hp.nx))) (⟨n, lookAt o.op (valC env) hp.get, h.wr ++ List.range' hp.nx (h.nx - hp.nx), hp.nx, h.nx⟩ :: tr)
          | false => none)
        | none => none)
      | some (j, want) => (match (ops[j]?).bind (·.dst) with
        | none => none
        | some d => (match env.getC d with
          | some (.d (.bool b)) => (match Bool.rec (motive := fun _ => Bool) (!b) b want with
            | true => (match lexecC P hc o.op (valC env) (partH hp.get hp.nx (lookAt o.op (valC env) hp.get)) with
              | some (v, h) => (match okPart (lookAt o.op (valC env) hp.get) h.wr hp.nx h.nx with
                | true => exOpsDC P hc ops rest (n + 1) (putC env o.dst v) (hp.join h (h.wr ++ List.range' hp.nx (h.nx - hp.nx))) (⟨n, lookAt o.op (valC env) hp.get, h.wr ++ List.range' hp.nx (h.nx - hp.nx), hp.nx, h.nx⟩ :: tr)
                | false => none)
              | none => none)
            | false => exOpsDC P hc ops rest (n + 1) (putC env o.dst .undef) hp (⟨n, [], [], hp.nx, hp.nx⟩ :: tr))
          | some .undef => exOpsDC P hc ops rest (n + 1) (putC env o.dst .undef) hp (⟨n, [], [], hp.nx, hp.nx⟩ :: tr)
          | _ => none))) = some ((env', hp'), tr') := h
    split at h
    · rename_i hg
      simp only [hg]
      exact step h
    · rename_i j want hg
      simp only [hg]
      split at h
      · cases h
      · rename_i d hd1
        simp only [hd1]
        split at h
        · rename_i b hb
          have hb' : env.get d = some (.d (.bool b)) := (Tr.getC_eq env d).symm.trans hb
          have hfix := St.fix_at (hp := hp) hb
          simp only [hb']
          cases b <;> cases want <;> simp only [Out.run, hfix] <;> first | exact step h | exact skip h
        · rename_i hb
          have hb' : env.get d = some .undef := (Tr.getC_eq env d).symm.trans hb
          simp only [hb']
          exact skip h
        · cases h

/-! ### What operations that may change places come to -/
/-- Of an operation and those ahead of it, the next one first: those that it may change places with do not touch its values. -/
def rowL (ops : Array Oper) (o : Oper) (m : Nat) : List Oper → Nat → Bool
  | [], _ => true
  | p :: ps, n => (match m.testBit (Nat.sub n 1) with
    | true => rowL ops o m ps (Nat.sub n 1)
    | false => (match p.apart ops o with | true => rowL ops o m ps (Nat.sub n 1) | false => false))
def statL (ops : Array Oper) : List Oper → List Nat → List Oper → Nat → Bool
  | [], _, _, _ => true
  | _ :: _, [], _, _ => false
  | o :: l, m :: ms, prev, n => (match rowL ops o m prev n with | true => statL ops l ms (o :: prev) (n + 1) | false => false)
theorem rowL_spec {ops : Array Oper} {o : Oper} {m : Nat} : ∀ {prev : List Oper} {n : Nat}, n = prev.length → rowL ops o m prev n = true → ∀ (i : Nat) (p : Oper), prev.reverse[i]? = some p → m.testBit i = false → p.apart ops o = true
  | [], _, _, _, i, p, hp, _ => by simp at hp
  | q :: ps, n, hn, h, i, p, hp, hm => by
    have hn1 : Nat.sub n 1 = ps.length := by rw [hn]; simp
    rw [List.reverse_cons] at hp
    rcases Nat.lt_or_ge i ps.length with hi | hi
    · rw [List.getElem?_append_left (by simpa using hi)] at hp
      simp only [rowL] at h
      split at h
      · exact rowL_spec hn1 h i p hp hm
      · split at h
        · exact rowL_spec hn1 h i p hp hm
        · cases h
    · rw [List.getElem?_append_right (by simpa using hi)] at hp
      have hi2 : i = ps.length := by
        have := (List.getElem?_eq_some_iff.1 hp).1
        simp at this
        omega
      subst hi2
      simp at hp
      subst hp
      simp only [rowL, hn1, hm] at h
      split at h
      · rename_i hq; exact hq
      · cases h
theorem statL_spec {ops : Array Oper} : ∀ {l : List Oper} {ms : List Nat} {prev : List Oper} {n : Nat}, n = prev.length → statL ops l ms prev n = true → ∀ (j : Nat) (o : Oper), l[j]? = some o →
    ∃ m, ms[j]? = some m ∧ ∀ (i : Nat) (p : Oper), (prev.reverse ++ l)[i]? = some p → i < prev.length + j → m.testBit i = false → p.apart ops o = true
  | [], _, _, _, _, _, j, o, hj => by simp at hj
  | _ :: _, [], _, _, _, h, _, _, _ => by simp only [statL, Bool.false_eq_true] at h
  | o0 :: l, m0 :: ms, prev, n, hn, h, j, o, hj => by
    simp only [statL] at h
    split at h
    · rename_i hr
      cases j with
      | zero =>
        simp at hj
        subst hj
        refine ⟨m0, by simp, fun i p hp hi hm => ?_⟩
        rw [List.getElem?_append_left (by simpa using hi)] at hp
        exact rowL_spec hn hr i p hp hm
      | succ j =>
        obtain ⟨m, h1, h2⟩ := statL_spec (prev := o0 :: prev) (n := n + 1) (by simp [hn]) h j o (by simpa using hj)
        refine ⟨m, by simpa using h1, fun i p hp hi hm => h2 i p ?_ (by simp; omega) hm⟩
        rw [List.reverse_cons, List.append_assoc]
        exact hp
    · cases h
def sideOk (ms : List Nat) (a b : Foot) : Bool :=
  match Nat.blt a.at_ b.at_ with
  | true => (match (ms.getD b.at_ 0).testBit a.at_ with | true => true | false => a.apart b)
  | false => (match Nat.blt b.at_ a.at_ with
    | true => (match (ms.getD a.at_ 0).testBit b.at_ with | true => true | false => b.apart a)
    | false => true)
def noW (a : Foot) : Bool := match a.wr with | [] => true | _ :: _ => false
def okTraceF (ops : Array Oper) (tr : List Foot) : Bool :=
  match back ops.toList 0 && statL ops ops.toList (masks ops.toList []) [] 0 with
  | true => (match tr.all fun f => Nat.blt f.at_ ops.size with
    | true => tr.all fun a => (match noW a with | true => true | false => tr.all (sideOk (masks ops.toList []) a))
    | false => false)
  | false => false
theorem noW_apart {a b : Foot} (ha : noW a = true) (hb : noW b = true) : a.apart b = true := by
  unfold noW at ha hb
  split at ha
  · rename_i h1
    split at hb
    · rename_i h2
      simp [Foot.apart, h1, h2, meets]
    · cases hb
  · cases ha
theorem okTraceF_ok {ops : Array Oper} {tr : List Foot} (h : okTraceF ops tr = true) : okTrace ops tr = true := by
  unfold okTraceF at h
  split at h
  · rename_i hb
    obtain ⟨hb, hs⟩ := Bool.and_eq_true_iff.1 hb
    split at h
    · rename_i hl
      unfold okTrace
      simp only [hb, Bool.true_and, List.all_eq_true]
      intro b hbm a ham
      cases hlt : Nat.blt a.at_ b.at_ with
      | false => rfl
      | true =>
        cases ht : ((masks ops.toList []).getD b.at_ 0).testBit a.at_ with
        | true => simp
        | false =>
          have h1 : a.at_ < b.at_ := by simpa using hlt
          have h2 : b.at_ < ops.size := by simpa using List.all_eq_true.1 hl b hbm
          have e2 : ops.toList[b.at_]? = some ops[b.at_] := by simp [h2]
          have e1 : ops.toList[a.at_]? = some (ops[a.at_]'(by omega)) := by simp
          obtain ⟨m, hm, hst⟩ := statL_spec rfl hs b.at_ _ e2
          have hbit : m.testBit a.at_ = false := by simpa [List.getD, hm] using ht
          have hap : (ops[a.at_]'(by omega)).apart ops ops[b.at_] = true := hst a.at_ _ e1 (by simpa using h1) hbit
          have hdy : a.apart b = true := by
            have ha := List.all_eq_true.1 h a ham
            have hb' := List.all_eq_true.1 h b hbm
            cases na : noW a with
            | false =>
              rw [na] at ha
              have := List.all_eq_true.1 ha b hbm
              unfold sideOk at this
              rw [hlt, ht] at this
              exact this
            | true =>
              cases nb : noW b with
              | true => exact noW_apart na nb
              | false =>
                rw [nb] at hb'
                have := List.all_eq_true.1 hb' a ham
                unfold sideOk at this
                have hgt : Nat.blt b.at_ a.at_ = false := by
                  cases hx : Nat.blt b.at_ a.at_ with
                  | false => rfl
                  | true => have : b.at_ < a.at_ := by simpa using hx
                            omega
                rw [hgt, hlt, ht] at this
                exact this
          have e1' : ops[a.at_]? = some (ops[a.at_]'(by omega)) := by simp
          have e2' : ops[b.at_]? = some ops[b.at_] := by simp [h2]
          simp [e1', e2', hap, hdy]
    · cases h
  · cases h

noncomputable def exRegC (hc : HdC reg.T) (nt : Nat) (ops : Array Oper) (draw : Bool) (env : Tr (V reg.T)) (hp : Hp reg.T) : RC reg.T :=
  match dstAll nt ops.toList with
  | false => .fail
  | true => (match draw with
    | false => exOpsC P hc ops ops.toList env hp
    | true => (match exOpsDC P hc ops ops.toList 0 env hp [] with
      | some ((env, hp), tr) => (match okTraceF ops tr with | true => .go .normal env hp | false => .fail)
      | none => .fail))
theorem exRegC_run {hc : HdC reg.T} {hd : Hd reg.T} (hr : HdRel hc hd) {nt : Nat} {ops : Array Oper} {draw : Bool} {env : Tr (V reg.T)} {hp : Hp reg.T} {k env' hp'} (h : exRegC P hc nt ops draw env hp = .go k env' hp') :
    k = .normal ∧ (exReg P hd nt ops draw ⟨env, hp⟩).run = some ⟨env', hp'⟩ := by
  unfold exRegC at h
  split at h
  · cases h
  · rename_i hd0
    cases draw with
    | false => exact exOpsC_run P hr _ _ _ hd0 h
    | true =>
      simp only at h
      split at h
      · rename_i env2 hp2 tr ht
        split at h
        · rename_i hb
          cases h
          exact ⟨rfl, Out.run_bind (exOpsDC_run P hr _ _ _ _ _ hd0 ht) (Out.run_ask (okTraceF_ok hb) rfl)⟩
        · cases h
      · cases h

/-! ### Code -/
noncomputable def loopC {T : Nat → Type} (body : Tr (V T) → Hp T → RC T) : Nat → Tr (V T) → Hp T → RC T
  | 0, _, _ => .fail
  | n + 1, env, hp => (match body env hp with
    | .go k env hp => (match k with | .normal => loopC body n env hp | k => .go k env hp)
    | .fail => .fail)
noncomputable def exC (hc : HdC reg.T) (nt fuel : Nat) : Code → Tr (V reg.T) → Hp reg.T → RC reg.T
  | .skip, env, hp => .go .normal env hp
  | .region _ ops draw, env, hp => exRegC P hc nt ops draw env hp
  | .seq a b, env, hp => (match exC hc nt fuel a env hp with
    | .go k env hp => (match k with | .normal => exC hc nt fuel b env hp | k => .go k env hp)
    | .fail => .fail)
  | .cond c a b, env, hp => (match c with
    | .tmp t => (match env.getC t with
      | some (.d (.bool v)) => (match v with | true => exC hc nt fuel a env hp | false => exC hc nt fuel b env hp)
      | _ => .fail)
    | .const (.bool v) => (match v with | true => exC hc nt fuel a env hp | false => exC hc nt fuel b env hp)
    | _ => .fail)
  | .block id c, env, hp => (match exC hc nt fuel c env hp with
    | .go k env hp => (match k with
      | .exit j => (match Nat.beq j id with | true => .go .normal env hp | false => .go (.exit j) env hp)
      | k => .go k env hp)
    | .fail => .fail)
  | .loop c, env, hp => loopC (exC hc nt fuel c) fuel env hp
  | .exit id, env, hp => .go (.exit id) env hp
  | .ret, env, hp => .go .ret env hp
  | .scope c, env, hp => exC hc nt fuel c env hp
  | .label _, env, hp => .go .normal env hp
  | _, _, _ => .fail

theorem loopC_run {body : Tr (V reg.T) → Hp reg.T → RC reg.T} {b : St reg.T → Out (AExit × St reg.T)} (hb : ∀ env hp {k env' hp'}, body env hp = .go k env' hp' → (b ⟨env, hp⟩).run = some (k, ⟨env', hp'⟩)) :
    ∀ (n : Nat) (env : Tr (V reg.T)) (hp : Hp reg.T) {k env' hp'}, loopC body n env hp = .go k env' hp' → (loopN b n ⟨env, hp⟩).run = some (k, ⟨env', hp'⟩)
  | 0, env, hp, k, env', hp', h => by
    simp only [loopC] at h
    cases h
  | n + 1, env, hp, k, env', hp', h => by
    simp only [loopC] at h
    simp only [loopN]
    split at h
    · rename_i k2 env2 hp2 h2
      refine Out.run_bind (hb _ _ h2) ?_
      cases k2 with
      | normal => exact loopC_run hb n _ _ h
      | exit id => cases h; rfl
      | ret => cases h; rfl
    · cases h

theorem exC_run {hc : HdC reg.T} {hd : Hd reg.T} (hr : HdRel hc hd) {nt fuel : Nat} : ∀ (c : Code) (env : Tr (V reg.T)) (hp : Hp reg.T) {k env' hp'}, exC P hc nt fuel c env hp = .go k env' hp' → (ex P hd nt fuel c ⟨env, hp⟩).run = some (k, ⟨env', hp'⟩) := by
  intro c
  induction c with
  | skip => intro env hp k env' hp' h; cases h; rfl
  | region id ops draw =>
    intro env hp k env' hp' h
    simp only [exC] at h
    obtain ⟨rfl, h2⟩ := exRegC_run P hr h
    simp only [ex]
    exact Out.run_bind h2 rfl
  | seq a b iha ihb =>
    intro env hp k env' hp' h
    simp only [exC] at h
    simp only [ex]
    split at h
    · rename_i k2 env2 hp2 h2
      refine Out.run_bind (iha _ _ h2) ?_
      cases k2 with
      | normal => exact ihb _ _ h
      | exit id => cases h; rfl
      | ret => cases h; rfl
    · cases h
  | cond o a b iha ihb =>
    intro env hp k env' hp' h
    simp only [exC] at h
    simp only [ex]
    split at h
    · rename_i t
      split at h
      · rename_i v hv
        have hv' : env.get t = some (.d (.bool v)) := (Tr.getC_eq env t).symm.trans hv
        cases v with
        | true => simp only [hv', St.fix_at (hp := hp) hv]; exact iha _ _ h
        | false => simp only [hv', St.fix_at (hp := hp) hv]; exact ihb _ _ h
      · cases h
    · rename_i v
      cases v with
      | true => exact iha _ _ h
      | false => exact ihb _ _ h
    · cases h
  | block id c ih =>
    intro env hp k env' hp' h
    simp only [exC] at h
    simp only [ex]
    split at h
    · rename_i k2 env2 hp2 h2
      refine Out.run_bind (ih _ _ h2) ?_
      cases k2 with
      | normal => cases h; rfl
      | exit j =>
        simp only [blockX]
        simp only at h
        cases hb : Nat.beq j id with
        | true => rw [hb] at h; cases h; rfl
        | false => rw [hb] at h; cases h; rfl
      | ret => cases h; rfl
    · cases h
  | loop c ih =>
    intro env hp k env' hp' h
    simp only [exC] at h
    simp only [ex]
    exact loopC_run (fun env hp => ih env hp) _ _ _ h
  | exit id => intro env hp k env' hp' h; cases h; rfl
  | ret => intro env hp k env' hp' h; cases h; rfl
  | scope c ih => intro env hp k env' hp' h; simp only [exC] at h; simp only [ex]; exact ih _ _ h
  | label l => intro env hp k env' hp' h; cases h; rfl
  | rangeFunc f ps c1 c2 _ _ => intro env hp k env' hp' h; cases h
  | goto l => intro env hp k env' hp' h; cases h
  | refuse s => intro env hp k env' hp' h; cases h

/-! ### Functions -/
noncomputable def initEnvC {T : Nat → Type} : List (V T) → Nat → Tr (V T) → Tr (V T)
  | [], _, t => t
  | v :: l, n, t => initEnvC l (n + 1) (t.setC n (some v))
theorem initEnvC_eq {T : Nat → Type} : ∀ (l : List (V T)) (n : Nat) (t : Tr (V T)), initEnvC l n t = initEnv l n t
  | [], _, _ => rfl
  | v :: l, n, t => by simp only [initEnvC, initEnv, Tr.setC_eq]; exact initEnvC_eq l _ _

noncomputable def exFunC (hc : HdC reg.T) (fuel : Nat) (f : FuncId) (args : List (V reg.T)) (h : Hp reg.T) : Option (V reg.T × Hp reg.T) :=
  match P.funcs[f]? with
  | none => none
  | some fn => (match fn.body with
    | none => none
    | some c => (match Nat.ble args.length fn.ntmps && Nat.ble fn.ntmps 1000000 with
      | true => (match exC P hc fn.ntmps fuel c (initEnvC args 0 .e) h with
        | .go k env hp => (match k with
          | .exit _ => none
          | _ => (match retV P fn ⟨env, hp⟩ with | some v => some (v, hp) | none => none))
        | .fail => none)
      | false => none))
theorem exFunC_run {hc : HdC reg.T} {hd : Hd reg.T} (hr : HdRel hc hd) {fuel : Nat} {f : FuncId} {args : List (V reg.T)} {h : Hp reg.T} {r : V reg.T × Hp reg.T} (he : exFunC P hc fuel f args h = some r) : (exFun P hd fuel f args h).run = some r := by
  unfold exFunC at he
  unfold exFun
  split at he
  · cases he
  · rename_i fn hfn
    simp only [hfn]
    split at he
    · cases he
    · rename_i c hc0
      simp only [hc0]
      split at he
      · rename_i hb
        split at he
        · rename_i k env hp hx
          rw [initEnvC_eq] at hx
          refine Out.run_ask hb (Out.run_bind (exC_run P hr c _ _ hx) ?_)
          have fin : ∀ {r : V reg.T × Hp reg.T}, (match retV P fn ⟨env, hp⟩ with | some v => some (v, hp) | none => none) = some r → (oneO (retV P fn ⟨env, hp⟩) hp).run = some r := by
            intro r h
            split at h
            · rename_i v hv; rw [hv]; exact h
            · cases h
          cases k with
          | normal => exact fin he
          | exit id => cases he
          | ret => exact fin he
        · cases he
      · cases he

noncomputable def hdC (C : Con reg.T) (fuel : Nat) (n : Nat) : HdC reg.T :=
  Nat.rec (motive := fun _ => HdC reg.T) (fun f args h => match C f with | some S => (S args h).run | none => none)
    (fun _ ih f args h => match C f with | some S => (S args h).run | none => exFunC P ih fuel f args h) n
theorem hdC_rel (C : Con reg.T) (fuel : Nat) : ∀ n, HdRel (hdC P C fuel n) (hdN P C fuel n)
  | 0, f, a, h, r, he => by
    have he : (match C f with | some S => (S a h).run | none => none) = some r := he
    simp only [hdN]
    split at he
    · rename_i S hS; rw [hS]; exact he
    · cases he
  | n + 1, f, a, h, r, he => by
    have he : (match C f with | some S => (S a h).run | none => exFunC P (hdC P C fuel n) fuel f a h) = some r := he
    simp only [hdN]
    split at he
    · rename_i S hS; rw [hS]; exact he
    · rename_i hS; rw [hS]; exact exFunC_run P (hdC_rel C fuel n) he

end
end Go.W
