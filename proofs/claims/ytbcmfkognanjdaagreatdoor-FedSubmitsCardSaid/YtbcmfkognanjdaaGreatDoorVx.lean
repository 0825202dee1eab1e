/- Ranges over maps, carried out quicker: what comes out is the same. No conditions. -/
import Derived.Test.YtbcmfkognanjdaaGreatDoorVj
namespace Go.W
open Go Go.RowKit
/-- What one run says the other one says. -/
def Le {α : Type} (a b : Out α) : Prop := ∀ Q : α → Prop, a.K Q → b.K Q
theorem Le.refl {α : Type} (a : Out α) : Le a a := fun _ h => h
theorem Le.bad {α : Type} (b : Out α) : Le .bad b := fun _ h => h.elim
theorem Le.bind {α β : Type} {a b : Out α} {f g : α → Out β} (h : Le a b) (k : ∀ x, Le (f x) (g x)) : Le (a.bind f) (b.bind g) := fun Q hq => by
  rw [Out.K_bind] at hq ⊢
  obtain ⟨x, h1, h2⟩ := (Out.K_iff _ _).1 (h _ hq)
  exact (Out.K_iff _ _).2 ⟨x, h1, k x Q h2⟩
section
variable {reg : Reg} (P : Program)
noncomputable def exQ (hc : HdC reg.T) (nt fuel : Nat) (c : Code) (st : St reg.T) : Out (AExit × St reg.T) := match exF P hc nt fuel c st.env st.hp with
  | .go k env hp => .ret (k, ⟨env, hp⟩)
  | .fail => .bad
theorem exQ_le {hc : HdC reg.T} {hd : Hd reg.T} (hr : HdRel hc hd) (nt fuel : Nat) (c : Code) (st : St reg.T) : Le (exQ P hc nt fuel c st) (ex P hd nt fuel c st) := by
  unfold exQ
  cases h : exF P hc nt fuel c st.env st.hp with
  | fail => exact Le.bad _
  | go k env hp =>
    rw [exF_eq] at h
    intro Q hq
    exact Out.run_K (exC_run P hr c _ _ h) hq
noncomputable def exOpsQ (hc : HdC reg.T) (nt : Nat) (ops : Array Oper) (l : List Oper) (st : St reg.T) : Out (St reg.T) := match dstAll nt l, exOpsF P hc ops l st.env st.hp with
  | true, .go _ env hp => .ret ⟨env, hp⟩
  | _, _ => .bad
theorem exOpsQ_le {hc : HdC reg.T} {hd : Hd reg.T} (hr : HdRel hc hd) (nt : Nat) (ops : Array Oper) (l : List Oper) (st : St reg.T) : Le (exOpsQ P hc nt ops l st) (exOps P hd nt ops l st) := by
  unfold exOpsQ
  cases hn : dstAll nt l with
  | false => exact Le.bad _
  | true =>
    cases h : exOpsF P hc ops l st.env st.hp with
    | fail => exact Le.bad _
    | go k env hp =>
      rw [exOpsF_eq] at h
      intro Q hq
      exact Out.run_K (exOpsC_run P hr l _ _ hn h).2 hq
noncomputable def exFstQ (hc : HdC reg.T) (nt fuel : Nat) (v : V reg.T) (h' : Hp reg.T) : Code → St reg.T → Out (AExit × St reg.T)
  | .seq a b, st => (exFstQ hc nt fuel v h' a st).bind (thenX (exQ P hc nt fuel b))
  | .region _ ops false, st => (match ops.toList with
    | o :: rest => (match dstOk nt o.dst with
      | true => (exOpsQ P hc nt ops rest (St.put ⟨st.env, h'⟩ o.dst v)).bind fun st => .ret (.normal, st)
      | false => .bad)
    | [] => .bad)
  | _, _ => .bad
theorem thenX_le {f g : St reg.T → Out (AExit × St reg.T)} (h : ∀ st, Le (f st) (g st)) (r : AExit × St reg.T) : Le (thenX f r) (thenX g r) := by
  obtain ⟨e, st⟩ := r
  cases e with
  | normal => exact h st
  | exit id => exact Le.refl _
  | ret => exact Le.refl _
theorem exFstQ_le {hc : HdC reg.T} {hd : Hd reg.T} (hr : HdRel hc hd) (nt fuel : Nat) (v : V reg.T) (h' : Hp reg.T) : ∀ (c : Code) (st : St reg.T), Le (exFstQ P hc nt fuel v h' c st) (exFst P hd nt fuel v h' c st) := by
  intro c
  induction c
  case seq a b iha ihb => intro st; exact (iha st).bind (thenX_le fun st => exQ_le P hr nt fuel b st)
  case region id ops draw =>
    intro st
    cases draw with
    | true => exact Le.refl _
    | false =>
      simp only [exFstQ, exFst]
      cases ops.toList with
      | nil => exact Le.refl _
      | cons o rest =>
        simp only []
        cases dstOk nt o.dst with
        | false => exact Le.refl _
        | true => exact (exOpsQ_le P hr nt ops rest _).bind fun _ => Le.refl _
  all_goals (intro st; exact Le.bad _)
theorem joinAll_le {T : Nat → Type} {β : Type} {b : Hp T} {f g : β → Out (AExit × St T)} (h : ∀ e, Le (f e) (g e)) : ∀ l : List β, Le (joinAll b f l) (joinAll b g l)
  | [] => Le.refl _
  | [e] => h e
  | e :: e2 :: es => (h e).bind fun _ => (joinAll_le h (e2 :: es)).bind fun _ => Le.refl _
theorem onM_le {T : Nat → Type} {f g : St T → Out (AExit × St T)} (h : ∀ st, Le (f st) (g st)) (r : AExit × St T) : Le (onM f r) (onM g r) := by
  obtain ⟨e, st⟩ := r
  cases e with
  | normal => exact h st
  | exit id => exact Le.refl _
  | ret => exact Le.refl _
noncomputable def loopMQ (hc : HdC reg.T) (nt fuel : Nat) (c : Code) (t : Tmp) : Nat → St reg.T → Out (AExit × St reg.T)
  | 0, _ => .bad
  | n + 1, st => (match leftM st t with
    | none => .bad
    | some lf => (match lf.es with
      | [] => (exQ P hc nt fuel c st).bind ended
      | e :: es => (joinAll (anew st).hp (fun e => (exFstQ P hc nt fuel (tupM e) (stepM (anew st).hp lf e) c (anew st)).bind (onM (loopMQ hc nt fuel c t n))) (e :: es)).bind fun r => .ret (addWr st.hp.wr r)))
theorem loopMQ_le {hc : HdC reg.T} {hd : Hd reg.T} (hr : HdRel hc hd) (nt fuel : Nat) (c : Code) (t : Tmp) : ∀ n st, Le (loopMQ P hc nt fuel c t n st) (loopM P hd nt fuel c t n st)
  | 0, _ => Le.refl _
  | n + 1, st => by
    simp only [loopMQ, loopM]
    cases leftM st t with
    | none => exact Le.refl _
    | some lf =>
      obtain ⟨i, j, since, seen, c2, es⟩ := lf
      cases es with
      | nil => exact (exQ_le P hr nt fuel c st).bind fun _ => Le.refl _
      | cons e es => exact (joinAll_le (fun e => (exFstQ_le P hr nt fuel _ _ c _).bind (onM_le (loopMQ_le hr nt fuel c t n))) (e :: es)).bind fun _ => Le.refl _
noncomputable def exLQ (hc : HdC reg.T) (nt fuel : Nat) (c : Code) (st : St reg.T) : Out (AExit × St reg.T) := match c with
  | .loop c => (match manyM st c with
    | some t => loopMQ P hc nt fuel c t fuel st
    | none => exQ P hc nt fuel (.loop c) st)
  | c => exQ P hc nt fuel c st
theorem exLQ_le {hc : HdC reg.T} {hd : Hd reg.T} (hr : HdRel hc hd) (nt fuel : Nat) (c : Code) (st : St reg.T) : Le (exLQ P hc nt fuel c st) (exL P hd nt fuel c st) := by
  cases c
  case loop c =>
    simp only [exLQ, exL]
    cases manyM st c with
    | none => exact exQ_le P hr nt fuel _ st
    | some t => exact loopMQ_le P hr nt fuel c t fuel st
  all_goals (simp only [exLQ, exL]; exact exQ_le P hr nt fuel _ st)
noncomputable def exIQ (hc : HdC reg.T) (nt fuel : Nat) : Code → St reg.T → Out (AExit × St reg.T)
  | .seq a b, st => (exIQ hc nt fuel a st).bind (thenX (exIQ hc nt fuel b))
  | .block id c, st => (exIQ hc nt fuel c st).bind (blockX id)
  | .rangeFunc _ _ _ _, _ => .bad
  | c, st => exLQ P hc nt fuel c st
theorem exIQ_le {hc : HdC reg.T} {hd : Hd reg.T} (hr : HdRel hc hd) (nt fuel : Nat) : ∀ (c : Code) (st : St reg.T), Le (exIQ P hc nt fuel c st) (exI P hd nt fuel c st) := by
  intro c
  induction c
  case seq a b iha ihb => intro st; exact (iha st).bind (thenX_le ihb)
  case block id c ih => intro st; exact (ih st).bind fun _ => Le.refl _
  case rangeFunc => intro st; exact Le.bad _
  all_goals (intro st; simp only [exIQ, exI]; exact exLQ_le P hr nt fuel _ st)
noncomputable def exFunQ (hc : HdC reg.T) (fuel : Nat) (f : FuncId) (args : List (V reg.T)) (h : Hp reg.T) : Out (V reg.T × Hp reg.T) :=
  match P.funcs[f]? with
  | none => .bad
  | some fn => (match fn.body with
    | none => .bad
    | some c => Out.ask (Nat.ble args.length fn.ntmps && Nat.ble fn.ntmps 1000000) ((exIQ P hc fn.ntmps fuel c ⟨initEnv args 0 .e, h⟩).bind (finX P fn)))
theorem exFunQ_le {hc : HdC reg.T} {hd : Hd reg.T} (hr : HdRel hc hd) (fuel : Nat) (f : FuncId) (args : List (V reg.T)) (h : Hp reg.T) : Le (exFunQ P hc fuel f args h) (exFunI P hd fuel f args h) := by
  unfold exFunQ exFunI
  cases P.funcs[f]? with
  | none => exact Le.refl _
  | some fn =>
    simp only
    cases fn.body with
    | none => exact Le.refl _
    | some c =>
      intro Q hq
      have hq := Out.K_ask.1 hq
      exact Out.K_ask.2 ⟨hq.1, ((exIQ_le P hr fn.ntmps fuel c _).bind fun _ => Le.refl _) Q hq.2⟩
end
end Go.W
