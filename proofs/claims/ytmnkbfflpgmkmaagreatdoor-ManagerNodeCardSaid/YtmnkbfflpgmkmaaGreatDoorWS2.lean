/- That operations do to the machine what the evaluator says: numbers and texts. No conditions. -/
import Derived.WalkSpells
import Derived.Test.YtmnkbfflpgmkmaaGreatDoorWS
import Derived.Stop.IfaceNil
namespace Go.W
open Go Go.RowKit

section
variable {reg : Reg} {P : Program}

section inv
variable {F : Nat → Prop} {φ : Phi} {w : World} {cv : Value}
theorem VRel.int_inv {k : IntKind} {n : Int} (h : VRel reg F w φ (.d (.int k n)) cv) : cv = .int k n := by
  cases h with | d _ _ h => cases h with
    | int => rfl
    | emp _ hx => cases hx
    | sl _ _ _ _ _ _ _ hx => cases hx
theorem VRel.bool_inv {b : Bool} (h : VRel reg F w φ (.d (.bool b)) cv) : cv = .bool b := by
  cases h with | d _ _ h => cases h with
    | bool => rfl
    | emp _ hx => cases hx
    | sl _ _ _ _ _ _ _ hx => cases hx
theorem VRel.str_inv {s : List UInt8} (h : VRel reg F w φ (.d (.str s)) cv) : cv = .string ⟨s.toArray⟩ := by
  cases h with | d _ _ h => cases h with
    | str => rfl
    | emp _ hx => cases hx
    | sl _ _ _ _ _ _ _ hx => cases hx
theorem VRel.nilp_inv (h : VRel reg F w φ (.d .nilp) cv) : cv = .pointer none := by
  cases h with | d _ _ h => cases h with
    | nilp => rfl
    | emp _ hx => cases hx
    | sl _ _ _ _ _ _ _ hx => cases hx
theorem VRel.nils_inv (h : VRel reg F w φ (.d .nils) cv) : ∃ base, cv = .slice base 0 0 := by
  cases h with | d _ _ h => cases h with
    | nils => exact ⟨none, rfl⟩
    | emp _ hx => cases hx
    | sl _ _ _ _ _ _ _ hx => cases hx
theorem VRel.nils_is (h : VRel reg F w φ (.d .nils) cv) : cv = .slice none 0 0 := by
  cases h with | d _ _ h => cases h with
    | nils => rfl
    | emp _ hx => cases hx
    | sl _ _ _ _ _ _ _ hx => cases hx
theorem VRel.ptr_inv {i r o : Nat} (h : VRel reg F w φ (.ptr i r o) cv) : ∃ b s k z, φ i = some (b, s, k, z) ∧ cv = .pointer (some ⟨b, s + r * k + o, none⟩) := by
  cases h with | ptr _ _ _ b s k z hp => exact ⟨b, s, k, z, hp, rfl⟩
end inv

theorem run_equalIn_nil_pointer (w : World) (d : Nat) (t e : TypeId) (p : Option Addr) (h : P.underlying t = some (.pointer e)) : (Op.equalIn (d + 1) t (.pointer none) (.pointer p)).run P w = .ok p.isNone w := by
  cases p <;> simp [Op.equalIn, run_underlying h]
theorem run_equalIn_pointer_nil' (w : World) (d : Nat) (t e : TypeId) (p : Option Addr) (h : P.underlying t = some (.pointer e)) : (Op.equalIn (d + 1) t (.pointer p) (.pointer none)).run P w = .ok p.isNone w := by
  cases p <;> simp [Op.equalIn, run_underlying h]
theorem run_cmp_nil (w : World) (t e : TypeId) (p q : Option Addr) (h : P.underlying t = some (.pointer e)) (hn : p = none ∨ q = none) :
    (binOp .eql t (.pointer p) (.pointer q)).run P w = .ok (.bool (p.isNone && q.isNone)) w ∧ (binOp .neq t (.pointer p) (.pointer q)).run P w = .ok (.bool (!(p.isNone && q.isNone))) w := by
  simp only [binOp]
  rcases hn with rfl | rfl
  · simp [Op.equal, Op.maxDepth, run_equalIn_nil_pointer w 9999 t e q h]
  · simp [Op.equal, Op.maxDepth, run_equalIn_pointer_nil' w 9999 t e p h]

/-- An operation that comes to data, whatever the world. -/
def DOk (P : Program) (s : World → Sem Value) (Q : D reg.T → Prop) : Prop := ∃ (d : D reg.T) (cv : Value), Q d ∧ (∀ F w, DRel reg F w d cv) ∧ ∀ w, (s w).run P w = .ok cv w

theorem intBin_ok {op : BinOp} {t : TypeId} {k : IntKind} {a b : Int} {Q : D reg.T → Prop} (hs : isShift op = false) (hq : (intBin op k a b).K Q) : DOk P (fun _ => binOp op t (.int k a) (.int k b)) Q := by
  cases op <;> simp only [intBin, Out.K, must_iff] at hq <;> (try simp only [isShift] at hs) <;> (try exact hq.elim)
  case add => exact ⟨_, _, hq, fun _ _ => .int _ _, fun w => by rw [binOp_add]; rfl⟩
  case sub => exact ⟨_, _, hq, fun _ _ => .int _ _, fun w => by rw [binOp_sub]; rfl⟩
  case mul => exact ⟨_, _, hq, fun _ _ => .int _ _, fun w => by rw [binOp_mul]; rfl⟩
  case quo =>
    have h0 : b ≠ 0 := by simpa using hq.1
    exact ⟨_, _, hq.2, fun _ _ => .int _ _, fun w => by rw [binOp_quo]; simp [Op.intDiv, h0]⟩
  case rem =>
    have h0 : b ≠ 0 := by simpa using hq.1
    exact ⟨_, _, hq.2, fun _ _ => .int _ _, fun w => by rw [binOp_rem]; simp [Op.intDiv, h0]⟩
  case eql => exact ⟨_, _, hq, fun _ _ => .bool _, fun w => by rw [binOp_eql]; rfl⟩
  case neq => exact ⟨_, _, hq, fun _ _ => .bool _, fun w => by rw [binOp_neq]; rfl⟩
  case lss => exact ⟨_, _, hq, fun _ _ => .bool _, fun w => by rw [binOp_lss]; rfl⟩
  case leq => exact ⟨_, _, hq, fun _ _ => .bool _, fun w => by rw [binOp_leq]; rfl⟩
  case gtr => exact ⟨_, _, hq, fun _ _ => .bool _, fun w => by rw [binOp_gtr]; rfl⟩
  case geq => exact ⟨_, _, hq, fun _ _ => .bool _, fun w => by rw [binOp_geq]; rfl⟩
  all_goals exact ⟨_, _, hq, fun _ _ => .int _ _, fun w => by simp [binOp, Op.intBits]⟩

theorem shiftBin_ok {op : BinOp} {t : TypeId} {k k' : IntKind} {a b : Int} {Q : D reg.T → Prop} (hs : isShift op = true) (hq : (shiftBin op k a b).K Q) : DOk P (fun _ => binOp op t (.int k a) (.int k' b)) Q := by
  cases op <;> simp only [isShift, Bool.false_eq_true] at hs <;> simp only [shiftBin, Out.K, must_iff, decide_eq_true_eq] at hq <;> have h0 : ¬ b < 0 := by omega
  case shl => exact ⟨_, _, hq.2, fun _ _ => .int _ _, fun w => by simp [binOp, Op.shift, h0]⟩
  case shr => exact ⟨_, _, hq.2, fun _ _ => .int _ _, fun w => by simp [binOp, Op.shift, h0]⟩

theorem strBin_ok {op : BinOp} {t : TypeId} {a b : List UInt8} {Q : D reg.T → Prop} (hq : (strBin op a b).K Q) : DOk P (fun _ => binOp op t (.string ⟨a.toArray⟩) (.string ⟨b.toArray⟩)) Q := by
  have sz : ∀ l : List UInt8, (ByteArray.mk l.toArray).size = l.length := fun l => by simp [ByteArray.size]
  cases op <;> simp only [strBin, Out.K, must_iff] at hq <;> (try exact hq.elim)
  case add =>
    have h1 : a.length + b.length ≤ 9223372036854775807 := Nat.le_of_ble_eq_true hq.1
    have h2 : ¬ (9223372036854775807 < ((a.length : Int) + (b.length : Int))) := by omega
    refine ⟨_, .string ⟨(a ++ b).toArray⟩, hq.2, fun _ _ => .str _, fun w => ?_⟩
    have e : (ByteArray.mk a.toArray ++ ByteArray.mk b.toArray) = ByteArray.mk (a ++ b).toArray := by
      apply ByteArray.ext
      rw [ByteArray.data_append]
      simp
    simp [binOp, Op.stringOp, sz, h2, e]
  all_goals exact ⟨_, _, hq, fun _ _ => .bool _, fun w => by simp [binOp, Op.stringOp]⟩

theorem binD_ok {lit : Bool} {op : BinOp} {t : TypeId} {x y : V reg.T} {cx cy : Value} {Q : D reg.T → Prop} {F : Nat → Prop} {φ : Phi} {w : World} (hq : (binD P lit op t x y).K Q) (hx : VRel reg F w φ x cx) (hy : VRel reg F w φ y cy)
    (ox oy : Operand) (hlit : lit = (isLit ox || isLit oy)) : DOk P (fun _ => do eqGuard op t ox oy cx cy; binOp op t cx cy) Q := by
  have g : ∀ {u v : Value} {Q : D reg.T → Prop}, (match u with | .nilIface | .agg _ => false | _ => true) = true → DOk P (fun _ => binOp op t u v) Q → DOk P (fun _ => do eqGuard op t ox oy u v; binOp op t u v) Q := by
    rintro u v Q hu ⟨d, cv, h1, h2, h3⟩
    exact ⟨d, cv, h1, h2, fun w => by simp only [Sem.run_bind, eqGuard_run hu, Result.andThen_ok]; exact h3 w⟩
  unfold binD at hq
  split at hq
  · rename_i k a k' b
    rw [hx.int_inv, hy.int_inv]
    split at hq
    · rename_i hs; exact g rfl (shiftBin_ok hs hq)
    · rename_i hs
      split at hq
      · rename_i hk
        rw [← sameKind_eq hk]
        exact g rfl (intBin_ok hs hq)
      · exact hq.elim
  · rename_i a b
    rw [hx.bool_inv, hy.bool_inv]
    split at hq
    · rename_i hb
      exact g rfl ⟨_, .bool (a == b), hq, fun _ _ => .bool _, fun w => run_eql_bool w t a b (boolT_eq hb)⟩
    · rename_i hb
      exact g rfl ⟨_, .bool (!(a == b)), hq, fun _ _ => .bool _, fun w => run_neq_bool w t a b (boolT_eq hb)⟩
    · exact hq.elim
  · rename_i a b
    rw [hx.str_inv, hy.str_inv]
    exact g rfl (strBin_ok hq)
  · rw [hx.nilp_inv, hy.nilp_inv]
    split at hq
    · rename_i hp
      obtain ⟨e, hp⟩ := isPtrT_eq hp
      exact g rfl ⟨_, .bool true, hq, fun _ _ => .bool _, fun w => (run_cmp_nil w t e none none hp (.inl rfl)).1⟩
    · rename_i hp
      obtain ⟨e, hp⟩ := isPtrT_eq hp
      exact g rfl ⟨_, .bool false, hq, fun _ _ => .bool _, fun w => (run_cmp_nil w t e none none hp (.inl rfl)).2⟩
    · exact hq.elim
  · obtain ⟨b, s, k, z, _, rfl⟩ := hx.ptr_inv
    rw [hy.nilp_inv]
    split at hq
    · rename_i hp
      obtain ⟨e, hp⟩ := isPtrT_eq hp
      exact g rfl ⟨_, .bool false, hq, fun _ _ => .bool _, fun w => (run_cmp_nil w t e (some _) none hp (.inr rfl)).1⟩
    · rename_i hp
      obtain ⟨e, hp⟩ := isPtrT_eq hp
      exact g rfl ⟨_, .bool true, hq, fun _ _ => .bool _, fun w => (run_cmp_nil w t e (some _) none hp (.inr rfl)).2⟩
    · exact hq.elim
  · obtain ⟨b, s, k, z, _, rfl⟩ := hy.ptr_inv
    rw [hx.nilp_inv]
    split at hq
    · rename_i hp
      obtain ⟨e, hp⟩ := isPtrT_eq hp
      exact g rfl ⟨_, .bool false, hq, fun _ _ => .bool _, fun w => (run_cmp_nil w t e none (some _) hp (.inl rfl)).1⟩
    · rename_i hp
      obtain ⟨e, hp⟩ := isPtrT_eq hp
      exact g rfl ⟨_, .bool true, hq, fun _ _ => .bool _, fun w => (run_cmp_nil w t e none (some _) hp (.inl rfl)).2⟩
    · exact hq.elim
  · have hcx : cx = .nilIface := by
      cases hx with | d _ _ hd => cases hd <;> first | rfl | (rename_i h1 h2; cases h2; done) | (rename_i h1 h2 _ _ _; cases h2)
    have hcy : cy = .nilIface := by
      cases hy with | d _ _ hd => cases hd <;> first | rfl | (rename_i h1 h2; cases h2; done) | (rename_i h1 h2 _ _ _; cases h2)
    subst hcx hcy
    have hi : ifcT P t = true → P.isIface t = true := fun h => by
      unfold ifcT at h
      split at h
      · rename_i ms hu; simp [Program.isIface, hu]
      · cases h
    have hg : ∀ (w : World), (isLit ox || isLit oy) = true → (eqGuard op t ox oy .nilIface .nilIface).run P w = .ok () w := fun w hl => by
      cases op <;> cases ox <;> cases oy <;> first | rfl | (cases hl; done)
    split at hq
    · rename_i hp
      simp only [Bool.and_eq_true] at hp
      rw [hlit] at hp
      exact ⟨_, .bool true, hq, fun _ _ => .bool _, fun w => by simp only [Sem.run_bind, hg w hp.1, Result.andThen_ok]; exact run_eql_nil_nil_at w t (hi hp.2)⟩
    · rename_i hp
      simp only [Bool.and_eq_true] at hp
      rw [hlit] at hp
      exact ⟨_, .bool false, hq, fun _ _ => .bool _, fun w => by simp only [Sem.run_bind, hg w hp.1, Result.andThen_ok]; exact run_neq_nil_nil_at w t (hi hp.2)⟩
    · exact hq.elim
  · exact hq.elim

theorem nilD_ok {op : BinOp} {t : TypeId} {x : V reg.T} {cx : Value} {Q : D reg.T → Prop} {F : Nat → Prop} {φ : Phi} {w : World} (hq : (nilD P op t x).K Q) (hx : VRel reg F w φ x cx)
    (ox oy : Operand) : DOk P (fun _ => do eqGuard op t ox oy cx (.slice none 0 0); binOp op t cx (.slice none 0 0)) Q := by
  have key : ∀ {e : TypeId} {a : Addr} {n c : Nat}, sliceT P t = some e → cx = .slice (some a) n c → (op = .eql → Q (.bool false)) → (op = .neq → Q (.bool true)) → (op = .eql ∨ op = .neq) →
      DOk P (fun _ => do eqGuard op t ox oy cx (.slice none 0 0); binOp op t cx (.slice none 0 0)) Q := by
    intro e a n c ht hc h1 h2 h3
    have hu : P.underlying t = some (.slice e) := by
      unfold sliceT at ht
      split at ht
      · rename_i e' hu; cases ht; exact hu
      · cases ht
    subst hc
    rcases h3 with rfl | rfl
    · exact ⟨_, .bool false, h1 rfl, fun _ _ => .bool _, fun w => by simp only [Sem.run_bind, eqGuard_run (u := .slice (some a) n c) rfl, Result.andThen_ok]; exact Lib.run_eql_slice_nil w t e (some a) n c 0 0 hu⟩
    · exact ⟨_, .bool true, h2 rfl, fun _ _ => .bool _, fun w => by simp only [Sem.run_bind, eqGuard_run (u := .slice (some a) n c) rfl, Result.andThen_ok]; exact run_neq_slice_nil_any w t e (some a) n c 0 0 hu⟩
  have hsl : ∀ {i off len : Nat} {cap : Cap}, x = .sl i off len cap → capPos cap len = true → ∃ a n c, cx = .slice (some a) n c := by
    rintro i off len cap rfl h0
    cases hx with
    | sl => exact ⟨_, _, _, rfl⟩
    | slz _ _ _ base hc hb =>
      cases base with
      | some a => exact ⟨a, _, _, rfl⟩
      | none =>
        have hb := hb rfl
        cases cap with
        | exact c => cases hb
        | least c =>
          have hc : c ≤ 0 := hc
          have : c = 0 := by omega
          subst this
          cases h0
  have hnil : ∀ {e : TypeId}, sliceT P t = some e → x = .d .nils → (op = .eql → Q (.bool true)) → (op = .neq → Q (.bool false)) → (op = .eql ∨ op = .neq) →
      DOk P (fun _ => do eqGuard op t ox oy cx (.slice none 0 0); binOp op t cx (.slice none 0 0)) Q := by
    intro e ht hx' h1 h2 h3
    subst hx'
    have hu : P.underlying t = some (.slice e) := by
      unfold sliceT at ht
      split at ht
      · rename_i e' hu; cases ht; exact hu
      · cases ht
    rw [hx.nils_is]
    rcases h3 with rfl | rfl
    · exact ⟨_, .bool true, h1 rfl, fun _ _ => .bool _, fun w => by simp only [Sem.run_bind, eqGuard_run (u := .slice none 0 0) rfl, Result.andThen_ok]; exact Lib.run_eql_slice_nil w t e none 0 0 0 0 hu⟩
    · exact ⟨_, .bool false, h2 rfl, fun _ _ => .bool _, fun w => by simp only [Sem.run_bind, eqGuard_run (u := .slice none 0 0) rfl, Result.andThen_ok]; exact run_neq_slice_nil_any w t e none 0 0 0 0 hu⟩
  have hd : ∀ {e : Nat} {xs : List (reg.T e)}, x = .d (.sl e xs) → Nat.blt 0 xs.length = true → ∃ a n c, cx = .slice (some a) n c := by
    rintro e xs rfl h0
    cases hx with
    | d _ _ hd =>
      cases hd with
      | emp _ _ hl =>
        have : xs.length = 0 := Option.some.inj hl
        rw [this] at h0; cases h0
      | sl => exact ⟨_, _, _, rfl⟩
  unfold nilD at hq
  split at hq
  · rename_i ht
    simp only [Out.K, must_iff] at hq
    obtain ⟨a, n, c, hc⟩ := hsl rfl hq.1
    exact key ht hc (fun _ => hq.2) (fun h => by cases h) (.inl rfl)
  · rename_i ht
    simp only [Out.K, must_iff] at hq
    obtain ⟨a, n, c, hc⟩ := hsl rfl hq.1
    exact key ht hc (fun h => by cases h) (fun _ => hq.2) (.inr rfl)
  · rename_i ht
    simp only [Out.K, must_iff] at hq
    obtain ⟨a, n, c, hc⟩ := hd rfl hq.1
    exact key ht hc (fun _ => hq.2) (fun h => by cases h) (.inl rfl)
  · rename_i ht
    simp only [Out.K, must_iff] at hq
    obtain ⟨a, n, c, hc⟩ := hd rfl hq.1
    exact key ht hc (fun h => by cases h) (fun _ => hq.2) (.inr rfl)
  · rename_i ht
    exact hnil ht rfl (fun _ => hq) (fun h => by cases h) (.inl rfl)
  · rename_i ht
    exact hnil ht rfl (fun h => by cases h) (fun _ => hq) (.inr rfl)
  · exact hq.elim

theorem unD_ok {op : UnOp} {x : V reg.T} {cx : Value} {Q : D reg.T → Prop} {F : Nat → Prop} {φ : Phi} {w : World} (hq : (unD op x).K Q) (hx : VRel reg F w φ x cx) : DOk P (fun _ => Op.unary op cx) Q := by
  unfold unD at hq
  split at hq
  · rw [hx.bool_inv]; exact ⟨_, _, hq, fun _ _ => .bool _, fun w => by simp [Op.unary]⟩
  · rw [hx.int_inv]; exact ⟨_, _, hq, fun _ _ => .int _ _, fun w => by simp [Op.unary, Op.intArith]⟩
  · rw [hx.int_inv]; exact ⟨_, _, hq, fun _ _ => .int _ _, fun w => by simp [Op.unary, Op.intBits]⟩
  · exact hq.elim
end
end Go.W
