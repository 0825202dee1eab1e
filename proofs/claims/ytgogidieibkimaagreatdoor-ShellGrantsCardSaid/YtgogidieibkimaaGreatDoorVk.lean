/- strings.Join, as a call that W carries out: where its contract holds. No conditions. -/
import Derived.Lib.Join
import Derived.Below
import Derived.Test.YtgogidieibkimaaGreatDoorVj
namespace Go.W
open Go Go.RowKit
/-- Join's contract, at a program's function. -/
def JoinAt (P : Program) (f : FuncId) : Prop := ∀ (bk o c : Nat) (xs : List ByteArray) (sep : ByteArray) (w : World),
  (∀ (j : Nat) x, xs[j]? = some x → w.cell? ⟨bk, o + j, none⟩ = some (.string x)) → bk < w.heap.size → xs.length ≤ 140737488355328 → xs.length ≤ c →
  (Lib.join (xs.map (·.data.toList)) sep.data.toList).length ≤ 140737488355328 →
  Calls P f #[.slice (some ⟨bk, o, none⟩) xs.length c, .string sep] w fun e w' => e = .returned (.string ⟨(Lib.join (xs.map (·.data.toList)) sep.data.toList).toArray⟩) ∧ Below w.heap.size w w'
section
variable {reg : Reg}
/-- New blocks behind the others. -/
theorem HRel.more {N F : Nat → Prop} {φ : Phi} {h : Hp reg.T} {w w' : World} (hH : HR N F φ h w) (hs : w.heap.size ≤ w'.heap.size) (hold : ∀ b, b < w.heap.size → w'.heap[b]? = w.heap[b]?) : HR N F φ h w' := by
  have hm : ∀ b, F b → F b ∧ w'.heap[b]? = w.heap[b]? := fun b hb => ⟨hb, hold b (hH.frz b hb)⟩
  exact ⟨fun i o ho => (hH.obj i o ho).mono reg hm (fun _ _ h => h) (fun h => h) (fun b s k hp => hold b (hH.own i o b s k ho hp).2), fun i o b s k ho hp => ⟨(hH.own i o b s k ho hp).1, Nat.lt_of_lt_of_le (hH.own i o b s k ho hp).2 hs⟩, hH.inj, hH.dom, hH.lt, hH.ok, fun b hb => Nat.lt_of_lt_of_le (hH.frz b hb) hs, hH.lay.mono reg hm⟩
theorem GO.more {N F : Nat → Prop} {φ : Phi} {h : Hp reg.T} {w w' : World} (hH : HR N F φ h w) (hb : Below w.heap.size w w') : GO N F φ h w N F φ h w' :=
  ⟨⟨hb.os, hb.tape, hb.output, hb.size, fun b hb' _ => hb.block b hb', fun _ h => h, fun _ h => .inl h, fun _ _ => rfl, fun _ h => h, fun _ h => .inl h, fun i p hp => .inl (hH.dom i p hp)⟩, Grow.refl h, fun _ hi => .inl hi⟩
/-- Rows of one text each. -/
def strsV : List (List (V reg.T)) → Option (List (List UInt8))
  | [] => some []
  | [.d (.str s)] :: l => (match strsV l with | some r => some (s :: r) | none => none)
  | _ :: _ => none
theorem strsV_get : ∀ {xs : List (List (V reg.T))} {l : List (List UInt8)}, strsV xs = some l → ∀ (j : Nat) s, l[j]? = some s → xs[j]? = some [.d (.str s)] := by
  intro xs
  induction xs with
  | nil => intro l h j s hj; cases h; simp at hj
  | cons x xs ih =>
    intro l h j s hj
    unfold strsV at h
    split at h
    · rename_i e; cases e
    · rename_i s' l' e
      cases e
      split at h
      · rename_i r hr
        cases h
        cases j with
        | zero => simp only [List.getElem?_cons_zero, Option.some.injEq] at hj ⊢; rw [hj]
        | succ j => simp only [List.getElem?_cons_succ] at hj ⊢; exact ih hr j s hj
      · cases h
    · cases h
/-- Join of a slice that is owned, or of one that is nil. -/
def uJoin : List (V reg.T) → Hp reg.T → Out (V reg.T × Hp reg.T) := fun args h => match args with
  | [.sl i off n _, .d (.str s)] => (match h.get i with
    | some (.rows 1 xs) => (match strsV ((xs.drop off).take n) with
      | some l => .need (Nat.ble 1 n && Nat.beq l.length n && Nat.ble n 100000 && Nat.ble (Lib.join l s).length 100000000) (.ret (.d (.str (Lib.join l s)), h))
      | none => .bad)
    | _ => .bad)
  | _ => .bad
theorem join_ok {P : Program} {f : FuncId} (hJ : JoinAt P f) (ht : There P f) (args : List (V reg.T)) (h : Hp reg.T) (Q : V reg.T × Hp reg.T → Prop) (hq : (uJoin args h).K Q) :
    There P f ∧ ∀ N F φ w cargs, (∀ r, Q r → Fresh N h.nx r.2.nx) → HR N F φ h w → LRel F w φ args cargs → Calls P f cargs w (CallPost N F φ h w Q) := by
  unfold uJoin at hq
  split at hq
  · rename_i i off n cap s
    split at hq
    · rename_i xs hi
      split at hq
      · rename_i l hl
        obtain ⟨hb, hq⟩ := Out.K_need.1 hq
        simp only [Bool.and_eq_true] at hb
        obtain ⟨⟨⟨b1, b2⟩, b3⟩, b4⟩ := hb
        have b1 := Nat.le_of_ble_eq_true b1
        have b2 := Nat.eq_of_beq_eq_true b2
        have b3 := Nat.le_of_ble_eq_true b3
        have b4 := Nat.le_of_ble_eq_true b4
        refine ⟨ht, fun N F φ w cargs _ hH hr => ?_⟩
        obtain ⟨hsz, hrel⟩ := hr
        have hsz : cargs.size = 2 := hsz.symm
        have h0 := hrel 0 (by simp)
        have h1 := hrel 1 (by simp)
        have hc : cargs = #[cargs.getD 0 undef, cargs.getD 1 undef] := by
          apply Array.ext
          · simpa using hsz
          · intro j h2 h3
            have h4 : j < 2 := by simpa using h3
            match j, h4 with
            | 0, _ => simp [hsz]
            | 1, _ => simp [hsz]
        have e1 : cargs.getD 1 undef = .string ⟨s.toArray⟩ := h1.str_inv
        have h0 : VRel reg F w φ (.sl i off n cap) (cargs.getD 0 undef) := h0
        generalize cargs.getD 0 undef = c0 at h0 hc
        rw [e1] at hc
        subst hc
        cases h0 with
        | slz _ _ _ base _ _ => omega
        | sl _ _ _ _ b st k z cap' hp hcp hlc hm hz =>
          obtain ⟨hrows, hcase⟩ := (hH.obj i _ hi).rows reg rfl
          rcases hcase with ⟨_, hn⟩ | ⟨b', st', C, t, fz, hp', hbk, hfr, hat⟩
          · rw [hn] at hp; cases hp
          · have e : some (b, st, k, z) = some (b', st', O.k reg (.rows 1 xs), C.size) := hp.symm.trans hp'
            cases e
            have hbs := (hH.own i _ b st _ hi hp).2
            have cells : ∀ (j : Nat) x, (l.map fun x => (⟨x.toArray⟩ : ByteArray))[j]? = some x → w.cell? ⟨b, st + off * 1 + j, none⟩ = some (.string x) := by
              intro j x hj
              rw [List.getElem?_map] at hj
              cases hlj : l[j]? with
              | none => rw [hlj] at hj; cases hj
              | some y =>
                rw [hlj] at hj
                cases hj
                have h2 := strsV_get hl j y hlj
                have hjn : j < n := by
                  have := (List.getElem?_eq_some_iff.1 hlj).1
                  omega
                rw [List.getElem?_take_of_lt hjn, List.getElem?_drop] at h2
                have hlt : off + j < xs.length := (List.getElem?_eq_some_iff.1 h2).1
                have h3 := hat.at_.rel (off + j) 0 hlt (by show 0 < 1; omega)
                have h4 : O.row reg (off + j) (.rows 1 xs) = [.d (.str y)] := by
                  show xs.getD (off + j) [] = _
                  rw [List.getD_eq_getElem?_getD, h2]; rfl
                rw [h4] at h3
                have h5 : C.getD (st + ((off + j) * 1 + 0)) undef = .string ⟨y.toArray⟩ := h3.str_inv
                have h6 : st + ((off + j) * 1 + 0) = st + off * 1 + j := by omega
                have h7 := hat.size
                have h7 : st + xs.length * 1 ≤ C.size := h7
                unfold World.cell?
                rw [hbk]
                show (if (none : Option _).isSome then none else C[st + off * 1 + j]?) = _
                rw [h6] at h5
                have h8 : st + off * 1 + j < C.size := by omega
                rw [if_neg (by simp), Array.getElem?_eq_getElem h8]
                rw [Array.getD_eq_getD_getElem?, Array.getElem?_eq_getElem h8] at h5
                exact congrArg some h5
            have el : (l.map fun x => (⟨x.toArray⟩ : ByteArray)).map (·.data.toList) = l := by
              rw [List.map_map]
              exact (List.map_congr_left (fun _ _ => rfl)).trans (List.map_id l)
            have en : (l.map fun x => (⟨x.toArray⟩ : ByteArray)).length = n := by rw [List.length_map, b2]
            have hcall := hJ b (st + off * 1) cap' (l.map fun x => (⟨x.toArray⟩ : ByteArray)) ⟨s.toArray⟩ w cells hbs (by rw [en]; omega) (by rw [en]; exact hlc) (by rw [el]; show (Lib.join l s).length ≤ _; omega)
            rw [en, el] at hcall
            refine hcall.mono fun e w' ⟨he, hbl⟩ => ?_
            exact ⟨_, he, _, _, _, _, _, hq, .d _ _ (.str _), HRel.more hH hbl.size hbl.block, GO.more hH hbl⟩
      · exact hq.elim
    · exact hq.elim
  · exact hq.elim
end
end Go.W
