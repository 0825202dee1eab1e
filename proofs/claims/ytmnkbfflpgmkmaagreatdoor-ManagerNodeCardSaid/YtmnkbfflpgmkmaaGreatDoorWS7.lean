/- That addresses of elements, conversions, literals do to the machine what the evaluator says. No conditions. -/
import Derived.Test.YtmnkbfflpgmkmaaGreatDoorWS6
import Derived.Lib.ConvBytes
import Derived.Laws.BytesString
namespace Go.W
open Go Go.RowKit

section
variable {reg : Reg} {P : Program} {N F : Nat → Prop} {φ : Phi} {h : Hp reg.T} {w : World}

theorem indexAddrG_ok {t : TypeId} {x i : V reg.T} {cx ci : Value} {Q : V reg.T × Hp reg.T → Prop} (hH : HR N F φ h w) (hq : (indexAddrG P t x i h).K Q) (hx : VRel reg F w φ x cx) (hi : VRel reg F w φ i ci) : OpOk P N F φ h w (Instr.indexAt t cx ci) Q := by
  unfold indexAddrG at hq
  split at hq
  · rename_i k n
    rw [hi.int_inv]
    have arr : ∀ (m : Nat) (e : TypeId) (b o : Nat), P.underlying t = some (.array m e) → (P.info? e).isSome = true → 0 ≤ n → n < (m : Int) →
        (Instr.indexAt t (.pointer (some ⟨b, o, none⟩)) (.int k n)).run P w = .ok (.pointer (some ⟨b, o + n.toNat * P.cellsOf e, none⟩)) w := by
      intro m e b o hu hie h0 h1
      simp [Instr.indexAt, asIntOf, run_underlying hu, Instr.sureAddr, h0, h1, run_sizeOf_info hie, addr_zero]
    have slc : ∀ (e : TypeId) (b o len cap : Nat), P.underlying t = some (.slice e) → (P.info? e).isSome = true → 0 ≤ n → n < (len : Int) →
        (Instr.indexAt t (.slice (some ⟨b, o, none⟩) len cap) (.int k n)).run P w = .ok (.pointer (some ⟨b, o + n.toNat * P.cellsOf e, none⟩)) w := by
      intro e b o len cap hu hie h0 h1
      simp [Instr.indexAt, asIntOf, run_underlying hu, h0, h1, run_sizeOf_info hie, addr_zero]
    split at hq
    · rename_i j r o
      split at hq
      · rename_i m e hu
        obtain ⟨hb, hq⟩ := Out.K_need.1 hq
        simp only [Bool.and_eq_true, decide_eq_true_eq] at hb
        obtain ⟨b, s, kk, z, hp, rfl⟩ := hx.ptr_inv
        refine ⟨_, w, arr m e _ _ hu hb.2 hb.1.1 hb.1.2, .pure hH hq ?_⟩
        have := VRel.ptr (reg := reg) (F := F) (w := w) (φ := φ) j r (o + n.toNat * P.cellsOf e) b s kk z hp
        rwa [show s + r * kk + (o + n.toNat * P.cellsOf e) = s + r * kk + o + n.toNat * P.cellsOf e by omega] at this
      · exact hq.elim
    · rename_i row o
      split at hq
      · rename_i m e hu
        obtain ⟨hb, hq⟩ := Out.K_need.1 hq
        simp only [Bool.and_eq_true, decide_eq_true_eq] at hb
        cases hx with
        | fp _ _ ad C ct fz hF hbk hz hr =>
          refine ⟨_, w, arr m e _ _ hu hb.2 hb.1.1 hb.1.2, .pure hH hq ?_⟩
          have := VRel.fp (reg := reg) (F := F) (w := w) (φ := φ) row (o + n.toNat * P.cellsOf e) ad C ct fz hF hbk hz hr
          rwa [show ad.off + (o + n.toNat * P.cellsOf e) = ad.off + o + n.toNat * P.cellsOf e by omega] at this
      · exact hq.elim
    · rename_i x
      split at hq
      · rename_i e len ht hl
        have ht := sliceT_eq ht
        obtain ⟨hb, hq⟩ := Out.K_need.1 hq
        simp only [Bool.and_eq_true, decide_eq_true_eq] at hb
        obtain ⟨⟨⟨h0, h1⟩, hk⟩, hie⟩ := hb
        have hk := Nat.eq_of_beq_eq_true hk
        cases hx with | d _ _ hd =>
        cases hd <;> (try (simp only [D.len?, reduceCtorEq] at hl; done))
        case nils => simp only [D.len?, Option.some.injEq] at hl; subst hl; omega
        case emp base cap hx1 hx2 => rw [hx2] at hl; cases hl; omega
        case sl n' a cap C t' fz hF hb hs hc hm hx1 hx2 hz hkr hr =>
          rw [hx2] at hl; cases hl
          obtain ⟨ab, ao, asp⟩ := a
          simp only at hs hF hb hz hr
          subst hs
          rw [k_any hx1 _ 0] at hk
          rw [hk] at hz hkr hr
          have hn : n.toNat < len := by omega
          refine ⟨_, w, slc e ab ao len cap ht hie h0 h1, .pure hH hq ?_⟩
          have hlen := hkr n.toNat hn
          have := VRel.fp (reg := reg) (F := F) (w := w) (φ := φ) (x.row reg n.toNat) 0 ⟨ab, ao + n.toNat * P.cellsOf e, none⟩ C t' fz hF hb (by
              rw [hlen]
              have : (n.toNat + 1) * P.cellsOf e ≤ len * P.cellsOf e := Nat.mul_le_mul_right _ hn
              rw [Nat.succ_mul] at this
              simp only
              omega) (fun j hj => hr n.toNat j hn (by omega))
          simpa using this
      · exact hq.elim
    · rename_i j off len cap
      split at hq
      · rename_i e o ht ho
        have ht := sliceT_eq ht
        obtain ⟨hc, hq⟩ := Out.K_ask.1 hq
        simp only [Bool.and_eq_true] at hc
        obtain ⟨⟨hrw, hke⟩, hie⟩ := hc
        have hke := Nat.eq_of_beq_eq_true hke
        obtain ⟨hb, hq⟩ := Out.K_need.1 hq
        simp only [Bool.and_eq_true, decide_eq_true_eq] at hb
        cases hx with
        | sl _ _ _ _ b s kk z cap' hp hcr hlc hm hzz =>
          obtain ⟨_, rfl, _⟩ := row_at hH ho hp hrw
          refine ⟨_, w, slc e _ _ len cap' ht hie hb.1 hb.2, .pure hH hq ?_⟩
          have := VRel.ptr (reg := reg) (F := F) (w := w) (φ := φ) j (off + n.toNat) 0 b s _ z hp
          rw [Nat.add_mul, Nat.add_zero, ← Nat.add_assoc, hke] at this
          rw [hke]
          exact this
        | slz _ _ _ base hcr => omega
      · exact hq.elim
    · exact hq.elim
  · exact hq.elim

theorem part_ok {t : TypeId} {vs : List (V reg.T)} {cs : Array Value} {off : Nat} {v : V reg.T} (hz : vs.length = cs.size) (hr : ∀ j, j < vs.length → VRel reg F w φ (vs.getD j .any) (cs.getD j undef))
    (hv : asVar P t ((vs.drop off).take (P.cellsOf t)) = some v) : ∃ cv, (part t cs off).run P w = .ok cv w ∧ VRel reg F w φ v cv := by
  have hg : ∀ j, j < ((vs.drop off).take (P.cellsOf t)).length → ((vs.drop off).take (P.cellsOf t)).getD j .any = vs.getD (off + j) .any ∧ off + j < vs.length ∧ j < P.cellsOf t := by
    intro j hj
    simp only [List.length_take, List.length_drop] at hj
    refine ⟨?_, by omega, by omega⟩
    simp only [List.getD, List.getElem?_take, List.getElem?_drop]
    rw [if_pos (by omega)]
  obtain ⟨hk, hlen, hrel⟩ := asVar_rel (reg := reg) (F := F) (w := w) (φ := φ) hv (fun j => cs.getD (off + j) undef) (fun j hj => by rw [(hg j hj).1]; exact hr _ (hg j hj).2.1)
  have hk' := hk
  unfold knownT at hk'
  simp only [Bool.and_eq_true] at hk'
  cases ha : isAggT P t with
  | true =>
    rw [ha] at hrel hlen
    simp only [if_true] at hrel hlen
    refine ⟨_, ?_, hrel⟩
    simp only [part, Sem.run_bind, run_isAgg hk, Result.andThen_ok, ha, if_true, run_sizeOf_info hk'.2, Sem.run_pure, Result.ok.injEq, Value.agg.injEq, and_true]
    have hle : off + P.cellsOf t ≤ cs.size ∨ P.cellsOf t = 0 := by
      rcases Nat.eq_zero_or_pos (P.cellsOf t) with h | h
      · exact .inr h
      · left
        have := (hg (P.cellsOf t - 1) (by omega)).2.1
        omega
    apply Array.ext
    · simp; omega
    · intro j h1 h2
      simp at h2
      have : off + j < cs.size := by omega
      simp [Array.getD, this]
  | false =>
    rw [ha] at hrel hlen
    simp only [Bool.false_eq_true, if_false, Nat.add_zero] at hrel hlen
    have h0 := hg 0 (by omega)
    have hlt : off < cs.size := by omega
    refine ⟨_, ?_, hrel⟩
    have e : cs[off]? = some (cs.getD off undef) := by simp [hlt]
    simp only [part, Sem.run_bind, run_isAgg hk, Result.andThen_ok, ha, e]
    rfl

theorem indexG_ok {t : TypeId} {x i : V reg.T} {cx ci : Value} {Q : V reg.T × Hp reg.T → Prop} (hH : HR N F φ h w) (hq : (indexG P t x i h).K Q) (hx : VRel reg F w φ x cx) (hi : VRel reg F w φ i ci) : OpOk P N F φ h w (Instr.index t cx ci) Q := by
  unfold indexG at hq
  split at hq
  · rename_i s k n
    rw [hi.int_inv, hx.str_inv]
    obtain ⟨ht, hq⟩ := Out.K_ask.1 hq
    have ht := isStrT_eq ht
    obtain ⟨hb, hq⟩ := Out.K_need.1 hq
    simp only [Bool.and_eq_true, decide_eq_true_eq] at hb
    have hlt : n.toNat < (ByteArray.mk s.toArray).size := by simp [ByteArray.size]; omega
    have hlt' : n.toNat < s.length := by omega
    refine ⟨_, w, ?_, .pure hH hq (.d _ _ (.int _ _))⟩
    have e : (ByteArray.mk s.toArray)[n.toNat] = s.getD n.toNat 0 := by
      simp [List.getD, hlt']
      rfl
    simp [Instr.index, asIntOf, run_underlying ht, hb.1, ByteArray.getElem?_lt' _ _ hlt, e]
  · rename_i vs k n
    rw [hi.int_inv]
    split at hq
    · rename_i m e hu
      obtain ⟨hb, hq⟩ := Out.K_need.1 hq
      simp only [Bool.and_eq_true, decide_eq_true_eq] at hb
      obtain ⟨v, hv, hq⟩ := K_oneO hq
      cases hx with
      | agg _ cs hz hr =>
        obtain ⟨cv, h1, h2⟩ := part_ok hz hr hv
        have hk := (asVar_rel (reg := reg) (F := F) (w := w) (φ := φ) hv (fun j => cs.getD (n.toNat * P.cellsOf e + j) undef) (fun j hj => by
          simp only [List.length_take, List.length_drop] at hj
          have : ((vs.drop (n.toNat * P.cellsOf e)).take (P.cellsOf e)).getD j .any = vs.getD (n.toNat * P.cellsOf e + j) .any := by
            simp only [List.getD, List.getElem?_take, List.getElem?_drop]
            rw [if_pos (by omega)]
          rw [this]; exact hr _ (by omega))).1
        unfold knownT at hk
        simp only [Bool.and_eq_true] at hk
        refine ⟨cv, w, ?_, .pure hH hq h2⟩
        simp [Instr.index, asIntOf, run_underlying hu, hb.1.1, hb.1.2, run_sizeOf_info hk.2, h1]
    · exact hq.elim
  · exact hq.elim

theorem fieldG_ok {t : TypeId} {x : V reg.T} {f : Nat} {cx : Value} {Q : V reg.T × Hp reg.T → Prop} (hH : HR N F φ h w) (hq : (fieldG P t x f h).K Q) (hx : VRel reg F w φ x cx) : OpOk P N F φ h w (Instr.field t cx f) Q := by
  unfold fieldG at hq
  split at hq
  · rename_i vs fs hu
    split at hq
    · rename_i fl hf
      obtain ⟨v, hv, hq⟩ := K_oneO hq
      cases hx with
      | agg _ cs hz hr =>
        obtain ⟨cv, h1, h2⟩ := part_ok hz hr hv
        exact ⟨cv, w, by simp [Instr.field, run_underlying hu, hf, asAgg, h1], .pure hH hq h2⟩
    · exact hq.elim
  · exact hq.elim
end
end Go.W
