/- That copy, make, slice expressions, addresses of elements do to the machine what the evaluator says. No conditions. -/
import Derived.Test.YtmnkbfflpgmkmaaGreatDoorWS4
namespace Go.W
open Go Go.RowKit

section
variable {reg : Reg} {P : Program} {N F : Nat → Prop} {φ : Phi} {h : Hp reg.T} {w : World}

theorem copyG_ok {t tx ty : TypeId} {a b : V reg.T} {ca cb : Value} {Q : V reg.T × Hp reg.T → Prop} (hH : HR N F φ h w) (hk : Kind2 P tx) (hq : (copyG P t a b h).K Q) (ha : VRel reg F w φ a ca) (hb : VRel reg F w φ b cb) :
    OpOk P N F φ h w (Builtin.copy_ #[t, tx] ty #[ca, cb]) Q := by
  unfold copyG at hq
  split at hq
  · exact hq.elim
  rename_i e ht
  have ht := sliceT_eq ht
  split at hq
  · exact hq.elim
  rename_i p0 n ys hs0
  have hp0 := (Out.K_need.1 hq).1
  replace hq := (Out.K_need.1 hq).2
  have hs := srcX_to P hs0 hp0
  obtain ⟨news, hy⟩ := src_ok hH hk hs hb
  have hnl := hy.src.newsLen
  split at hq
  · -- into nothing
    obtain ⟨hie, hq⟩ := Out.K_ask.1 hq
    obtain ⟨base, rfl⟩ := ha.nils_inv
    have hfc := hy.front 0 (Nat.zero_le _)
    simp only [Nat.zero_mul, List.take_zero] at hfc
    refine ⟨goInt 0, w, ?_, .pure hH hq (.d _ _ (.int _ _))⟩
    have hm0 : Nat.min n 0 = 0 := Nat.min_eq_right (Nat.zero_le _)
    cases base with
    | none => simp [Builtin.copy_, run_underlying ht, hy.src.len, run_sizeOf_info hie, hfc]
    | some a => simp [Builtin.copy_, run_underlying ht, hy.src.len, run_sizeOf_info hie, hfc, storeCells]
  · rename_i i off len cap
    split at hq
    · rename_i o hi
      obtain ⟨hc, hq⟩ := Out.K_ask.1 hq
      simp only [Bool.and_eq_true] at hc
      obtain ⟨⟨h0, hke⟩, hie⟩ := hc
      have hke := Nat.eq_of_beq_eq_true hke
      obtain ⟨inf, hinf, hsz, _⟩ := info_of hie
      have hmn : Nat.min n len ≤ n := Nat.min_le_left _ _
      have hml : Nat.min n len ≤ len := Nat.min_le_right _ _
      obtain ⟨tk1, tk2⟩ := rwTake_spec ys (Nat.min n len) (by rw [hy.len]; exact hmn)
      split at hq
      · rename_i o' ho
        obtain ⟨hle, hq⟩ := Out.K_need.1 hq
        have hle : off + len ≤ o.len reg := Nat.le_of_ble_eq_true hle
        have hfc := hy.front (Nat.min n len) hmn
        have hlt : (news.take (Nat.min n len * P.cellsOf e)).length = Nat.min n len * P.cellsOf e := by
          rw [List.length_take, hnl]
          exact Nat.min_eq_left (Nat.mul_le_mul_right _ hmn)
        have hat : At reg F w φ ((ys.take (Nat.min n len)).row reg) (Nat.min n len) (P.cellsOf e) (fun i => (news.take (Nat.min n len * P.cellsOf e)).getD i undef) :=
          (hy.at_.mono_n hmn).congr tk2 (fun i hi => by simp [List.getD, hi])
        have hmono : ∀ u ∈ news.take (Nat.min n len * P.cellsOf e), u.oneCell' = true := fun u hu => hy.src.one u (List.mem_of_mem_take hu)
        cases ha with
        | sl _ _ _ _ b s k z cap' hp hcr hlc' hm hzz =>
          obtain ⟨_, rfl, _, _, C, ct, fz, h1, h3, h2, hCz⟩ := row_at hH hi hp h0
          have hlt' : (news.take (Nat.min n len * P.cellsOf e)).length = Nat.min n len * o.k reg := by rw [hlt, hke]
          have hat' : At reg F w φ ((ys.take (Nat.min n len)).row reg) (Nat.min n len) (o.k reg) (fun i => (news.take (Nat.min n len * P.cellsOf e)).getD i undef) := by rw [hke]; exact hat
          obtain ⟨g1, g2, g3⟩ := over_at h2 ho tk1 (by omega) hat' hlt'
          have hfit : s + off * o.k reg + (news.take (Nat.min n len * P.cellsOf e)).length ≤ C.size := by
            have h4 : (off + len) * o.k reg ≤ o.len reg * o.k reg := Nat.mul_le_mul_right _ hle
            rw [Nat.add_mul] at h4
            have h5 : Nat.min n len * o.k reg ≤ len * o.k reg := Nat.mul_le_mul_right _ hml
            have := h2.size
            omega
          have hst := run_storeCells_cells (P := P) b (s + off * o.k reg) (news.take (Nat.min n len * P.cellsOf e)) 0 w (fun j hj => by rw [cell_of_heap h1]; simp; omega) (fun j hj => frozen_of_free h1 h3 (by omega)) hmono
          simp only [Nat.add_zero] at hst
          have hrun : (Builtin.copy_ #[t, tx] ty #[.slice (some ⟨b, s + off * o.k reg, none⟩) len cap', cb]).run P w = .ok (goInt (Nat.min n len : Nat)) (w.setCells b (s + off * o.k reg) (news.take (Nat.min n len * P.cellsOf e))) := by
            simp [Builtin.copy_, run_underlying ht, hy.src.len, run_sizeOf_info hie, hfc, hst]
          refine ⟨_, _, hrun, write_ok hH hi hp (by rw [wrC_size]; exact hCz) hq (rest_setCells _ _ _).1 (rest_setCells _ _ _).2.1 (rest_setCells _ _ _).2.2 (size_setCells _ _ _) (fun b' hb' => heap_setCells_other hb' _ _ _) (heap_setCells _ _ _ h1) (free_wrC h3 _ _) g1 g2 g3 (.d _ _ (.int _ _))⟩
        | slz _ _ _ base hcr =>
          have hm0 : Nat.min n 0 = 0 := Nat.min_eq_right (Nat.zero_le _)
          have hnil : news.take (Nat.min n 0 * P.cellsOf e) = [] := List.eq_nil_of_length_eq_zero (by rw [hlt, hm0, Nat.zero_mul])
          rw [hnil, hm0] at hfc
          refine ⟨goInt (Nat.min n 0 : Nat), w, ?_, same_ok hH hi ho (by rw [tk1, hm0]) (by omega) hq (.d _ _ (.int _ _))⟩
          cases base with
          | none => simp [Builtin.copy_, run_underlying ht, hy.src.len, run_sizeOf_info hie, hfc]
          | some a => simp [Builtin.copy_, run_underlying ht, hy.src.len, run_sizeOf_info hie, hfc, storeCells]
      · exact hq.elim
    · exact hq.elim
  · exact hq.elim

theorem makeSliceG_ok {t : TypeId} {l c : V reg.T} {cl cc : Value} {Q : V reg.T × Hp reg.T → Prop} (hH : HR N F φ h w) (hfr : ∀ r, Q r → Fresh N h.nx r.2.nx) (hq : (makeSliceG P t l c h).K Q) (hl : VRel reg F w φ l cl) (hc : VRel reg F w φ c cc) : OpOk P N F φ h w (Instr.makeSlice t cl cc) Q := by
  unfold makeSliceG at hq
  split at hq
  · rename_i e k l k' c ht
    have ht := sliceT_eq ht
    rw [hl.int_inv, hc.int_inv]
    split at hq
    · rename_i o ho
      obtain ⟨hb, hq⟩ := Out.K_need.1 hq
      simp only [Bool.and_eq_true, decide_eq_true_eq] at hb
      obtain ⟨⟨⟨⟨⟨h1, h2⟩, h3⟩, h4⟩, h5⟩, hzk⟩ := hb
      obtain ⟨hok, hq⟩ := K_newO hq
      obtain ⟨inf, z, hinf, hzz, hzs⟩ := zeroK_eq hzk
      have hsz : inf.size = P.cellsOf e := by simp [Program.cellsOf, hinf]
      have hby : inf.bytes = P.bytesOf e := by simp [Program.bytesOf, hinf]
      have hrun := run_make (P := P) w t e inf z ht hinf hzz k k' l c h1 h2 (by rw [hby]; omega) h3
      -- the rows are zeros
      have hrows : o.isRows reg = true ∧ o.k reg = P.cellsOf e ∧ o.len reg = c.toNat ∧ ∃ zs : List (V reg.T), zeroT P e = some zs ∧ ∀ r, r < c.toNat → o.row reg r = zs := by
        unfold zeroRows at ho
        split at ho
        · cases ho
        · rename_i zs hzs'
          split at ho
          · split at ho
            · rename_i dl hke hdl
              split at ho
              · rename_i x hx
                simp only [Option.some.injEq] at ho
                subst ho
                refine ⟨rfl, Nat.eq_of_beq_eq_true hke, by simp [O.len], zs, hzs', fun r hr => ?_⟩
                simp only [O.row]
                have : (List.replicate c.toNat x).getD r (reg.dflt e) = x := by simp [List.getD, hr]
                rw [this, reg.law e dl x hx, ← dataOf_spec hdl]
              · cases ho
            · cases ho
          · simp only [Option.some.injEq] at ho
            subst ho
            refine ⟨rfl, rfl, by simp [O.len], zs, hzs', fun r hr => by simp [O.row, List.getD, hr]⟩
      obtain ⟨g1, g2, g3, zs, hzt, g4⟩ := hrows
      obtain ⟨inf', z', hinf', hzz', hzl, hzrel⟩ := zeroT_rel (F := F) (w := w) (φ := φ) hzt
      rw [hinf] at hinf'
      cases hinf'
      rw [hzz] at hzz'
      cases hzz'
      have hmsz : (madeCells z.cells (c.toNat * inf.size)).size = c.toNat * P.cellsOf e := by rw [size_madeCells, hsz]
      refine ⟨_, _, hrun, alloc_ok hH hq (fresh_new hfr hq) hok rfl rfl rfl (by simp) (fun b hb => ?_) (C := madeCells z.cells (c.toNat * inf.size)) (t := e) (fz := (0, 0)) (heap_alloc_new w _) (.inl rfl) g1 ?_ (by rw [g3]; omega) ?_ ?_⟩
      · show (w.heap.push _)[b]? = _
        rw [Array.getElem?_push, if_neg (by omega)]
      · rw [hmsz, g3, g2]; exact Nat.le_refl _
      · rw [g3, g2]
        refine ⟨fun r hr => by rw [g4 r hr, hzl, hzs], fun r j hr hj => by rw [g4 r hr]; exact (hzrel j (by omega)).2, fun r j hr hj => ?_⟩
        rw [g4 r hr]
        have hlt : r * P.cellsOf e + j < c.toNat * inf.size := by
          rw [hsz]
          have : (r + 1) * P.cellsOf e ≤ c.toNat * P.cellsOf e := Nat.mul_le_mul_right _ hr
          rw [Nat.succ_mul] at this
          omega
        have e1 : (madeCells z.cells (c.toNat * inf.size)).getD (r * P.cellsOf e + j) undef = z.cells.getD j undef := by
          have h6 : (r * P.cellsOf e + j) % z.cells.size = j := by rw [hzs, Nat.mul_comm, Nat.mul_add_mod]; exact Nat.mod_eq_of_lt hj
          have h7 : j < z.cells.size := by omega
          simp [madeCells, Array.getD, hlt, h6, h7]
        rw [e1]
        exact (hzrel j (by omega)).1
      · intro φ' e1 e2
        rw [g2, hmsz] at e1
        have := VRel.sl (reg := reg) (F := F) (w := w.alloc (.cells (madeCells z.cells (c.toNat * inf.size)) e)) (φ := φ') h.nx 0 l.toNat (.exact c.toNat) _ _ _ _ c.toNat e1 rfl (by omega) (by omega) (by omega)
        simpa using this
    · exact hq.elim
  · exact hq.elim
theorem zeroRows_spec {e : TypeId} {n : Nat} {o : O reg.T} (ho : zeroRows reg P e n = some o) : o.isRows reg = true ∧ o.k reg = P.cellsOf e ∧ o.len reg = n ∧ ∃ zs : List (V reg.T), zeroT P e = some zs ∧ ∀ r, r < n → o.row reg r = zs := by
  unfold zeroRows at ho
  split at ho
  · cases ho
  · rename_i zs hzs'
    split at ho
    · split at ho
      · rename_i dl hke hdl
        split at ho
        · rename_i x hx
          simp only [Option.some.injEq] at ho
          subst ho
          refine ⟨rfl, Nat.eq_of_beq_eq_true hke, by simp [O.len], zs, hzs', fun r hr => ?_⟩
          simp only [O.row]
          have : (List.replicate n x).getD r (reg.dflt e) = x := by simp [List.getD, hr]
          rw [this, reg.law e dl x hx, ← dataOf_spec hdl]
        · cases ho
      · cases ho
    · simp only [Option.some.injEq] at ho
      subst ho
      refine ⟨rfl, rfl, by simp [O.len], zs, hzs', fun r hr => by simp [O.row, List.getD, hr]⟩

theorem clearG_ok {t ty : TypeId} {a : V reg.T} {ca : Value} {Q : V reg.T × Hp reg.T → Prop} (hH : HR N F φ h w) (hq : (clearG P t a h).K Q) (ha : VRel reg F w φ a ca) : OpOk P N F φ h w (Builtin.clear_ #[t] ty #[ca]) Q := by
  have hv0 : ∀ {F : Nat → Prop} {w : World} {φ : Phi}, VRel reg F w φ (.tup []) (.tuple #[]) := .tup [] #[] rfl (fun j hj => by simp at hj)
  unfold clearG at hq
  split at hq
  · rename_i e ht
    have ht := sliceT_eq ht
    obtain ⟨base, rfl⟩ := ha.nils_inv
    refine ⟨.tuple #[], w, ?_, .pure hH hq hv0⟩
    cases base <;> simp [Builtin.clear_, run_underlying ht]
  · rename_i e i off len cap ht
    have ht := sliceT_eq ht
    split at hq
    · rename_i o zo hi hzo
      split at hq
      · rename_i o' ho
        have hb := (Out.K_need.1 hq).1
        replace hq := (Out.K_need.1 hq).2
        simp only [Bool.and_eq_true] at hb
        obtain ⟨⟨⟨hle, h0⟩, hke⟩, hzk⟩ := hb
        have hle : off + len ≤ o.len reg := Nat.le_of_ble_eq_true hle
        have hke := Nat.eq_of_beq_eq_true hke
        obtain ⟨inf, z, hinf, hzz, hzs⟩ := zeroK_eq hzk
        obtain ⟨g1, g2, g3, zs, hzt, g4⟩ := zeroRows_spec hzo
        obtain ⟨inf', z', hinf', hzz', hzl, hzrel⟩ := zeroT_rel (F := F) (w := w) (φ := φ) hzt
        rw [hinf] at hinf'
        cases hinf'
        rw [hzz] at hzz'
        cases hzz'
        obtain ⟨r1, r2⟩ := rw_spec (reg := reg) (lo := 0) (n := len) g1 (by omega)
        have hnl : (Builtin.zeroCells z.cells len).toList.length = len * o.k reg := by simp [Builtin.zeroCells, hzs, hke]
        have hget : ∀ r j, r < len → j < P.cellsOf e → (Builtin.zeroCells z.cells len).toList.getD (r * o.k reg + j) undef = z.cells.getD j undef := by
          intro r j hr hj
          have hlt : r * P.cellsOf e + j < len * P.cellsOf e := by
            have : (r + 1) * P.cellsOf e ≤ len * P.cellsOf e := Nat.mul_le_mul_right _ hr
            rw [Nat.succ_mul] at this
            omega
          have h6 : (r * P.cellsOf e + j) % P.cellsOf e = j := by rw [Nat.mul_comm, Nat.mul_add_mod]; exact Nat.mod_eq_of_lt hj
          have h7 : j < z.cells.size := by omega
          rw [toList_getD, hke]
          simp [Builtin.zeroCells, Array.getD, hlt, h6, hzs]
          rw [dif_pos hj, getElem!_pos z.cells j h7]
        have hat : At reg F w φ ((zo.rw reg 0 len).row reg) len (o.k reg) (fun i => (Builtin.zeroCells z.cells len).toList.getD i undef) := by
          have e1 : ∀ r, r < len → (zo.rw reg 0 len).row reg r = zs := fun r hr => by rw [r2 r hr]; exact g4 _ (by omega)
          refine ⟨fun r hr => by rw [e1 r hr, hzl, hzs, hke], fun r j hr hj => by rw [e1 r hr]; exact (hzrel j (by omega)).2, fun r j hr hj => ?_⟩
          rw [e1 r hr]
          rw [hget r j hr (by omega)]
          exact (hzrel j (by omega)).1
        have hmono : ∀ u ∈ (Builtin.zeroCells z.cells len).toList, u.oneCell' = true := by
          intro u hu
          obtain ⟨i, hi⟩ := List.mem_iff_getElem?.1 hu
          have hlt : i < len * o.k reg := by rw [← hnl]; exact (List.getElem?_eq_some_iff.1 hi).1
          have := hat.one i hlt
          simpa [List.getD, hi] using this
        cases ha with
        | sl _ _ _ _ b s k zz cap' hp hcr hlc' hm hzz' =>
          obtain ⟨_, rfl, _, _, C, ct, fz, h1, h3, h2, hCz⟩ := row_at hH hi hp h0
          obtain ⟨k1, k2, k3⟩ := over_at h2 ho r1 (by omega) hat hnl
          have hfit : s + off * o.k reg + (Builtin.zeroCells z.cells len).toList.length ≤ C.size := by
            have h4 : (off + len) * o.k reg ≤ o.len reg * o.k reg := Nat.mul_le_mul_right _ hle
            rw [Nat.add_mul] at h4
            have := h2.size
            omega
          have hst := run_storeCells_cells (P := P) b (s + off * o.k reg) (Builtin.zeroCells z.cells len).toList 0 w (fun j hj => by rw [cell_of_heap h1]; simp; simp at hj hfit; omega) (fun j hj => frozen_of_free h1 h3 (by omega)) hmono
          simp only [Nat.add_zero] at hst
          have hrun : (Builtin.clear_ #[t] ty #[.slice (some ⟨b, s + off * o.k reg, none⟩) len cap']).run P w = .ok (.tuple #[]) (w.setCells b (s + off * o.k reg) (Builtin.zeroCells z.cells len).toList) := by
            cases len with
            | zero =>
              have : (Builtin.zeroCells z.cells 0).toList = [] := by simp [Builtin.zeroCells]
              rw [this] at hst ⊢
              simp [Builtin.clear_, run_underlying ht, World.setCells]
            | succ m => simp [Builtin.clear_, run_underlying ht, zeroValue, typeInfo, hinf, hzz, hst]
          exact ⟨_, _, hrun, write_ok hH hi hp (by rw [wrC_size]; exact hCz) hq (rest_setCells _ _ _).1 (rest_setCells _ _ _).2.1 (rest_setCells _ _ _).2.2 (size_setCells _ _ _) (fun b' hb' => heap_setCells_other hb' _ _ _) (heap_setCells _ _ _ h1) (free_wrC h3 _ _) k1 k2 k3 hv0⟩
        | slz _ _ _ base hcr =>
          refine ⟨.tuple #[], w, ?_, same_ok hH hi ho r1 (by omega) hq hv0⟩
          cases base <;> simp [Builtin.clear_, run_underlying ht]
      · exact hq.elim
    · exact hq.elim
  · exact hq.elim
end
end Go.W
