/- That operations do what the evaluator says. No conditions. -/
import Derived.Test.YtbcmfkognanjdaaGreatDoorVa
import Derived.Lib.ConvBytes
import Derived.Laws.BytesString
import Derived.MapKept
import Derived.Laws.StructEq
import Derived.ControlIn
import Derived.OrdersIn
namespace Go.W
open Go Go.RowKit

section
variable {reg : Reg} {P : Program} {N F : Nat → Prop} {φ : Phi} {h : Hp reg.T} {w : World}

theorem copyG_ok {t tx ty : TypeId} {a b : V reg.T} {ca cb : Value} {Q : V reg.T × Hp reg.T → Prop} (hH : HR N F φ h w) (hk : Kind2 P tx) (hq : (copyG P t a b h).K Q) (ha : VRel reg F w φ a ca) (hb : VRel reg F w φ b cb) :
    OpOk P N F φ h w (Builtin.copy_ #[t, tx] ty #[ca, cb]) Q := by
  unfold copyG at hq
  split at hq
  · exact hq.elim
  rename_i e ht
  have ht := sliceT_eq ht
  split at hq
  · exact hq.elim
  rename_i p0 n ys hs0
  have hp0 := (Out.K_need.1 hq).1
  replace hq := (Out.K_need.1 hq).2
  have hs := srcX_to P hs0 hp0
  obtain ⟨news, hy⟩ := src_ok hH hk hs hb
  have hnl := hy.src.newsLen
  split at hq
  · -- into nothing
    obtain ⟨hie, hq⟩ := Out.K_ask.1 hq
    obtain ⟨base, rfl⟩ := ha.nils_inv
    have hfc := hy.front 0 (Nat.zero_le _)
    simp only [Nat.zero_mul, List.take_zero] at hfc
    refine ⟨goInt 0, w, ?_, .pure hH hq (.d _ _ (.int _ _))⟩
    have hm0 : Nat.min n 0 = 0 := Nat.min_eq_right (Nat.zero_le _)
    cases base with
    | none => simp [Builtin.copy_, run_underlying ht, hy.src.len, run_sizeOf_info hie, hfc]
    | some a => simp [Builtin.copy_, run_underlying ht, hy.src.len, run_sizeOf_info hie, hfc, storeCells]
  · rename_i i off len cap
    split at hq
    · rename_i o hi
      obtain ⟨hc, hq⟩ := Out.K_ask.1 hq
      simp only [Bool.and_eq_true] at hc
      obtain ⟨⟨h0, hke⟩, hie⟩ := hc
      have hke := Nat.eq_of_beq_eq_true hke
      obtain ⟨inf, hinf, hsz, _⟩ := info_of hie
      have hmn : Nat.min n len ≤ n := Nat.min_le_left _ _
      have hml : Nat.min n len ≤ len := Nat.min_le_right _ _
      obtain ⟨tk1, tk2⟩ := rwTake_spec ys (Nat.min n len) (by rw [hy.len]; exact hmn)
      split at hq
      · rename_i o' ho
        obtain ⟨hle, hq⟩ := Out.K_need.1 hq
        have hle : off + len ≤ o.len reg := Nat.le_of_ble_eq_true hle
        have hfc := hy.front (Nat.min n len) hmn
        have hlt : (news.take (Nat.min n len * P.cellsOf e)).length = Nat.min n len * P.cellsOf e := by
          rw [List.length_take, hnl]
          exact Nat.min_eq_left (Nat.mul_le_mul_right _ hmn)
        have hat : At reg F w φ ((ys.take (Nat.min n len)).row reg) (Nat.min n len) (P.cellsOf e) (fun i => (news.take (Nat.min n len * P.cellsOf e)).getD i undef) :=
          (hy.at_.mono_n hmn).congr tk2 (fun i hi => by simp [List.getD, hi])
        have hmono : ∀ u ∈ news.take (Nat.min n len * P.cellsOf e), u.oneCell' = true := fun u hu => hy.src.one u (List.mem_of_mem_take hu)
        cases ha with
        | sl _ _ _ _ b s k z cap' hp hcr hlc' hm hzz =>
          obtain ⟨_, rfl, _, _, C, ct, fz, h1, h3, h2, hCz⟩ := row_at hH hi hp h0
          have hlt' : (news.take (Nat.min n len * P.cellsOf e)).length = Nat.min n len * o.k reg := by rw [hlt, hke]
          have hat' : At reg F w φ ((ys.take (Nat.min n len)).row reg) (Nat.min n len) (o.k reg) (fun i => (news.take (Nat.min n len * P.cellsOf e)).getD i undef) := by rw [hke]; exact hat
          obtain ⟨g1, g2, g3⟩ := over_at h2 ho tk1 (by omega) hat' hlt'
          have hfit : s + off * o.k reg + (news.take (Nat.min n len * P.cellsOf e)).length ≤ C.size := by
            have h4 : (off + len) * o.k reg ≤ o.len reg * o.k reg := Nat.mul_le_mul_right _ hle
            rw [Nat.add_mul] at h4
            have h5 : Nat.min n len * o.k reg ≤ len * o.k reg := Nat.mul_le_mul_right _ hml
            have := h2.size
            omega
          have hst := run_storeCells_cells (P := P) b (s + off * o.k reg) (news.take (Nat.min n len * P.cellsOf e)) 0 w (fun j hj => by rw [cell_of_heap h1]; simp; omega) (fun j hj => frozen_of_free h1 h3 (by omega)) hmono
          simp only [Nat.add_zero] at hst
          have hrun : (Builtin.copy_ #[t, tx] ty #[.slice (some ⟨b, s + off * o.k reg, none⟩) len cap', cb]).run P w = .ok (goInt (Nat.min n len : Nat)) (w.setCells b (s + off * o.k reg) (news.take (Nat.min n len * P.cellsOf e))) := by
            simp [Builtin.copy_, run_underlying ht, hy.src.len, run_sizeOf_info hie, hfc, hst]
          refine ⟨_, _, hrun, write_ok hH hi hp (by rw [wrC_size]; exact hCz) hq (rest_setCells _ _ _).1 (rest_setCells _ _ _).2.1 (rest_setCells _ _ _).2.2 (size_setCells _ _ _) (fun b' hb' => heap_setCells_other hb' _ _ _) (heap_setCells _ _ _ h1) (free_wrC h3 _ _) g1 g2 g3 (.d _ _ (.int _ _))⟩
        | slz _ _ _ base hcr =>
          have hm0 : Nat.min n 0 = 0 := Nat.min_eq_right (Nat.zero_le _)
          have hnil : news.take (Nat.min n 0 * P.cellsOf e) = [] := List.eq_nil_of_length_eq_zero (by rw [hlt, hm0, Nat.zero_mul])
          rw [hnil, hm0] at hfc
          refine ⟨goInt (Nat.min n 0 : Nat), w, ?_, same_ok hH hi ho (by rw [tk1, hm0]) (by omega) hq (.d _ _ (.int _ _))⟩
          cases base with
          | none => simp [Builtin.copy_, run_underlying ht, hy.src.len, run_sizeOf_info hie, hfc]
          | some a => simp [Builtin.copy_, run_underlying ht, hy.src.len, run_sizeOf_info hie, hfc, storeCells]
      · exact hq.elim
    · exact hq.elim
  · exact hq.elim

theorem makeSliceG_ok {t : TypeId} {l c : V reg.T} {cl cc : Value} {Q : V reg.T × Hp reg.T → Prop} (hH : HR N F φ h w) (hfr : ∀ r, Q r → Fresh N h.nx r.2.nx) (hq : (makeSliceG P t l c h).K Q) (hl : VRel reg F w φ l cl) (hc : VRel reg F w φ c cc) : OpOk P N F φ h w (Instr.makeSlice t cl cc) Q := by
  unfold makeSliceG at hq
  split at hq
  · rename_i e k l k' c ht
    have ht := sliceT_eq ht
    rw [hl.int_inv, hc.int_inv]
    split at hq
    · rename_i o ho
      obtain ⟨hb, hq⟩ := Out.K_need.1 hq
      simp only [Bool.and_eq_true, decide_eq_true_eq] at hb
      obtain ⟨⟨⟨⟨⟨h1, h2⟩, h3⟩, h4⟩, h5⟩, hzk⟩ := hb
      obtain ⟨hok, hq⟩ := K_newO hq
      obtain ⟨inf, z, hinf, hzz, hzs⟩ := zeroK_eq hzk
      have hsz : inf.size = P.cellsOf e := by simp [Program.cellsOf, hinf]
      have hby : inf.bytes = P.bytesOf e := by simp [Program.bytesOf, hinf]
      have hrun := run_make (P := P) w t e inf z ht hinf hzz k k' l c h1 h2 (by rw [hby]; omega) h3
      -- the rows are zeros
      have hrows : o.isRows reg = true ∧ o.k reg = P.cellsOf e ∧ o.len reg = c.toNat ∧ ∃ zs : List (V reg.T), zeroT P e = some zs ∧ ∀ r, r < c.toNat → o.row reg r = zs := by
        unfold zeroRows at ho
        split at ho
        · cases ho
        · rename_i zs hzs'
          split at ho
          · split at ho
            · rename_i dl hke hdl
              split at ho
              · rename_i x hx
                simp only [Option.some.injEq] at ho
                subst ho
                refine ⟨rfl, Nat.eq_of_beq_eq_true hke, by simp [O.len], zs, hzs', fun r hr => ?_⟩
                simp only [O.row]
                have : (List.replicate c.toNat x).getD r (reg.dflt e) = x := by simp [List.getD, hr]
                rw [this, reg.law e dl x hx, ← dataOf_spec hdl]
              · cases ho
            · cases ho
          · simp only [Option.some.injEq] at ho
            subst ho
            refine ⟨rfl, rfl, by simp [O.len], zs, hzs', fun r hr => by simp [O.row, List.getD, hr]⟩
      obtain ⟨g1, g2, g3, zs, hzt, g4⟩ := hrows
      obtain ⟨inf', z', hinf', hzz', hzl, hzrel⟩ := zeroT_rel (F := F) (w := w) (φ := φ) hzt
      rw [hinf] at hinf'
      cases hinf'
      rw [hzz] at hzz'
      cases hzz'
      have hmsz : (madeCells z.cells (c.toNat * inf.size)).size = c.toNat * P.cellsOf e := by rw [size_madeCells, hsz]
      refine ⟨_, _, hrun, alloc_ok hH hq (fresh_new hfr hq) hok rfl rfl rfl (by simp) (fun b hb => ?_) (C := madeCells z.cells (c.toNat * inf.size)) (t := e) (fz := (0, 0)) (heap_alloc_new w _) (.inl rfl) g1 ?_ (by rw [g3]; omega) ?_ ?_⟩
      · show (w.heap.push _)[b]? = _
        rw [Array.getElem?_push, if_neg (by omega)]
      · rw [hmsz, g3, g2]; exact Nat.le_refl _
      · rw [g3, g2]
        refine ⟨fun r hr => by rw [g4 r hr, hzl, hzs], fun r j hr hj => by rw [g4 r hr]; exact (hzrel j (by omega)).2, fun r j hr hj => ?_⟩
        rw [g4 r hr]
        have hlt : r * P.cellsOf e + j < c.toNat * inf.size := by
          rw [hsz]
          have : (r + 1) * P.cellsOf e ≤ c.toNat * P.cellsOf e := Nat.mul_le_mul_right _ hr
          rw [Nat.succ_mul] at this
          omega
        have e1 : (madeCells z.cells (c.toNat * inf.size)).getD (r * P.cellsOf e + j) undef = z.cells.getD j undef := by
          have h6 : (r * P.cellsOf e + j) % z.cells.size = j := by rw [hzs, Nat.mul_comm, Nat.mul_add_mod]; exact Nat.mod_eq_of_lt hj
          have h7 : j < z.cells.size := by omega
          simp [madeCells, Array.getD, hlt, h6, h7]
        rw [e1]
        exact (hzrel j (by omega)).1
      · intro φ' e1 e2
        rw [g2, hmsz] at e1
        have := VRel.sl (reg := reg) (F := F) (w := w.alloc (.cells (madeCells z.cells (c.toNat * inf.size)) e)) (φ := φ') h.nx 0 l.toNat (.exact c.toNat) _ _ _ _ c.toNat e1 rfl (by omega) (by omega) (by omega)
        simpa using this
    · exact hq.elim
  · exact hq.elim
theorem zeroRows_spec {e : TypeId} {n : Nat} {o : O reg.T} (ho : zeroRows reg P e n = some o) : o.isRows reg = true ∧ o.k reg = P.cellsOf e ∧ o.len reg = n ∧ ∃ zs : List (V reg.T), zeroT P e = some zs ∧ ∀ r, r < n → o.row reg r = zs := by
  unfold zeroRows at ho
  split at ho
  · cases ho
  · rename_i zs hzs'
    split at ho
    · split at ho
      · rename_i dl hke hdl
        split at ho
        · rename_i x hx
          simp only [Option.some.injEq] at ho
          subst ho
          refine ⟨rfl, Nat.eq_of_beq_eq_true hke, by simp [O.len], zs, hzs', fun r hr => ?_⟩
          simp only [O.row]
          have : (List.replicate n x).getD r (reg.dflt e) = x := by simp [List.getD, hr]
          rw [this, reg.law e dl x hx, ← dataOf_spec hdl]
        · cases ho
      · cases ho
    · simp only [Option.some.injEq] at ho
      subst ho
      refine ⟨rfl, rfl, by simp [O.len], zs, hzs', fun r hr => by simp [O.row, List.getD, hr]⟩

theorem clearG_ok {t ty : TypeId} {a : V reg.T} {ca : Value} {Q : V reg.T × Hp reg.T → Prop} (hH : HR N F φ h w) (hq : (clearG P t a h).K Q) (ha : VRel reg F w φ a ca) : OpOk P N F φ h w (Builtin.clear_ #[t] ty #[ca]) Q := by
  have hv0 : ∀ {F : Nat → Prop} {w : World} {φ : Phi}, VRel reg F w φ (.tup []) (.tuple #[]) := .tup [] #[] rfl (fun j hj => by simp at hj)
  unfold clearG at hq
  split at hq
  · rename_i e ht
    have ht := sliceT_eq ht
    obtain ⟨base, rfl⟩ := ha.nils_inv
    refine ⟨.tuple #[], w, ?_, .pure hH hq hv0⟩
    cases base <;> simp [Builtin.clear_, run_underlying ht]
  · rename_i e i off len cap ht
    have ht := sliceT_eq ht
    split at hq
    · rename_i o zo hi hzo
      split at hq
      · rename_i o' ho
        have hb := (Out.K_need.1 hq).1
        replace hq := (Out.K_need.1 hq).2
        simp only [Bool.and_eq_true] at hb
        obtain ⟨⟨⟨hle, h0⟩, hke⟩, hzk⟩ := hb
        have hle : off + len ≤ o.len reg := Nat.le_of_ble_eq_true hle
        have hke := Nat.eq_of_beq_eq_true hke
        obtain ⟨inf, z, hinf, hzz, hzs⟩ := zeroK_eq hzk
        obtain ⟨g1, g2, g3, zs, hzt, g4⟩ := zeroRows_spec hzo
        obtain ⟨inf', z', hinf', hzz', hzl, hzrel⟩ := zeroT_rel (F := F) (w := w) (φ := φ) hzt
        rw [hinf] at hinf'
        cases hinf'
        rw [hzz] at hzz'
        cases hzz'
        obtain ⟨r1, r2⟩ := rw_spec (reg := reg) (lo := 0) (n := len) g1 (by omega)
        have hnl : (Builtin.zeroCells z.cells len).toList.length = len * o.k reg := by simp [Builtin.zeroCells, hzs, hke]
        have hget : ∀ r j, r < len → j < P.cellsOf e → (Builtin.zeroCells z.cells len).toList.getD (r * o.k reg + j) undef = z.cells.getD j undef := by
          intro r j hr hj
          have hlt : r * P.cellsOf e + j < len * P.cellsOf e := by
            have : (r + 1) * P.cellsOf e ≤ len * P.cellsOf e := Nat.mul_le_mul_right _ hr
            rw [Nat.succ_mul] at this
            omega
          have h6 : (r * P.cellsOf e + j) % P.cellsOf e = j := by rw [Nat.mul_comm, Nat.mul_add_mod]; exact Nat.mod_eq_of_lt hj
          have h7 : j < z.cells.size := by omega
          rw [toList_getD, hke]
          simp [Builtin.zeroCells, Array.getD, hlt, h6, hzs]
          rw [dif_pos hj, getElem!_pos z.cells j h7]
        have hat : At reg F w φ ((zo.rw reg 0 len).row reg) len (o.k reg) (fun i => (Builtin.zeroCells z.cells len).toList.getD i undef) := by
          have e1 : ∀ r, r < len → (zo.rw reg 0 len).row reg r = zs := fun r hr => by rw [r2 r hr]; exact g4 _ (by omega)
          refine ⟨fun r hr => by rw [e1 r hr, hzl, hzs, hke], fun r j hr hj => by rw [e1 r hr]; exact (hzrel j (by omega)).2, fun r j hr hj => ?_⟩
          rw [e1 r hr]
          rw [hget r j hr (by omega)]
          exact (hzrel j (by omega)).1
        have hmono : ∀ u ∈ (Builtin.zeroCells z.cells len).toList, u.oneCell' = true := by
          intro u hu
          obtain ⟨i, hi⟩ := List.mem_iff_getElem?.1 hu
          have hlt : i < len * o.k reg := by rw [← hnl]; exact (List.getElem?_eq_some_iff.1 hi).1
          have := hat.one i hlt
          simpa [List.getD, hi] using this
        cases ha with
        | sl _ _ _ _ b s k zz cap' hp hcr hlc' hm hzz' =>
          obtain ⟨_, rfl, _, _, C, ct, fz, h1, h3, h2, hCz⟩ := row_at hH hi hp h0
          obtain ⟨k1, k2, k3⟩ := over_at h2 ho r1 (by omega) hat hnl
          have hfit : s + off * o.k reg + (Builtin.zeroCells z.cells len).toList.length ≤ C.size := by
            have h4 : (off + len) * o.k reg ≤ o.len reg * o.k reg := Nat.mul_le_mul_right _ hle
            rw [Nat.add_mul] at h4
            have := h2.size
            omega
          have hst := run_storeCells_cells (P := P) b (s + off * o.k reg) (Builtin.zeroCells z.cells len).toList 0 w (fun j hj => by rw [cell_of_heap h1]; simp; simp at hj hfit; omega) (fun j hj => frozen_of_free h1 h3 (by omega)) hmono
          simp only [Nat.add_zero] at hst
          have hrun : (Builtin.clear_ #[t] ty #[.slice (some ⟨b, s + off * o.k reg, none⟩) len cap']).run P w = .ok (.tuple #[]) (w.setCells b (s + off * o.k reg) (Builtin.zeroCells z.cells len).toList) := by
            cases len with
            | zero =>
              have : (Builtin.zeroCells z.cells 0).toList = [] := by simp [Builtin.zeroCells]
              rw [this] at hst ⊢
              simp [Builtin.clear_, run_underlying ht, World.setCells]
            | succ m => simp [Builtin.clear_, run_underlying ht, zeroValue, typeInfo, hinf, hzz, hst]
          exact ⟨_, _, hrun, write_ok hH hi hp (by rw [wrC_size]; exact hCz) hq (rest_setCells _ _ _).1 (rest_setCells _ _ _).2.1 (rest_setCells _ _ _).2.2 (size_setCells _ _ _) (fun b' hb' => heap_setCells_other hb' _ _ _) (heap_setCells _ _ _ h1) (free_wrC h3 _ _) k1 k2 k3 hv0⟩
        | slz _ _ _ base hcr =>
          refine ⟨.tuple #[], w, ?_, same_ok hH hi ho r1 (by omega) hq hv0⟩
          cases base <;> simp [Builtin.clear_, run_underlying ht]
      · exact hq.elim
    · exact hq.elim
  · exact hq.elim
end
end Go.W

namespace Go.W
open Go Go.RowKit

section
variable {reg : Reg} {P : Program} {N F : Nat → Prop} {φ : Phi} {h : Hp reg.T} {w : World}

/-- A bound's value. -/
structure Bnd (x : Option (Option (V reg.T))) (c : Option Value) (dflt : Int) (n : Int) : Prop where
  none : c = none → n = dflt
  some : ∀ v, c = some v → ∃ k, v = .int k n

theorem bnd_ok {x : Option (Option (V reg.T))} {c : Option Value} {dflt n : Int} (hb : bnd x dflt = some n) (hc : x = none ↔ c = none) (hr : ∀ v cv, x = some (some v) → c = some cv → VRel reg F w φ v cv) : Bnd x c dflt n := by
  unfold bnd at hb
  split at hb
  · refine ⟨fun _ => by simpa using hb.symm, fun v hv => ?_⟩
    rw [hc.1 rfl] at hv; cases hv
  · rename_i k m
    cases hb
    exact ⟨fun hn => (by have := hc.2 hn; cases this), fun v hv => ⟨k, (hr _ _ rfl hv).int_inv⟩⟩
  · cases hb

theorem run_bound {k : IntKind} {n : Int} {y : Nat} {code : BoundsCode} (h0 : 0 ≤ n) (h1 : n ≤ y) : (Instr.sliceBound (.int k n) y code).run P w = .ok n.toNat w := by
  simp [Instr.sliceBound, asIntOf, h0, h1]

theorem run_bounds {isSlice : Bool} {len cap : Nat} {lo hi : Option Value} {l u : Int} {x y : Option (Option (V reg.T))} (hl : Bnd x lo 0 l) (hh : Bnd y hi len u) (h0 : 0 ≤ l) (h1 : l ≤ u) (h2 : u ≤ cap) :
    (Instr.sliceBounds isSlice len cap lo hi none).run P w = .ok (l.toNat, u.toNat, cap) w := by
  cases hi with
  | none =>
    have := hh.none rfl
    subst this
    cases lo with
    | none => have := hl.none rfl; subst this; simp [Instr.sliceBounds]
    | some v => obtain ⟨k, rfl⟩ := hl.some v rfl; simp [Instr.sliceBounds, run_bound h0 h1]
  | some v =>
    obtain ⟨k, rfl⟩ := hh.some v rfl
    cases lo with
    | none => have := hl.none rfl; subst this; simp [Instr.sliceBounds, run_bound (P := P) (w := w) (k := k) (show 0 ≤ u by omega) h2]
    | some v =>
      obtain ⟨k', rfl⟩ := hl.some v rfl
      simp [Instr.sliceBounds, run_bound (P := P) (w := w) (k := k) (show 0 ≤ u by omega) h2, run_bound (P := P) (w := w) (k := k') (y := u.toNat) h0 (show l ≤ (u.toNat : Int) by omega)]

theorem run_bounds3 {isSlice : Bool} {len cap : Nat} {lo hi mx : Option Value} {l u m : Int} {x y z : Option (Option (V reg.T))} (hl : Bnd x lo 0 l) (hh : Bnd y hi len u) (hm : Bnd z mx 0 m) (hi' : hi ≠ none) (hm' : mx ≠ none) (h0 : 0 ≤ l) (h1 : l ≤ u) (h2 : u ≤ m) (h3 : m ≤ cap) :
    (Instr.sliceBounds isSlice len cap lo hi mx).run P w = .ok (l.toNat, u.toNat, m.toNat) w := by
  cases hi with
  | none => exact absurd rfl hi'
  | some v =>
    cases mx with
    | none => exact absurd rfl hm'
    | some v' =>
      obtain ⟨k, rfl⟩ := hh.some v rfl
      obtain ⟨k2, rfl⟩ := hm.some v' rfl
      cases lo with
      | none => have := hl.none rfl; subst this; simp [Instr.sliceBounds, run_bound (P := P) (w := w) (k := k2) (show 0 ≤ m by omega) h3, run_bound (P := P) (w := w) (k := k) (y := m.toNat) (show 0 ≤ u by omega) (show u ≤ (m.toNat : Int) by omega)]
      | some v =>
        obtain ⟨k', rfl⟩ := hl.some v rfl
        simp [Instr.sliceBounds, run_bound (P := P) (w := w) (k := k2) (show 0 ≤ m by omega) h3, run_bound (P := P) (w := w) (k := k) (y := m.toNat) (show 0 ≤ u by omega) (show u ≤ (m.toNat : Int) by omega), run_bound (P := P) (w := w) (k := k') (y := u.toNat) h0 (show l ≤ (u.toNat : Int) by omega)]

theorem inB_eq {lo hi mx : Int} (h : inB lo hi mx = true) : 0 ≤ lo ∧ lo ≤ hi ∧ hi ≤ mx := by
  unfold inB at h
  simp only [Bool.and_eq_true, decide_eq_true_eq] at h
  exact ⟨h.1.1, h.1.2, h.2⟩

theorem sliceAt_slice {t e : TypeId} {a : Option Addr} {len cap : Nat} {lo hi mx : Option Value} {l u m : Nat} (ht : P.underlying t = some (.slice e)) (hie : (P.info? e).isSome = true) (hb : (Instr.sliceBounds true len cap lo hi mx).run P w = .ok (l, u, m) w) :
    (Instr.sliceAt t (.slice a len cap) lo hi mx).run P w = .ok (.slice (if m = l then a else a.map (·.add (l * P.cellsOf e))) (u - l) (m - l)) w := by
  simp [Instr.sliceAt, Instr.slice, run_underlying ht, hb, run_sizeOf_info hie]

/-- A piece of data. -/
theorem sub_rel {x : D reg.T} {n lo hi k : Nat} {a : Option Addr} {cap : Nat} (hx : x.isSl = true) (hl : x.len? reg = some n) (h1 : lo ≤ hi) (h2 : hi ≤ n) (hk : x.k reg 0 = k) (hd : DRel reg F w x (.slice a n cap)) :
    DRel reg F w (x.sub reg lo hi) (.slice (if cap = lo then a else a.map (·.add (lo * k))) (hi - lo) (cap - lo)) := by
  have hs := sub_k (lo := lo) (hi := hi) (k0 := 0) hx
  have hsl := sub_len hl h1 h2 hx
  by_cases he : hi - lo = 0
  · rw [he] at hsl ⊢
    exact .emp _ hs.2 hsl _ _
  · cases hd with
    | nils => cases hx
    | emp _ hx1 hx2 => rw [hx2] at hl; cases hl; omega
    | sl _ _ ad _ C t fz hx1 hx2 hF hb hsp hc hm hz hkr hr =>
      have hne : ¬ cap = lo := by omega
      rw [if_neg hne]
      obtain ⟨ab, ao, asp⟩ := ad
      simp only at hsp hF hb hz hr
      subst hsp
      simp only [Option.map_some, addr_zero]
      have hle : lo * k + (hi - lo) * k ≤ n * k := by rw [← Nat.add_mul]; exact Nat.mul_le_mul_right _ (by omega)
      rw [hk] at hz hkr hr
      refine .sl _ (hi - lo) ⟨ab, ao + lo * k, none⟩ (cap - lo) C t fz hs.2 hsl hF hb rfl (by omega) (by omega) ?_ ?_ ?_
      · rw [hs.1, hk]; simp only; omega
      · intro r hrr
        rw [sub_row hl hx r hrr, hs.1, hk]
        exact hkr _ (by omega)
      · intro r j hrr hj
        rw [hs.1, hk] at hj ⊢
        rw [sub_row hl hx r hrr]
        have := hr (lo + r) j (by omega) hj
        rw [Nat.add_mul] at this
        simp only
        rwa [show ao + lo * k + r * k + j = ao + (lo * k + r * k) + j by omega]

theorem sliceG_ok {t : TypeId} {x : V reg.T} {cx : Value} {lo hi mx : Option (Option (V reg.T))} {clo chi cmx : Option Value} {Q : V reg.T × Hp reg.T → Prop} (hH : HR N F φ h w) (hq : (sliceG P t x lo hi mx h).K Q) (hx : VRel reg F w φ x cx)
    (clo0 : lo = none ↔ clo = none) (clo1 : ∀ v cv, lo = some (some v) → clo = some cv → VRel reg F w φ v cv) (chi0 : hi = none ↔ chi = none) (chi1 : ∀ v cv, hi = some (some v) → chi = some cv → VRel reg F w φ v cv)
    (cmx0 : mx = none ↔ cmx = none) (cmx1 : ∀ v cv, mx = some (some v) → cmx = some cv → VRel reg F w φ v cv) : OpOk P N F φ h w (Instr.sliceAt t cx clo chi cmx) Q := by
  unfold sliceG at hq
  split at hq
  · -- a text
    rename_i s
    split at hq
    · rename_i l u ht hl hh
      have ht := isStrT_eq ht
      have hmx := cmx0.1 rfl
      subst hmx
      obtain ⟨hb, hq⟩ := Out.K_need.1 hq
      obtain ⟨h0, h1, h2⟩ := inB_eq hb
      have bl := bnd_ok hl clo0 clo1
      have bh := bnd_ok hh chi0 chi1
      rw [hx.str_inv]
      have hsz : (ByteArray.mk s.toArray).size = s.length := by simp [ByteArray.size]
      have hrun := run_bounds (P := P) (w := w) (isSlice := false) (len := s.length) (cap := s.length) bl bh h0 h1 h2
      refine ⟨.string ⟨((s.take u.toNat).drop l.toNat).toArray⟩, w, ?_, .pure hH hq (.d _ _ (.str _))⟩
      have e : (s.drop l.toNat).take (u.toNat - l.toNat) = (s.take u.toNat).drop l.toNat := by rw [List.drop_take]
      simp [Instr.sliceAt, Instr.slice, run_underlying ht, hsz, hrun, ByteArray.extract_mk, e]
    · exact hq.elim
  · rename_i x hns
    split at hq
    · rename_i n e l hn ht hl
      have ht := sliceT_eq ht
      have bl := bnd_ok hl clo0 clo1
      -- what stands there is a slice
      have hform : ∃ a cap, cx = .slice a n cap ∧ n ≤ cap ∧ DRel reg F w x (.slice a n cap) ∧ (x = .nils → n = 0 ∧ cap = 0) := by
        cases hx with | d _ _ hd =>
        cases hd <;> (try (simp only [D.len?, reduceCtorEq] at hn; done))
        case nils => simp only [D.len?, Option.some.injEq] at hn; subst hn; exact ⟨none, 0, rfl, Nat.le_refl _, .nils, fun _ => ⟨rfl, rfl⟩⟩
        case emp base cap hx1 hx2 => rw [hx2] at hn; cases hn; exact ⟨base, cap, rfl, Nat.zero_le _, .emp _ hx1 hx2 _ _, fun e => by rw [e] at hx1; cases hx1⟩
        case sl n' a cap C t' fz hF hb hs hc hm hx1 hx2 hz hkr hr =>
          rw [hx2] at hn; cases hn
          exact ⟨_, cap, rfl, hc, .sl _ _ a cap C t' fz hx1 hx2 hF hb hs hc hm hz hkr hr, fun e => by rw [e] at hx1; cases hx1⟩
      obtain ⟨a, cap, rfl, hnc, hd, hnils⟩ := hform
      split at hq
      · have hmx := cmx0.1 rfl
        subst hmx
        split at hq
        · rename_i u hh
          have bh := bnd_ok hh chi0 chi1
          split at hq
          · obtain ⟨hb, hq2⟩ := Out.K_need.1 hq
            clear hq
            simp only [Bool.and_eq_true] at hb
            obtain ⟨h0, h1, h2⟩ := inB_eq hb.1
            obtain ⟨rfl, rfl⟩ := hnils rfl
            have hrun := run_bounds (P := P) (w := w) (isSlice := true) (len := 0) (cap := 0) bl bh h0 h1 h2
            refine ⟨_, w, sliceAt_slice ht hb.2 hrun, .pure hH hq2 (.d _ _ ?_)⟩
            have e1 : u.toNat - l.toNat = 0 := by omega
            have e2 : 0 - l.toNat = 0 := by omega
            have ha : a = none := by
              cases hd with
              | nils => rfl
              | emp _ h => cases h
              | sl _ _ _ _ _ _ _ h => cases h
            subst ha
            rw [e1, e2]
            have e3 : (if (0 : Nat) = l.toNat then (none : Option Addr) else Option.map (fun x : Addr => x.add (l.toNat * P.cellsOf e)) none) = none := by split <;> rfl
            rw [e3]
            exact .nils
          · rename_i hnn
            obtain ⟨hb, hq⟩ := Out.K_need.1 hq
            simp only [Bool.and_eq_true] at hb
            obtain ⟨h0, h1, h2⟩ := inB_eq hb.1.1
            have hk := Nat.eq_of_beq_eq_true hb.2
            have hsl : x.isSl = true := by cases x <;> first | rfl | (simp only [D.len?, reduceCtorEq] at hn; done) | exact absurd rfl hnn
            have hrun := run_bounds (P := P) (w := w) (isSlice := true) (len := n) (cap := cap) bl bh h0 h1 (by omega)
            refine ⟨_, w, sliceAt_slice ht hb.1.2 hrun, .pure hH hq (.d _ _ ?_)⟩
            exact sub_rel hsl hn (by omega) (by omega) (by rw [k_any hsl 0 (P.cellsOf e)]; exact hk) hd
        · exact hq.elim
      · rename_i m
        split at hq
        · rename_i hhi hh hm
          have bh := bnd_ok hh chi0 chi1
          have bm := bnd_ok hm cmx0 cmx1
          obtain ⟨hb, hq2⟩ := Out.K_need.1 hq
          clear hq
          simp only [Bool.and_eq_true] at hb
          obtain ⟨h0, h1, h2⟩ := inB_eq hb.1
          have hmx' : cmx ≠ none := fun e => by have := cmx0.2 e; cases this
          cases chi with
          | none => rw [chi0.2 rfl] at hhi; cases hhi
          | some vh =>
            have hrun := run_bounds3 (P := P) (w := w) (isSlice := true) (len := n) (cap := cap) bl bh bm (by simp) hmx' h0 h1 (Int.le_refl _) (by omega)
            refine ⟨_, w, sliceAt_slice ht hb.2 hrun, .pure hH hq2 (.d _ _ ?_)⟩
            have e1 : (0 : Int).toNat - l.toNat = 0 := by omega
            have ha : a = none := by
              cases hd with
              | nils => rfl
              | emp _ h => cases h
              | sl _ _ _ _ _ _ _ h => cases h
            subst ha
            rw [e1]
            have e3 : (if (0 : Int).toNat = l.toNat then (none : Option Addr) else Option.map (fun x : Addr => x.add (l.toNat * P.cellsOf e)) none) = none := by split <;> rfl
            rw [e3]
            exact .nils
        · exact hq.elim
    · exact hq.elim
  · rename_i i off len cap
    split at hq
    · rename_i e l o ht hl hi'
      have ht := sliceT_eq ht
      have bl := bnd_ok hl clo0 clo1
      obtain ⟨hc, hq⟩ := Out.K_ask.1 hq
      simp only [Bool.and_eq_true] at hc
      obtain ⟨⟨hrw, hke⟩, hie⟩ := hc
      have hke := Nat.eq_of_beq_eq_true hke
      -- the value: where it lies, its capacity
      have hform : ∃ a cap', cx = .slice a len cap' ∧ CapRel cap cap' ∧ len ≤ cap' ∧ ∀ (l u m : Nat) (cap2 : Cap), l ≤ u → u ≤ m → m ≤ cap' → CapRel cap2 (m - l) → (cap.loose = true → cap2.loose = true ∨ l < m) →
          VRel reg F w φ (.sl i (off + l) (u - l) cap2) (.slice (if m = l then a else a.map (·.add (l * P.cellsOf e))) (u - l) (m - l)) := by
        cases hx with
        | sl _ _ _ _ b s k z cap' hp hcr hlc hm hzz =>
          refine ⟨_, cap', rfl, hcr, hlc, fun l u m cap2 h1 h2 h3 h4 h5' => ?_⟩
          obtain ⟨_, rfl, _⟩ := row_at hH hi' hp hrw
          by_cases hml : m = l
          · have e1 : u - l = 0 := by omega
            have e2 : m - l = 0 := by omega
            rw [e1, e2, if_pos hml]
            rw [e2] at h4
            exact .slz _ _ _ _ h4 (fun e => by cases e)
          · rw [if_neg hml]
            simp only [Option.map_some, addr_zero]
            have h5 : l * o.k reg + (m - l) * o.k reg ≤ cap' * o.k reg := by rw [← Nat.add_mul]; exact Nat.mul_le_mul_right _ (by omega)
            have := VRel.sl (reg := reg) (F := F) (w := w) (φ := φ) i (off + l) (u - l) cap2 b s (o.k reg) z (m - l) hp h4 (by omega) (by omega) (by rw [Nat.add_mul]; omega)
            rw [hke] at this
            rw [Nat.add_mul, ← Nat.add_assoc] at this
            rw [hke]
            exact this
        | slz _ _ _ base hcr hnb =>
          refine ⟨base, 0, rfl, hcr, Nat.le_refl _, fun l u m cap2 h1 h2 h3 h4 h5 => ?_⟩
          have e1 : u - l = 0 := by omega
          have e2 : m - l = 0 := by omega
          rw [e1, e2]
          rw [e2] at h4
          refine .slz _ _ _ _ h4 (fun e => ?_)
          have hbn : base = none := by
            rw [if_pos (by omega)] at e
            exact e
          rcases h5 (hnb hbn) with h6 | h6
          · exact h6
          · omega
      obtain ⟨a, cap', rfl, hcr, hlc, hv⟩ := hform
      have hmin : capMin cap len ≤ cap' := by
        cases cap with
        | exact c => have : cap' = c := hcr; simp only [capMin]; omega
        | least c => have : c ≤ cap' := hcr; simp only [capMin]; exact Nat.max_le.2 ⟨this, hlc⟩
      split at hq
      · have hmx := cmx0.1 rfl
        subst hmx
        split at hq
        · rename_i u hh
          have bh := bnd_ok hh chi0 chi1
          obtain ⟨hb, hq⟩ := Out.K_need.1 hq
          obtain ⟨h0, h1, h2⟩ := inB_eq hb
          have hrun := run_bounds (P := P) (w := w) (isSlice := true) (len := len) (cap := cap') bl bh h0 h1 (by omega)
          refine ⟨_, w, sliceAt_slice ht hie hrun, .pure hH hq ?_⟩
          have e1 : (u - l).toNat = u.toNat - l.toNat := by omega
          rw [e1]
          refine hv l.toNat u.toNat cap' _ (by omega) (by omega) (Nat.le_refl _) ?_ ?_
          · cases cap with
            | exact c => have : cap' = c := hcr; subst this; exact rfl
            | least c => have : c ≤ cap' := hcr; exact Nat.sub_le_sub_right (Nat.max_le.2 ⟨this, hlc⟩) _
          · intro hlo
            cases cap with
            | exact c => cases hlo
            | least c => exact .inl rfl
        · exact hq.elim
      · rename_i m
        split at hq
        · rename_i u w' hhi hh hm
          have bh := bnd_ok hh chi0 chi1
          have bm := bnd_ok hm cmx0 cmx1
          obtain ⟨hb, hq⟩ := Out.K_need.1 hq
          simp only [Bool.and_eq_true, Bool.or_eq_true, decide_eq_true_eq] at hb
          obtain ⟨hb, hbl⟩ := hb
          obtain ⟨h0, h1, h2⟩ := inB_eq hb.1
          have hmx' : cmx ≠ none := fun e => by have := cmx0.2 e; cases this
          cases chi with
          | none => rw [chi0.2 rfl] at hhi; cases hhi
          | some vh =>
            have hrun := run_bounds3 (P := P) (w := w) (isSlice := true) (len := len) (cap := cap') bl bh bm (by simp) hmx' h0 h1 h2 (by omega)
            refine ⟨_, w, sliceAt_slice ht hie hrun, .pure hH hq ?_⟩
            have e1 : (u - l).toNat = u.toNat - l.toNat := by omega
            have e2 : (w' - l).toNat = w'.toNat - l.toNat := by omega
            rw [e1, e2]
            refine hv l.toNat u.toNat w'.toNat _ (by omega) (by omega) (by omega) rfl (fun hlo => .inr ?_)
            rcases hbl with h7 | h7
            · rw [hlo] at h7; cases h7
            · omega
        · exact hq.elim
    · exact hq.elim
  · exact hq.elim
end
end Go.W

namespace Go.W
open Go Go.RowKit

section
variable {reg : Reg} {P : Program} {N F : Nat → Prop} {φ : Phi} {h : Hp reg.T} {w : World}

theorem indexAddrG_ok {t : TypeId} {x i : V reg.T} {cx ci : Value} {Q : V reg.T × Hp reg.T → Prop} (hH : HR N F φ h w) (hq : (indexAddrG P t x i h).K Q) (hx : VRel reg F w φ x cx) (hi : VRel reg F w φ i ci) : OpOk P N F φ h w (Instr.indexAt t cx ci) Q := by
  unfold indexAddrG at hq
  split at hq
  · rename_i k n
    rw [hi.int_inv]
    have arr : ∀ (m : Nat) (e : TypeId) (b o : Nat), P.underlying t = some (.array m e) → (P.info? e).isSome = true → 0 ≤ n → n < (m : Int) →
        (Instr.indexAt t (.pointer (some ⟨b, o, none⟩)) (.int k n)).run P w = .ok (.pointer (some ⟨b, o + n.toNat * P.cellsOf e, none⟩)) w := by
      intro m e b o hu hie h0 h1
      simp [Instr.indexAt, asIntOf, run_underlying hu, Instr.sureAddr, h0, h1, run_sizeOf_info hie, addr_zero]
    have slc : ∀ (e : TypeId) (b o len cap : Nat), P.underlying t = some (.slice e) → (P.info? e).isSome = true → 0 ≤ n → n < (len : Int) →
        (Instr.indexAt t (.slice (some ⟨b, o, none⟩) len cap) (.int k n)).run P w = .ok (.pointer (some ⟨b, o + n.toNat * P.cellsOf e, none⟩)) w := by
      intro e b o len cap hu hie h0 h1
      simp [Instr.indexAt, asIntOf, run_underlying hu, h0, h1, run_sizeOf_info hie, addr_zero]
    split at hq
    · rename_i j r o
      split at hq
      · rename_i m e hu
        obtain ⟨hb, hq⟩ := Out.K_need.1 hq
        simp only [Bool.and_eq_true, decide_eq_true_eq] at hb
        obtain ⟨b, s, kk, z, hp, rfl⟩ := hx.ptr_inv
        refine ⟨_, w, arr m e _ _ hu hb.2 hb.1.1 hb.1.2, .pure hH hq ?_⟩
        have := VRel.ptr (reg := reg) (F := F) (w := w) (φ := φ) j r (o + n.toNat * P.cellsOf e) b s kk z hp
        rwa [show s + r * kk + (o + n.toNat * P.cellsOf e) = s + r * kk + o + n.toNat * P.cellsOf e by omega] at this
      · exact hq.elim
    · rename_i row o
      split at hq
      · rename_i m e hu
        obtain ⟨hb, hq⟩ := Out.K_need.1 hq
        simp only [Bool.and_eq_true, decide_eq_true_eq] at hb
        cases hx with
        | fp _ _ ad C ct fz hF hbk hz hr =>
          refine ⟨_, w, arr m e _ _ hu hb.2 hb.1.1 hb.1.2, .pure hH hq ?_⟩
          have := VRel.fp (reg := reg) (F := F) (w := w) (φ := φ) row (o + n.toNat * P.cellsOf e) ad C ct fz hF hbk hz hr
          rwa [show ad.off + (o + n.toNat * P.cellsOf e) = ad.off + o + n.toNat * P.cellsOf e by omega] at this
      · exact hq.elim
    · rename_i x
      split at hq
      · rename_i e len ht hl
        have ht := sliceT_eq ht
        obtain ⟨hb, hq⟩ := Out.K_need.1 hq
        simp only [Bool.and_eq_true, decide_eq_true_eq] at hb
        obtain ⟨⟨⟨h0, h1⟩, hk⟩, hie⟩ := hb
        have hk := Nat.eq_of_beq_eq_true hk
        cases hx with | d _ _ hd =>
        cases hd <;> (try (simp only [D.len?, reduceCtorEq] at hl; done))
        case nils => simp only [D.len?, Option.some.injEq] at hl; subst hl; omega
        case emp base cap hx1 hx2 => rw [hx2] at hl; cases hl; omega
        case sl n' a cap C t' fz hF hb hs hc hm hx1 hx2 hz hkr hr =>
          rw [hx2] at hl; cases hl
          obtain ⟨ab, ao, asp⟩ := a
          simp only at hs hF hb hz hr
          subst hs
          rw [k_any hx1 _ 0] at hk
          rw [hk] at hz hkr hr
          have hn : n.toNat < len := by omega
          refine ⟨_, w, slc e ab ao len cap ht hie h0 h1, .pure hH hq ?_⟩
          have hlen := hkr n.toNat hn
          have := VRel.fp (reg := reg) (F := F) (w := w) (φ := φ) (x.row reg n.toNat) 0 ⟨ab, ao + n.toNat * P.cellsOf e, none⟩ C t' fz hF hb (by
              rw [hlen]
              have : (n.toNat + 1) * P.cellsOf e ≤ len * P.cellsOf e := Nat.mul_le_mul_right _ hn
              rw [Nat.succ_mul] at this
              simp only
              omega) (fun j hj => hr n.toNat j hn (by omega))
          simpa using this
      · exact hq.elim
    · rename_i j off len cap
      split at hq
      · rename_i e o ht ho
        have ht := sliceT_eq ht
        obtain ⟨hc, hq⟩ := Out.K_ask.1 hq
        simp only [Bool.and_eq_true] at hc
        obtain ⟨⟨hrw, hke⟩, hie⟩ := hc
        have hke := Nat.eq_of_beq_eq_true hke
        obtain ⟨hb, hq⟩ := Out.K_need.1 hq
        simp only [Bool.and_eq_true, decide_eq_true_eq] at hb
        cases hx with
        | sl _ _ _ _ b s kk z cap' hp hcr hlc hm hzz =>
          obtain ⟨_, rfl, _⟩ := row_at hH ho hp hrw
          refine ⟨_, w, slc e _ _ len cap' ht hie hb.1 hb.2, .pure hH hq ?_⟩
          have := VRel.ptr (reg := reg) (F := F) (w := w) (φ := φ) j (off + n.toNat) 0 b s _ z hp
          rw [Nat.add_mul, Nat.add_zero, ← Nat.add_assoc, hke] at this
          rw [hke]
          exact this
        | slz _ _ _ base hcr => omega
      · exact hq.elim
    · exact hq.elim
  · exact hq.elim

theorem part_ok {t : TypeId} {vs : List (V reg.T)} {cs : Array Value} {off : Nat} {v : V reg.T} (hz : vs.length = cs.size) (hr : ∀ j, j < vs.length → VRel reg F w φ (vs.getD j .any) (cs.getD j undef))
    (hv : asVar P t ((vs.drop off).take (P.cellsOf t)) = some v) : ∃ cv, (part t cs off).run P w = .ok cv w ∧ VRel reg F w φ v cv := by
  have hg : ∀ j, j < ((vs.drop off).take (P.cellsOf t)).length → ((vs.drop off).take (P.cellsOf t)).getD j .any = vs.getD (off + j) .any ∧ off + j < vs.length ∧ j < P.cellsOf t := by
    intro j hj
    simp only [List.length_take, List.length_drop] at hj
    refine ⟨?_, by omega, by omega⟩
    simp only [List.getD, List.getElem?_take, List.getElem?_drop]
    rw [if_pos (by omega)]
  obtain ⟨hk, hlen, hrel⟩ := asVar_rel (reg := reg) (F := F) (w := w) (φ := φ) hv (fun j => cs.getD (off + j) undef) (fun j hj => by rw [(hg j hj).1]; exact hr _ (hg j hj).2.1)
  have hk' := hk
  unfold knownT at hk'
  simp only [Bool.and_eq_true] at hk'
  cases ha : isAggT P t with
  | true =>
    rw [ha] at hrel hlen
    simp only [if_true] at hrel hlen
    refine ⟨_, ?_, hrel⟩
    simp only [part, Sem.run_bind, run_isAgg hk, Result.andThen_ok, ha, if_true, run_sizeOf_info hk'.2, Sem.run_pure, Result.ok.injEq, Value.agg.injEq, and_true]
    have hle : off + P.cellsOf t ≤ cs.size ∨ P.cellsOf t = 0 := by
      rcases Nat.eq_zero_or_pos (P.cellsOf t) with h | h
      · exact .inr h
      · left
        have := (hg (P.cellsOf t - 1) (by omega)).2.1
        omega
    apply Array.ext
    · simp; omega
    · intro j h1 h2
      simp at h2
      have : off + j < cs.size := by omega
      simp [Array.getD, this]
  | false =>
    rw [ha] at hrel hlen
    simp only [Bool.false_eq_true, if_false, Nat.add_zero] at hrel hlen
    have h0 := hg 0 (by omega)
    have hlt : off < cs.size := by omega
    refine ⟨_, ?_, hrel⟩
    have e : cs[off]? = some (cs.getD off undef) := by simp [hlt]
    simp only [part, Sem.run_bind, run_isAgg hk, Result.andThen_ok, ha, e]
    rfl

theorem indexG_ok {t : TypeId} {x i : V reg.T} {cx ci : Value} {Q : V reg.T × Hp reg.T → Prop} (hH : HR N F φ h w) (hq : (indexG P t x i h).K Q) (hx : VRel reg F w φ x cx) (hi : VRel reg F w φ i ci) : OpOk P N F φ h w (Instr.index t cx ci) Q := by
  unfold indexG at hq
  split at hq
  · rename_i s k n
    rw [hi.int_inv, hx.str_inv]
    obtain ⟨ht, hq⟩ := Out.K_ask.1 hq
    have ht := isStrT_eq ht
    obtain ⟨hb, hq⟩ := Out.K_need.1 hq
    simp only [Bool.and_eq_true, decide_eq_true_eq] at hb
    have hlt : n.toNat < (ByteArray.mk s.toArray).size := by simp [ByteArray.size]; omega
    have hlt' : n.toNat < s.length := by omega
    refine ⟨_, w, ?_, .pure hH hq (.d _ _ (.int _ _))⟩
    have e : (ByteArray.mk s.toArray)[n.toNat] = s.getD n.toNat 0 := by
      simp [List.getD, hlt']
      rfl
    simp [Instr.index, asIntOf, run_underlying ht, hb.1, ByteArray.getElem?_lt' _ _ hlt, e]
  · rename_i vs k n
    rw [hi.int_inv]
    split at hq
    · rename_i m e hu
      obtain ⟨hb, hq⟩ := Out.K_need.1 hq
      simp only [Bool.and_eq_true, decide_eq_true_eq] at hb
      obtain ⟨v, hv, hq⟩ := K_oneO hq
      cases hx with
      | agg _ cs hz hr =>
        obtain ⟨cv, h1, h2⟩ := part_ok hz hr hv
        have hk := (asVar_rel (reg := reg) (F := F) (w := w) (φ := φ) hv (fun j => cs.getD (n.toNat * P.cellsOf e + j) undef) (fun j hj => by
          simp only [List.length_take, List.length_drop] at hj
          have : ((vs.drop (n.toNat * P.cellsOf e)).take (P.cellsOf e)).getD j .any = vs.getD (n.toNat * P.cellsOf e + j) .any := by
            simp only [List.getD, List.getElem?_take, List.getElem?_drop]
            rw [if_pos (by omega)]
          rw [this]; exact hr _ (by omega))).1
        unfold knownT at hk
        simp only [Bool.and_eq_true] at hk
        refine ⟨cv, w, ?_, .pure hH hq h2⟩
        simp [Instr.index, asIntOf, run_underlying hu, hb.1.1, hb.1.2, run_sizeOf_info hk.2, h1]
    · exact hq.elim
  · exact hq.elim

theorem fieldG_ok {t : TypeId} {x : V reg.T} {f : Nat} {cx : Value} {Q : V reg.T × Hp reg.T → Prop} (hH : HR N F φ h w) (hq : (fieldG P t x f h).K Q) (hx : VRel reg F w φ x cx) : OpOk P N F φ h w (Instr.field t cx f) Q := by
  unfold fieldG at hq
  split at hq
  · rename_i vs fs hu
    split at hq
    · rename_i fl hf
      obtain ⟨v, hv, hq⟩ := K_oneO hq
      cases hx with
      | agg _ cs hz hr =>
        obtain ⟨cv, h1, h2⟩ := part_ok hz hr hv
        exact ⟨cv, w, by simp [Instr.field, run_underlying hu, hf, asAgg, h1], .pure hH hq h2⟩
    · exact hq.elim
  · exact hq.elim
end
end Go.W

namespace Go.W
open Go Go.RowKit

section
variable {reg : Reg} {P : Program} {N F : Nat → Prop} {φ : Phi} {h : Hp reg.T} {w : World}

theorem bytesOf_spec : ∀ {xs : List (List (V reg.T))} {s : List UInt8}, bytesOf xs = some s → s.length = xs.length ∧ ∀ r, r < xs.length → ∃ n : Int, xs.getD r [] = [.d (.int .u8 n)] ∧ s.getD r 0 = UInt8.ofNat n.toNat
  | [], s, h => by simp only [bytesOf, Option.some.injEq] at h; subst h; exact ⟨rfl, fun r hr => by simp at hr⟩
  | x :: xs, s, h => by
    unfold bytesOf at h
    split at h
    · rename_i heq; cases heq
    · rename_i n l heq
      cases heq
      split at h
      · rename_i r hr
        simp only [Option.some.injEq] at h
        subst h
        obtain ⟨h1, h2⟩ := bytesOf_spec hr
        refine ⟨by simp [h1], fun q hq => ?_⟩
        cases q with
        | zero => exact ⟨n, rfl, rfl⟩
        | succ q => simpa using h2 q (by simpa using hq)
      · cases h
    · cases h

theorem rwBytes_spec {rs : Rw reg.T} {s : List UInt8} (h : rwBytes rs = some s) : s.length = rs.len ∧ ∀ r, r < rs.len → ∃ n : Int, rs.row reg r = [.d (.int .u8 n)] ∧ s.getD r 0 = UInt8.ofNat n.toNat := by
  cases rs with
  | u xs => exact bytesOf_spec h
  | t e xs =>
    simp only [rwBytes] at h
    split at h
    · rename_i hb
      simp only [Option.some.injEq] at h
      subst h
      refine ⟨reg.toS_len e xs hb, fun r hr => ?_⟩
      obtain ⟨n, h1, h2⟩ := reg.toS_get e xs r hb hr
      exact ⟨n, by simp only [Rw.row]; rw [h1]; rfl, h2⟩
    · cases h

theorem foldl_push : ∀ (ns : List Int) (r : ByteArray), ns.foldl (fun r n => r.push (UInt8.ofNat n.toNat)) r = ⟨r.data ++ (ns.map fun n => UInt8.ofNat n.toNat).toArray⟩
  | [], r => by simp
  | n :: l, r => by
    simp only [List.foldl_cons, List.map_cons]
    rw [foldl_push l]
    simp [ByteArray.push]

theorem slv_form {k n : Nat} {x : V reg.T} {cx : Value} {rs : Rw reg.T} (hsl : slv k x h = some (n, rs)) (hx : VRel reg F w φ x cx) : ∃ base cap', cx = .slice base n cap' := by
  cases x with
  | d x =>
    cases hx with | d _ _ hd' =>
    have hl : x.len? reg = some n := by
      simp only [slv] at hsl
      split at hsl
      · rename_i m hm _; cases hsl; exact hm
      · cases hsl
    cases hd' <;> (try (simp only [D.len?, reduceCtorEq] at hl; done))
    case nils => simp only [D.len?, Option.some.injEq] at hl; subst hl; exact ⟨none, 0, rfl⟩
    case emp base cap hx1 hx2 => rw [hx2] at hl; cases hl; exact ⟨base, cap, rfl⟩
    case sl n' a cap C t' fz hF hb hs hc hm hx1 hx2 hz hkr hr => rw [hx2] at hl; cases hl; exact ⟨_, cap, rfl⟩
  | sl i off len cap =>
    have hl : len = n := by
      simp only [slv] at hsl
      split at hsl
      · split at hsl
        · cases hsl; rfl
        · cases hsl
      · cases hsl
    subst hl
    cases hx with
    | sl _ _ _ _ b s k z cap' hp hcr hlc hm hzz => exact ⟨_, cap', rfl⟩
    | slz _ _ _ base hcr => exact ⟨base, 0, rfl⟩
  | _ => simp [slv] at hsl

theorem convertG_ok {src dst : TypeId} {x : V reg.T} {cx : Value} {Q : V reg.T × Hp reg.T → Prop} (hH : HR N F φ h w) (hfr : ∀ r, Q r → Fresh N h.nx r.2.nx) (hq : (convertG P src dst x h).K Q) (hx : VRel reg F w φ x cx) : OpOk P N F φ h w (convert src dst cx) Q := by
  unfold convertG at hq
  split at hq
  · rename_i ds k k' n hs hd
    rw [hx.int_inv]
    exact ⟨_, w, by simp [convert, run_underlying hs, run_underlying hd, Conv.intToInt], .pure hH hq (.d _ _ (.int _ _))⟩
  · rename_i ds s hs hd
    rw [hx.str_inv]
    exact ⟨_, w, by simp [convert, run_underlying hs, run_underlying hd], .pure hH hq (.d _ _ (.str _))⟩
  · -- text to bytes
    rename_i ds e s hs hd
    rw [hx.str_inv]
    split at hq
    · rename_i o hu hk1 ho
      have hu := u8T_eq hu
      have hk1 := Nat.eq_of_beq_eq_true hk1
      obtain ⟨hb, hq⟩ := Out.K_need.1 hq
      have hb : s.length ≤ 140737488355328 := Nat.le_of_ble_eq_true hb
      obtain ⟨hok, hq⟩ := K_newO hq
      obtain ⟨g1, g2, g3, g4⟩ := mkRows_spec ho
      obtain ⟨s1, s2⟩ := strRw_spec (reg := reg) e s
      have hsz : (ByteArray.mk s.toArray).size = s.length := by simp [ByteArray.size]
      have hrun := Lib.run_convert_string_bytes (P := P) w src dst e (ByteArray.mk s.toArray) hs hd hu
      rw [hsz] at hrun
      have hcap1 := grownCap_ge w s.length 0 e
      have hcap2 := grownCap_le_maxLen w s.length 0 e (by simp [maxLen]; omega)
      have hC : (Lib.bytesCells w e (ByteArray.mk s.toArray)).size = grownCap w s.length 0 e := by
        simp [Lib.bytesCells, hsz]; omega
      have z0 : (Rw.u [] : Rw reg.T).len = 0 := rfl
      rw [z0, s1, Nat.zero_add] at g3
      rw [z0, s1, Nat.zero_add] at g4
      refine ⟨_, _, hrun, alloc_ok hH hq (fresh_new hfr hq) hok rfl rfl rfl (by rw [Lib.bytesWorld_size]; omega) (fun b hb => Lib.bytesWorld_at_old w e _ b hb) (Lib.bytesWorld_at_new w e _) (.inr (Nat.le_refl _)) g1 (by rw [g3, g2, hk1, hC]; omega) (by rw [g3]; omega) ?_ ?_⟩
      · rw [g3, g2, hk1]
        have hrow : ∀ r, r < s.length → o.row reg r = [.d (.int .u8 (s.getD r 0).toNat)] := fun r hr => by rw [g4 r hr, if_neg (by omega), Nat.sub_zero, s2 r hr]
        refine ⟨fun r hr => by rw [hrow r hr]; rfl, fun r j hr hj => ?_, fun r j hr hj => ?_⟩
        · obtain rfl : j = 0 := by omega
          rw [hrow r hr]; rfl
        · obtain rfl : j = 0 := by omega
          rw [hrow r hr, Nat.mul_one, Nat.add_zero]
          have e1 : (Lib.bytesCells w e (ByteArray.mk s.toArray)).getD r undef = .int .u8 (s.getD r 0).toNat := by
            simp only [Lib.bytesCells, Array.getD_eq_getD_getElem?]
            rw [Array.getElem?_append_left (by simp; exact hr)]
            simp [List.getD, hr]
          rw [e1]
          exact .d _ _ (.int _ _)
      · intro φ' e1 e2
        rw [g2, hk1, hC] at e1
        have := VRel.sl (reg := reg) (F := F) (w := Lib.bytesWorld w e (ByteArray.mk s.toArray)) (φ := φ') h.nx 0 s.length (.least s.length) _ _ _ _ (grownCap w s.length 0 e) e1 hcap1 hcap1 (by simpa [maxLen] using hcap2) (by omega)
        simpa using this
    · exact hq.elim
  · -- bytes to bytes
    rename_i es e i off len cap hs hd
    split at hq
    · rename_i o hc ho
      simp only [Bool.and_eq_true] at hc
      have hsd := Nat.eq_of_beq_eq_true hc.1
      have hu := u8T_eq hc.2
      subst hsd
      rw [hs] at hd
      cases hd
      obtain ⟨hrow, hq⟩ := Out.K_ask.1 hq
      obtain ⟨hpos, hq⟩ := Out.K_need.1 hq
      have hpos : 0 < len := Nat.le_of_ble_eq_true hpos
      · cases hx with
        | sl _ _ _ _ b s k z cap' hp hcr hlc hm hzz =>
          obtain ⟨h0, rfl, _, _, C, ct, fz, h1, h3, h2, hCz⟩ := row_at hH ho hp hrow
          obtain ⟨lo, hi⟩ := fz
          have hnew : (w.freeze ⟨b, C.size, none⟩ 1).heap[b]? = some (.cells C ct (if lo == hi then (C.size, C.size + 1) else (min lo C.size, max hi (C.size + 1)))) := by
            simp [World.freeze, Array.getElem?_modify, h1]
          have hold : ∀ b', b' ≠ b → (w.freeze ⟨b, C.size, none⟩ 1).heap[b']? = w.heap[b']? := by
            intro b' hb'
            simp [World.freeze, Array.getElem?_modify, Ne.symm hb']
          have hrun : (convert src src (.slice (some ⟨b, s + off * o.k reg, none⟩) len cap')).run P w = .ok (.slice (some ⟨b, s + off * o.k reg, none⟩) len cap') (w.freeze ⟨b, C.size, none⟩ 1) := by
            have hsh : w.shape? b = some (ct, C.size) := by simp [World.shape?, h1]
            simp [convert, run_underlying hs, run_underlying hu, markStringish, hsh, Result.andThen]
          have hfree : free C (if lo == hi then (C.size, C.size + 1) else (min lo C.size, max hi (C.size + 1))) := by
            unfold free at *
            by_cases he : lo = hi
            · right; simp [he]
            · have h4 : (lo == hi) = false := by simpa using he
              rw [h4]
              simp only [Bool.false_eq_true, if_false]
              simp only at h3
              right
              omega
          exact ⟨_, _, hrun, write_ok hH ho hp hCz hq (by simp [World.freeze]) (by simp [World.freeze]) (by simp [World.freeze]) (by simp [World.freeze]) hold hnew hfree h0 rfl h2 (.sl _ _ _ _ b s _ z cap' hp hcr hlc hm hzz)⟩
        | slz _ _ _ base hcr => omega
    · exact hq.elim
  · -- bytes to text
    rename_i e hs hd hno
    split at hq
    · rename_i p0 n rs hc hsl0
      have hp0 := (Out.K_need.1 hq).1
      replace hq := (Out.K_need.1 hq).2
      have hsl := slvX_to hsl0 hp0
      simp only [Bool.and_eq_true] at hc
      have hu := u8T_eq hc.1
      split at hq
      · rename_i s hb
        obtain ⟨news, hy⟩ := slv_ok (P := P) (tx := src) hH (.inl ⟨e, hs⟩) hsl hx
        obtain ⟨b1, b2⟩ := rwBytes_spec hb
        rw [hy.len] at b1 b2
        have hform := slv_form hsl hx
        obtain ⟨base, cap', rfl⟩ := hform
        have hnl := hy.src.newsLen
        rw [Nat.mul_one] at hnl
        -- the cells are bytes
        have hcells : ∀ r, r < n → ∃ m : Int, news.getD r undef = .int .u8 m ∧ s.getD r 0 = UInt8.ofNat m.toNat := by
          intro r hr
          obtain ⟨m, e1, e2⟩ := b2 r hr
          have := hy.at_.rel r 0 hr (by omega)
          rw [e1, Nat.mul_one, Nat.add_zero] at this
          exact ⟨m, this.int_inv, e2⟩
        have hns : ∃ ns : List Int, news = ns.map (Value.int .u8) ∧ s = ns.map fun m => UInt8.ofNat m.toNat := by
          have key : ∀ (news : List Value) (s : List UInt8), s.length = news.length → (∀ r, r < news.length → ∃ m : Int, news.getD r undef = .int .u8 m ∧ s.getD r 0 = UInt8.ofNat m.toNat) → ∃ ns : List Int, news = ns.map (Value.int .u8) ∧ s = ns.map fun m => UInt8.ofNat m.toNat := by
            intro news
            induction news with
            | nil => intro s hl _; exact ⟨[], rfl, by simpa using hl⟩
            | cons v news ih =>
              intro s hl hc
              cases s with
              | nil => simp at hl
              | cons b s =>
                obtain ⟨m, e1, e2⟩ := hc 0 (by simp)
                obtain ⟨ns, e3, e4⟩ := ih s (by simpa using hl) (fun r hr => by simpa using hc (r + 1) (by simpa using hr))
                exact ⟨m :: ns, by simp at e1; simp [e1, ← e3], by simp at e2; simp [e2, ← e4]⟩
          exact key news s (by omega) (fun r hr => hcells r (by omega))
        obtain ⟨ns, rfl, rfl⟩ := hns
        refine ⟨.string ⟨(ns.map fun m => UInt8.ofNat m.toNat).toArray⟩, w, ?_, .pure hH hq (.d _ _ (.str _))⟩
        rw [run_convert_bytes_string w src dst e base n cap' hs hu hd]
        cases base with
        | none =>
          have hn0 : ns = [] := by
            have := hy.src.cells
            simp [Builtin.firstCells] at this
            exact this
          subst hn0
          simp [Conv.bytesToString, ByteArray.empty, ByteArray.emptyWithCapacity]
          rfl
        | some a =>
          have hl := hy.src.cells
          simp only [Builtin.firstCells, Nat.mul_one] at hl
          rw [run_bytesToString w a n cap' ns hl, foldl_push]
          have e0 : ByteArray.empty.data = #[] := rfl
          rw [e0, Array.empty_append]
      · exact hq.elim
    · exact hq.elim
  · exact hq.elim
end
end Go.W

namespace Go.W
open Go Go.RowKit

section
variable {reg : Reg} {P : Program} {N F : Nat → Prop} {φ : Phi} {h : Hp reg.T} {w : World}

theorem fillV_rel {place : Nat → Option (Nat × Nat)} :
    ∀ (parts : List (Nat × Option (V reg.T))) (cparts : List (Nat × Value)) (vs us : List (V reg.T)) (C : Array Value), fillV place parts vs = some us → parts.map (·.1) = cparts.map (·.1) →
      (∀ (i : Nat) p q v, parts[i]? = some p → cparts[i]? = some q → p.2 = some v → VRel reg F w φ v q.2) → vs.length = C.size → (∀ j, j < vs.length → VRel reg F w φ (vs.getD j .any) (C.getD j undef)) →
      ∃ C', Instr.fill place C cparts = some C' ∧ us.length = C'.size ∧ C'.size = C.size ∧ ∀ j, j < us.length → VRel reg F w φ (us.getD j .any) (C'.getD j undef) := by
  intro parts
  induction parts with
  | nil =>
    intro cparts vs us C h he _ hl hv
    simp only [fillV, Option.some.injEq] at h
    subst h
    cases cparts with
    | nil => exact ⟨C, rfl, hl, rfl, hv⟩
    | cons q r => simp at he
  | cons p parts ih =>
    intro cparts vs us C h he hr hl hv
    obtain ⟨f, ov⟩ := p
    cases cparts with
    | nil => simp at he
    | cons q r =>
      obtain ⟨f', cv⟩ := q
      simp only [List.map_cons, List.cons.injEq] at he
      obtain ⟨rfl, he⟩ := he
      cases ov with
      | none => simp [fillV] at h
      | some v =>
        simp only [fillV] at h
        split at h
        · rename_i off size hfl
          split at h
          · rename_i e1 e2 e3
            have e2 := Nat.eq_of_beq_eq_true e2
            have e3 : off + v.cells.length ≤ vs.length := Nat.le_of_ble_eq_true e3
            have hrel : VRel reg F w φ v cv := hr 0 (f, some v) (f, cv) v (by simp) (by simp) rfl
            obtain ⟨hc1, hc2⟩ := cells_rel hrel e1
            obtain ⟨g1, g2⟩ := getD_setRange_rel (o := off) hl hv hc1 hc2 e3
            obtain ⟨C', k1, k2, k3, k4⟩ := ih r _ us _ h he (fun i p q v' hp hq hv' => hr (i + 1) p q v' (by simpa using hp) (by simpa using hq) hv') g1 g2
            refine ⟨C', ?_, k2, by rw [k3, wrC_size], k4⟩
            simp only [Instr.fill, hfl]
            have hno : ¬ (decide (cv.cells.size ≠ size) || decide (off + cv.cells.size > C.size)) = true := by
              simp only [Bool.or_eq_true, decide_eq_true_eq]
              omega
            rw [if_neg hno]
            have e4 : cv.cells.zipIdx.foldl (fun cs x => cs.setIfInBounds (off + x.2) x.1) C = wrC C off cv.cells.toList := by
              rw [← Array.foldl_toList, Array.toList_zipIdx, foldl_wrC]
              rfl
            exact (congrArg (fun z => Instr.fill place z r) e4).trans k1
          · simp at h
        · simp at h

theorem buildV_rel {t : TypeId} {parts : List (Nat × Option (V reg.T))} {v : V reg.T} (h : buildV P t parts = some v) (cparts : Array (Nat × Value)) (he : parts.map (·.1) = cparts.toList.map (·.1))
    (hr : ∀ (i : Nat) p q v, parts[i]? = some p → cparts.toList[i]? = some q → p.2 = some v → VRel reg F w φ v q.2) : ∃ cv, (Instr.build t cparts).run P w = .ok cv w ∧ VRel reg F w φ v cv := by
  unfold buildV at h
  split at h
  · rename_i fs hu
    split at h
    · rename_i z hall hz
      split at h
      · rename_i vs hvs
        simp only [Option.some.injEq] at h
        subst h
        obtain ⟨i, zv, h1, h2, h3, h4⟩ := zeroT_rel (F := F) (w := w) (φ := φ) hz
        have hm : ∃ places, fs.toList.mapM (fun f => (P.info? f.type).map fun i => (f.offset, i.size)) = some places ∧ places = fs.toList.map fun f => (f.offset, P.cellsOf f.type) := by
          have key : ∀ l : List Field, l.all (fun f => (P.info? f.type).isSome) = true → ∃ places, l.mapM (fun f => (P.info? f.type).map fun i => (f.offset, i.size)) = some places ∧ places = l.map fun f => (f.offset, P.cellsOf f.type) := by
            intro l
            induction l with
            | nil => intro _; exact ⟨[], rfl, rfl⟩
            | cons a l ih =>
              intro hl
              simp only [List.all_cons, Bool.and_eq_true] at hl
              obtain ⟨ps, hps, hps'⟩ := ih hl.2
              obtain ⟨ia, hia⟩ := Option.isSome_iff_exists.1 hl.1
              refine ⟨(a.offset, ia.size) :: ps, by rw [List.mapM_cons, hia, hps]; rfl, ?_⟩
              rw [List.map_cons, hps']
              simp [Program.cellsOf, hia]
          exact key _ hall
        obtain ⟨places, hp, hpl⟩ := hm
        have hpp : (fun i : Nat => (fs[i]?).map fun f : Field => (f.offset, P.cellsOf f.type)) = (fun x : Nat => places.toArray[x]?) := by
          funext x
          rw [hpl]
          simp
        rw [hpp] at hvs
        obtain ⟨C', k1, k2, _, k3⟩ := fillV_rel parts cparts.toList z vs zv.cells hvs he hr h3 (fun j hj => (h4 j hj).1)
        refine ⟨.agg C', run_build w t cparts C' ?_, .agg _ _ k2 k3⟩
        unfold Program.built
        rw [h1, hu]
        simp only [h2, hp]
        exact k1
      · simp at h
    · simp at h
  · rename_i m e hu
    split at h
    · rename_i z hie hz
      split at h
      · rename_i vs hvs
        simp only [Option.some.injEq] at h
        subst h
        obtain ⟨i, zv, h1, h2, h3, h4⟩ := zeroT_rel (F := F) (w := w) (φ := φ) hz
        obtain ⟨ie, hie', hsz, _⟩ := info_of hie
        obtain ⟨C', k1, k2, _, k3⟩ := fillV_rel parts cparts.toList z vs zv.cells hvs he hr h3 (fun j hj => (h4 j hj).1)
        refine ⟨.agg C', run_build w t cparts C' ?_, .agg _ _ k2 k3⟩
        unfold Program.built
        rw [h1, hu]
        simp only [h2, hie', hsz]
        exact k1
      · simp at h
    · simp at h
  · simp at h

theorem chop_spec {α : Type} (k : Nat) : ∀ (n : Nat) (l : List α), l.length = n * k → (chop k n l).length = n ∧ ∀ r, r < n → ∀ d : List α, (chop k n l).getD r d = (l.drop (r * k)).take k
  | 0, l, _ => ⟨rfl, fun r hr => by omega⟩
  | n + 1, l, hl => by
    rw [Nat.succ_mul] at hl
    obtain ⟨h1, h2⟩ := chop_spec k n (l.drop k) (by simp; omega)
    refine ⟨by simp [chop, h1], fun r hr d => ?_⟩
    cases r with
    | zero => simp [chop]
    | succ r =>
      simp only [chop]
      have := h2 r (by omega) d
      rw [List.getD_cons_succ, this, List.drop_drop]
      congr 2
      rw [Nat.succ_mul, Nat.add_comm]

theorem flatten_replicate_get {α : Type} (z : List α) (d : α) : ∀ (n j : Nat), j < n * z.length → ((List.replicate n z).flatten).getD j d = z.getD (j % z.length) d
  | 0, j, hj => by simp at hj
  | n + 1, j, hj => by
    rw [List.replicate_succ, List.flatten_cons, getD_append_if]
    split
    · rename_i hlt; rw [Nat.mod_eq_of_lt hlt]
    · rename_i hge
      rw [Nat.succ_mul] at hj
      rw [flatten_replicate_get z d n _ (by omega)]
      congr 1
      rw [← Nat.mod_eq_sub_mod (by omega)]

theorem buildSliceG_ok {t : TypeId} {len : Nat} {parts : List (Nat × Option (V reg.T))} {Q : V reg.T × Hp reg.T → Prop} (hH : HR N F φ h w) (hfr : ∀ r, Q r → Fresh N h.nx r.2.nx) (hq : (buildSliceG P t len parts h).K Q) (cparts : Array (Nat × Value)) (he : parts.map (·.1) = cparts.toList.map (·.1))
    (hr : ∀ (i : Nat) p q v, parts[i]? = some p → cparts.toList[i]? = some q → p.2 = some v → VRel reg F w φ v q.2) : OpOk P N F φ h w (Instr.buildSlice t len cparts) Q := by
  unfold buildSliceG at hq
  split at hq
  · rename_i e ht
    have ht := sliceT_eq ht
    split at hq
    · rename_i z hz
      split at hq
      · rename_i cs hcs
        split at hq
        · rename_i o ho
          obtain ⟨hb, hq⟩ := Out.K_need.1 hq
          simp only [Bool.and_eq_true] at hb
          obtain ⟨⟨⟨⟨hb1, hb2⟩, hb3⟩, hb4⟩, hb5⟩ := hb
          have hb1 : len * P.cellsOf e ≤ 16777216 := Nat.le_of_ble_eq_true hb1
          have hb2 := Nat.eq_of_beq_eq_true hb2
          have hb4 : 0 < P.cellsOf e := Nat.le_of_ble_eq_true hb4
          obtain ⟨hok, hq⟩ := K_newO hq
          obtain ⟨inf, zv, hinf, hzz, h3, h4⟩ := zeroT_rel (F := F) (w := w) (φ := φ) hz
          have hsz : inf.size = P.cellsOf e := by simp [Program.cellsOf, hinf]
          have hzs : zv.cells.size = P.cellsOf e := by omega
          -- the zero cells
          have hz0 : ((List.replicate len z).flatten).length = len * P.cellsOf e := by simp [hb2]
          have hm0 : (madeCells zv.cells (len * P.cellsOf e)).size = len * P.cellsOf e := size_madeCells _ _
          have hrel0 : ∀ j, j < ((List.replicate len z).flatten).length → VRel reg F w φ (((List.replicate len z).flatten).getD j .any) ((madeCells zv.cells (len * P.cellsOf e)).getD j undef) := by
            intro j hj
            rw [hz0] at hj
            have h6 : j % P.cellsOf e < P.cellsOf e := Nat.mod_lt _ hb4
            rw [flatten_replicate_get z .any len j (by rw [hb2]; exact hj), hb2]
            have e1 : (madeCells zv.cells (len * P.cellsOf e)).getD j undef = zv.cells.getD (j % P.cellsOf e) undef := by
              simp [madeCells, Array.getD, hj, hzs, h6]
            rw [e1]
            exact (h4 _ (by omega)).1
          obtain ⟨C', k1, k2, k3, k4⟩ := fillV_rel parts cparts.toList _ cs (madeCells zv.cells (len * P.cellsOf e)) hcs he hr (by rw [hz0, hm0]) hrel0
          rw [hm0] at k3
          obtain ⟨g1, g2, g3, g4⟩ := mkRows_spec ho
          have hz1 : (Rw.u [] : Rw reg.T).len = 0 := rfl
          have hcl : cs.length = len * P.cellsOf e := by omega
          obtain ⟨c1, c2⟩ := chop_spec (P.cellsOf e) len cs hcl
          have hz2 : (Rw.u (chop (P.cellsOf e) len cs) : Rw reg.T).len = len := c1
          rw [hz1, hz2, Nat.zero_add] at g3
          rw [hz1, hz2, Nat.zero_add] at g4
          have hrow : ∀ r, r < len → o.row reg r = (cs.drop (r * P.cellsOf e)).take (P.cellsOf e) := by
            intro r hr'
            rw [g4 r hr', if_neg (by omega), Nat.sub_zero]
            exact c2 r hr' []
          have hrun : (Instr.buildSlice t len cparts).run P w = .ok (.slice (some ⟨w.heap.size, 0, none⟩) len len) (w.alloc (.cells C' e)) := by
            have hno : ¬ 16777216 < len * P.cellsOf e := by omega
            by_cases hl0 : len * P.cellsOf e = 0
            · have hk1' : Instr.fill (fun i => some (i * P.cellsOf e, P.cellsOf e)) #[] cparts.toList = some C' := by
                have : madeCells zv.cells (len * P.cellsOf e) = #[] := Array.eq_empty_of_size_eq_zero (by rw [size_madeCells]; exact hl0)
                rwa [this] at k1
              simp [Instr.buildSlice, run_underlying ht, sizeOf, typeInfo, hinf, hsz, hl0, hk1', newRow, Array.range_zero']
            · have hk1' : Instr.fill (fun i => some (i * P.cellsOf e, P.cellsOf e)) ((Array.range (len * P.cellsOf e)).map (zv.cells[· % zv.cells.size]!)) cparts.toList = some C' := k1
              simp [Instr.buildSlice, run_underlying ht, sizeOf, typeInfo, zeroValue, hinf, hzz, hsz, hno, hl0, hk1', newRow]
          have hgd : ∀ r j, r < len → j < P.cellsOf e → ((cs.drop (r * P.cellsOf e)).take (P.cellsOf e)).getD j .any = cs.getD (r * P.cellsOf e + j) .any := by
            intro r j _ hj
            simp only [List.getD, List.getElem?_take, List.getElem?_drop, if_pos hj]
          have hlt : ∀ r j, r < len → j < P.cellsOf e → r * P.cellsOf e + j < len * P.cellsOf e := by
            intro r j hr' hj
            have : (r + 1) * P.cellsOf e ≤ len * P.cellsOf e := Nat.mul_le_mul_right _ hr'
            rw [Nat.succ_mul] at this
            omega
          refine ⟨_, _, hrun, alloc_ok hH hq (fresh_new hfr hq) hok rfl rfl rfl (by simp) (fun b hb => ?_) (C := C') (t := e) (fz := (0, 0)) (heap_alloc_new w _) (.inl rfl) g1 (by rw [g3, g2]; omega) (by rw [g3]; have : len * 1 ≤ len * P.cellsOf e := Nat.mul_le_mul_left _ hb4; omega) ?_ ?_⟩
          · show (w.heap.push _)[b]? = _
            rw [Array.getElem?_push, if_neg (by omega)]
          · rw [g3, g2]
            refine ⟨fun r hr' => ?_, fun r j hr' hj => ?_, fun r j hr' hj => ?_⟩
            · rw [hrow r hr', List.length_take, List.length_drop]
              have := hlt r (P.cellsOf e - 1) hr' (by omega)
              omega
            · rw [hrow r hr', hgd r j hr' hj]
              exact solid_all hb5 (by have := hlt r j hr' hj; omega)
            · rw [hrow r hr', hgd r j hr' hj]
              exact k4 _ (by have := hlt r j hr' hj; omega)
          · intro φ' e1 e2
            rw [g2] at e1
            have := VRel.sl (reg := reg) (F := F) (w := w.alloc (.cells C' e)) (φ := φ') h.nx 0 len (.exact len) _ _ _ _ len e1 rfl (Nat.le_refl _) (by have : len * 1 ≤ len * P.cellsOf e := Nat.mul_le_mul_left _ hb4; omega) (by omega)
            simpa using this
        · exact hq.elim
      · exact hq.elim
    · exact hq.elim
  · exact hq.elim
end
end Go.W

namespace Go.W
open Go Go.RowKit Go.MapKept

section
variable {reg : Reg} {P : Program}
/-- A new object, of whatever form, in a new block. -/
theorem new_ok {N F : Nat → Prop} {φ : Phi} {h : Hp reg.T} {w w' : World} {Q : V reg.T × Hp reg.T → Prop} {o : O reg.T} {v : V reg.T} {cv : Value} {s0 k0 z0 : Nat}
    (hH : HR N F φ h w) (hq : Q (v, h.new o)) (hN : ¬N h.nx) (hk : Tr.ok h.nx = true) (hos : w'.os = w.os) (htp : w'.tape = w.tape) (hout : w'.output = w.output) (hsz : w.heap.size < w'.heap.size)
    (hold : ∀ b, b < w.heap.size → w'.heap[b]? = w.heap[b]?) 
    (hobj : ∀ φ', φ' h.nx = some (w.heap.size, s0, k0, z0) → (∀ i p, φ i = some p → φ' i = some p) → ORel reg F w' φ' h.nx o)
    (hv : ∀ φ', φ' h.nx = some (w.heap.size, s0, k0, z0) → (∀ i p, φ i = some p → φ' i = some p) → VRel reg F w' φ' v cv) : Res N F φ h w Q cv w' := by
  let φ' : Phi := fun i => if i = h.nx then some (w.heap.size, s0, k0, z0) else φ i
  have e1 : φ' h.nx = some (w.heap.size, s0, k0, z0) := if_pos rfl
  have e2 : ∀ i, i ≠ h.nx → φ' i = φ i := fun i hi => if_neg hi
  have hφ : ∀ i p, φ i = some p → φ' i = some p := fun i p hp => by rw [e2 i (fun e => hN (e ▸ hH.dom i p hp))]; exact hp
  have hm : ∀ b, F b → F b ∧ w'.heap[b]? = w.heap[b]? := fun b hb => ⟨hb, hold b (hH.frz b hb)⟩
  have hg : ∀ j, (h.new o).get j = if j = h.nx then some o else h.get j := get_new hk
  have lt : ∀ j o', (h.new o).get j = some o' → j ≠ h.nx → h.get j = some o' ∧ N j := fun j o' hj hn => by
    rw [hg, if_neg hn] at hj
    exact ⟨hj, hH.lt j o' hj⟩
  refine ⟨v, h.new o, fun i => N i ∨ i = h.nx, F, φ', hq, hv φ' e1 hφ, ⟨fun j o' hj => ?_, fun j o' b s k hj hp => ?_, fun a c oa oc b s k s' k' ha hc hpa hpc => ?_, fun j p hp => ?_, fun j o' hj => ?_, fun j hj => ?_, fun b hb => Nat.lt_trans (hH.frz b hb) hsz, hH.lay.mono reg hm⟩, ⟨hos, htp, hout, Nat.le_of_lt hsz, fun b hb _ => hold b hb, fun _ hf => hf, fun _ hf => .inl hf, fun i hi => ?_, fun i hi => ?_, fun b hb => ?_, fun i p hp => ?_⟩, Grow.new hk, fun i hi => hi.imp id (fun e => by rw [new_nx]; omega)⟩
  · by_cases hj' : j = h.nx
    · subst hj'
      rw [hg, if_pos rfl] at hj
      cases hj
      exact hobj φ' e1 hφ
    · obtain ⟨h1, h2⟩ := lt j o' hj hj'
      exact (hH.obj j o' h1).mono reg hm hφ (fun hn => by rw [e2 j hj']; exact hn) (fun b s k hp => hold b (hH.own j o' b s k h1 hp).2)
  · by_cases hj' : j = h.nx
    · subst hj'
      rw [e1] at hp
      simp only [Option.some.injEq, Prod.mk.injEq] at hp
      obtain ⟨rfl, _⟩ := hp
      exact ⟨fun hf => by have := hH.frz _ hf; omega, hsz⟩
    · obtain ⟨h1, h2⟩ := lt j o' hj hj'
      rw [e2 j hj'] at hp
      have := hH.own j o' b s k h1 hp
      exact ⟨this.1, Nat.lt_trans this.2 hsz⟩
  · by_cases ha' : a = h.nx
    · by_cases hc' : c = h.nx
      · rw [ha', hc']
      · subst ha'
        obtain ⟨h1, _⟩ := lt c oc hc hc'
        rw [e1] at hpa
        rw [e2 c hc'] at hpc
        simp only [Option.some.injEq, Prod.mk.injEq] at hpa
        have := (hH.own c oc b s' k' h1 hpc).2
        omega
    · obtain ⟨h1, _⟩ := lt a oa ha ha'
      rw [e2 a ha'] at hpa
      by_cases hc' : c = h.nx
      · subst hc'
        rw [e1] at hpc
        simp only [Option.some.injEq, Prod.mk.injEq] at hpc
        have := (hH.own a oa b s k h1 hpa).2
        omega
      · obtain ⟨h2, _⟩ := lt c oc hc hc'
        rw [e2 c hc'] at hpc
        exact hH.inj a c oa oc b s k s' k' h1 h2 hpa hpc
  · by_cases hj' : j = h.nx
    · exact .inr hj'
    · rw [e2 j hj'] at hp; exact .inl (hH.dom j p hp)
  · by_cases hj' : j = h.nx
    · exact .inr hj'
    · exact .inl (lt j o' hj hj').2
  · rcases hj with hj | he
    · exact hH.ok j hj
    · rw [he]; exact hk
  · exact e2 i (fun e => hN (e ▸ hi))
  · exact .inl hi
  · obtain ⟨j, o', s, k, hj, hp⟩ := hb
    by_cases hj' : j = h.nx
    · subst hj'
      rw [e1] at hp
      simp only [Option.some.injEq, Prod.mk.injEq] at hp
      exact .inr (by omega)
    · rw [e2 j hj'] at hp
      exact .inl ⟨j, o', s, k, (lt j o' hj hj').1, hp⟩
  · by_cases hj' : i = h.nx
    · subst hj'
      rw [e1] at hp
      cases hp
      exact .inr (.inl (Nat.le_refl _))
    · rw [e2 i hj'] at hp
      exact .inl (hH.dom i p hp)

/-- An object, of whatever form, is written. -/
theorem put_ok {N F : Nat → Prop} {φ : Phi} {h : Hp reg.T} {w w' : World} {Q : V reg.T × Hp reg.T → Prop} {i b s : Nat} {k0 : Nat × Nat} {o o' : O reg.T} {v : V reg.T} {cv : Value}
    (hH : HR N F φ h w) (hi : h.get i = some o) (hp : φ i = some (b, s, k0)) (hq : Q (v, h.set i (some o'))) (hos : w'.os = w.os) (htp : w'.tape = w.tape) (hout : w'.output = w.output)
    (hsz : w'.heap.size = w.heap.size) (hold : ∀ b', b' ≠ b → w'.heap[b']? = w.heap[b']?) 
    (hobj : (∀ b', F b' → F b' ∧ w'.heap[b']? = w.heap[b']?) → ORel reg F w' φ i o') (hv : VRel reg F w φ v cv) : Res N F φ h w Q cv w' := by
  have hk := hH.ok i (hH.lt i o hi)
  have hfb := hH.own i o b s _ hi hp
  have hm : ∀ b', F b' → F b' ∧ w'.heap[b']? = w.heap[b']? := fun b' hb => ⟨hb, hold b' (fun e => hfb.1 (e ▸ hb))⟩
  have hg : ∀ j, (h.set i (some o')).get j = if j = i then some o' else h.get j := get_setH hk
  have lt : ∀ j oj, (h.set i (some o')).get j = some oj → ∃ oj', h.get j = some oj' ∧ (j ≠ i → oj' = oj) := fun j oj hj => by
    rw [hg] at hj
    split at hj
    · rename_i e; exact ⟨o, e ▸ hi, fun hn => absurd e hn⟩
    · exact ⟨oj, hj, fun _ => rfl⟩
  refine ⟨v, _, N, F, φ, hq, hv.mono reg hm (fun _ _ e => e), ⟨fun j oj hj => ?_, fun j oj b' s' k' hj hp' => ?_, fun a c oa oc b' s' k' s'' k'' ha hc hpa hpc => ?_, hH.dom, fun j oj hj => ?_, hH.ok, fun b' hb => hsz ▸ hH.frz b' hb, hH.lay.mono reg hm⟩,
    ⟨hos, htp, hout, Nat.le_of_eq hsz.symm, fun b' _ hn => hold b' (fun e => hn ⟨i, o, s, _, hi, e ▸ hp⟩), fun _ hf => hf, fun _ hf => .inl hf, fun _ _ => rfl, fun _ hx => hx, fun b' ⟨j, oj, s', k', hj, hp'⟩ => ?_, fun j p hp' => .inl (hH.dom j p hp')⟩, Grow.set hk, fun _ hx => .inl hx⟩
  · by_cases hji : j = i
    · subst hji
      rw [hg, if_pos rfl] at hj
      cases hj
      exact hobj hm
    · rw [hg, if_neg hji] at hj
      exact (hH.obj j oj hj).mono reg hm (fun _ _ e => e) (fun e => e) (fun b' s' k' hp' => hold b' (fun e => hji (hH.inj j i oj o b' s' k' s _ hj hi hp' (e ▸ hp))))
  · obtain ⟨oj', h1, _⟩ := lt j oj hj
    have := hH.own j oj' b' s' k' h1 hp'
    exact ⟨this.1, hsz ▸ this.2⟩
  · obtain ⟨oa', h1, _⟩ := lt a oa ha
    obtain ⟨oc', h2, _⟩ := lt c oc hc
    exact hH.inj a c oa' oc' b' s' k' s'' k'' h1 h2 hpa hpc
  · obtain ⟨oj', h1, _⟩ := lt j oj hj
    exact hH.lt j oj' h1
  · obtain ⟨oj', h1, _⟩ := lt j oj hj
    exact .inl ⟨j, oj', s', k', h1, hp'⟩


variable {N F : Nat → Prop} {φ : Phi} {h : Hp reg.T} {w : World}

theorem mapT_eq {t kt et : TypeId} (h : mapT P t = some (kt, et)) : P.underlying t = some (.map kt et) := by
  unfold mapT at h
  split at h
  · rename_i k e hu; cases h; exact hu
  · cases h

theorem zeroV_rel {t : TypeId} {v : V reg.T} (h : zeroV P t = some v) : ∃ i z, P.info? t = some i ∧ i.zero = some z ∧ ∀ {F : Nat → Prop} {w : World} {φ : Phi}, VRel reg F w φ v z := by
  unfold zeroV at h
  split at h
  · rename_i i hi
    split at h
    · rename_i cs vs hz hv
      cases h
      refine ⟨i, _, hi, hz, fun {F w φ} => ?_⟩
      obtain ⟨i', z', h1, h2, h3, h4⟩ := zeroT_rel (F := F) (w := w) (φ := φ) hv
      rw [hi] at h1; cases h1
      rw [hz] at h2; cases h2
      exact .agg vs cs h3 (fun j hj => (h4 j hj).1)
    · cases h
    · rename_i zc v' hna hnt hz hv
      cases h
      refine ⟨i, zc, hi, hz, fun {F w φ} => ?_⟩
      obtain ⟨i', z', h1, h2, h3, h4⟩ := zeroT_rel (F := F) (w := w) (φ := φ) hv
      obtain rfl := Option.some.inj (hi.symm.trans h1)
      obtain rfl := Option.some.inj (hz.symm.trans h2)
      have e : zc.cells = #[zc] := by
        cases zc <;> first | rfl | exact (hna _ rfl).elim
      have := (h4 0 (by simp)).1
      rw [e] at this
      exact this
    · cases h
  · cases h

theorem keyable_spec {kt : TypeId} {k : V reg.T} {c : Value} (h : keyable P kt k = true) (hk : VRel reg F w φ k c) : ∃ d, P.underlying kt = some d ∧ IsKey d c := by
  unfold keyable at h
  split at h
  · rename_i k1 k2 n hu
    rw [hk.int_inv]
    exact ⟨_, hu, (sameKind_eq h).symm⟩
  · rename_i s hu
    rw [hk.str_inv]
    exact ⟨_, hu, trivial⟩
  · rename_i b hu
    rw [hk.bool_inv]
    exact ⟨_, hu, trivial⟩
  · cases h

theorem keyEq_spec {k k' : V reg.T} {c c' : Value} {b : Bool} {d : TypeDesc} (h : keyEq k k' = some b) (hk : VRel reg F w φ k c) (hk' : VRel reg F w φ k' c') (hd : IsKey d c) : Instr.sameNow d c c' = some b ∧ (b = true → c' = c) := by
  unfold keyEq at h
  split at h
  · rename_i a x a' y
    rw [hk.int_inv] at hd ⊢
    rw [hk'.int_inv]
    split at h
    · rename_i hs
      have hs := sameKind_eq hs
      subst hs
      cases h
      cases d <;> simp only [IsKey] at hd <;> (try exact hd.elim)
      refine ⟨by simp [Instr.sameNow], fun hb => ?_⟩
      have : x = y := by simpa using hb
      rw [this]
    · cases h
  · rename_i s t
    rw [hk.str_inv] at hd ⊢
    rw [hk'.str_inv]
    cases h
    cases d <;> simp only [IsKey] at hd <;> (try exact hd.elim)
    have e : ((⟨s.toArray⟩ : ByteArray) == ⟨t.toArray⟩) = (s == t) := by
      rw [Bool.eq_iff_iff, bytes_beq]
      simp
    refine ⟨by simp [Instr.sameNow, e], fun hb => ?_⟩
    have : s = t := by simpa using hb
    rw [this]
  · rename_i a b'
    rw [hk.bool_inv] at hd ⊢
    rw [hk'.bool_inv]
    cases h
    cases d <;> simp only [IsKey] at hd <;> (try exact hd.elim)
    refine ⟨by simp [Instr.sameNow], fun hb => ?_⟩
    have : a = b' := by simpa using hb
    rw [this]
  · cases h

theorem mapFind_ok {β : Type} {k : V reg.T} {c : Value} {d : TypeDesc} (hk : VRel reg F w φ k c) (hd : IsKey d c) {Q : β → Prop} : ∀ {es : List ((V reg.T × V reg.T) × Nat)} {cs : List MapEntry}, Ents reg F w φ es cs → ∀ (j : Nat) (found : Nat → V reg.T → Nat → Out β) (none' : Out β), (mapFind k es j found none').K Q →
    (Instr.findNow d c cs j = some none ∧ none'.K Q) ∨ ∃ i e v n, Instr.findNow d c cs j = some (some (j + i, e.val)) ∧ cs[i]? = some e ∧ e.key = c ∧ VRel reg F w φ v e.val ∧ e.born = n ∧ (found (j + i) v n).K Q := by
  intro es cs he
  induction he with
  | nil => intro j found none' hq; exact .inl ⟨rfl, hq⟩
  | cons k' v n e es cs hk' hv hn _ ih =>
    intro j found none' hq
    simp only [mapFind] at hq
    split at hq
    · rename_i b hb
      obtain ⟨h1, h2⟩ := keyEq_spec hb hk hk' hd
      simp only [Out.K, branch_iff] at hq
      cases b with
      | true => exact .inr ⟨0, e, v, n, by simp [Instr.findNow, h1], rfl, h2 rfl, hv, hn, hq.1 rfl⟩
      | false =>
        rcases ih (j + 1) found none' (hq.2 rfl) with ⟨h3, h4⟩ | ⟨i, e', v', n', h3, h4, h5, h6, h7, h8⟩
        · exact .inl ⟨by simp [Instr.findNow, h1, h3], h4⟩
        · refine .inr ⟨i + 1, e', v', n', ?_, by simpa using h4, h5, h6, h7, ?_⟩
          · simp only [Instr.findNow, h1, h3]; congr 3; omega
          · rwa [show j + (i + 1) = j + 1 + i by omega]
    · exact hq.elim

theorem Ents.setVal {v : V reg.T} {cv : Value} (hv : VRel reg F w φ v cv) (f : MapEntry → MapEntry) (hf : ∀ e, (f e).val = cv ∧ (f e).born = e.born) : ∀ {es : List ((V reg.T × V reg.T) × Nat)} {cs : List MapEntry}, Ents reg F w φ es cs → ∀ (i : Nat), (∀ e, cs[i]? = some e → (f e).key = e.key) → Ents reg F w φ (setVal i v es) (cs.modify i f) := by
  intro es cs he
  induction he with
  | nil => intro i _; simp only [Go.W.setVal, List.modify_nil]; exact .nil
  | cons k' v' n e es cs hk' hv' hn ht ih =>
    intro i hi
    cases i with
    | zero =>
      simp only [Go.W.setVal, List.modify_zero_cons]
      exact .cons k' v n (f e) es cs (by rw [hi e rfl]; exact hk') (by rw [(hf e).1]; exact hv) (by rw [(hf e).2]; exact hn) ht
    | succ i =>
      simp only [Go.W.setVal, List.modify_succ_cons]
      exact .cons k' v' n e _ _ hk' hv' hn (ih i (fun e' he' => hi e' (by simpa using he')))

theorem Ents.push {k v : V reg.T} {c : MapEntry} (hk : VRel reg F w φ k c.key) (hv : VRel reg F w φ v c.val) : ∀ {es : List ((V reg.T × V reg.T) × Nat)} {cs : List MapEntry}, Ents reg F w φ es cs → Ents reg F w φ (es ++ [((k, v), c.born)]) (cs ++ [c]) := by
  intro es cs he
  induction he with
  | nil => exact .cons k v _ c [] [] hk hv rfl .nil
  | cons k' v' n e es cs hk' hv' hn _ ih => exact .cons k' v' n e _ _ hk' hv' hn ih

theorem Ents.length {es : List ((V reg.T × V reg.T) × Nat)} {cs : List MapEntry} (h : Ents reg F w φ es cs) : es.length = cs.length := by
  induction h with
  | nil => rfl
  | cons _ _ _ _ _ _ _ _ _ _ ih => simp [ih]

theorem findBorn_ok {n : Int} : ∀ {es : List ((V reg.T × V reg.T) × Nat)} {cs : List MapEntry}, Ents reg F w φ es cs → ∀ (j i : Nat), findBorn n es j = some i → ∃ q, i = j + q ∧ cs.findIdx? (fun e => (e.born : Int) == n) = some q := by
  intro es cs he
  induction he with
  | nil => intro j i h; cases h
  | cons k' v' m e es cs hk' hv' hn _ ih =>
    intro j i h
    simp only [findBorn] at h
    split at h
    · rename_i hb
      cases h
      exact ⟨0, rfl, by rw [List.findIdx?_cons, hn, hb]; rfl⟩
    · rename_i hb
      obtain ⟨q, h1, h2⟩ := ih (j + 1) i h
      exact ⟨q + 1, by omega, by rw [List.findIdx?_cons, hn, hb]; simp [h2]⟩

/-- A map, and its block. -/
theorem map_at {i c : Nat} {es : List ((V reg.T × V reg.T) × Nat)} {cv : Value} (hH : HR N F φ h w) (hi : h.get i = some (.map c es)) (hv : VRel reg F w φ (.mp i) cv) :
    ∃ b ces, cv = .map (some b) ∧ φ i = some (b, 0, 0, 0) ∧ w.heap[b]? = some (.map ces c) ∧ Ents reg F w φ es ces.toList := by
  obtain ⟨b, ces, h1, h2, h3⟩ := (hH.obj i _ hi).map reg
  cases hv with
  | mp _ b' s hp =>
    rw [h1] at hp
    cases hp
    exact ⟨b, ces, rfl, h1, h2, h3⟩

theorem makeMapG_ok {t : TypeId} {r : Option Value} {Q : V reg.T × Hp reg.T → Prop} (hH : HR N F φ h w) (hfr : ∀ r, Q r → Fresh N h.nx r.2.nx) (hq : (makeMapG P t h).K Q) (hr : r = none ∨ ∃ k n, r = some (.int k n)) : OpOk P N F φ h w (Instr.makeMap t r) Q := by
  unfold makeMapG at hq
  split at hq
  · rename_i p hp
    obtain ⟨kt, et⟩ := p
    have ht := mapT_eq hp
    obtain ⟨hok, hq⟩ := K_newO hq
    have hrun : (Instr.makeMap t r).run P w = .ok (.map (some w.heap.size)) (w.alloc (.map #[] 0)) := by
      rcases hr with rfl | ⟨k, n, rfl⟩
      · rfl
      · simp [Instr.makeMap, run_underlying ht, asInt, asIntOf, Result.andThen]
    refine ⟨_, _, hrun, new_ok (s0 := 0) (k0 := 0) (z0 := 0) hH hq (fresh_new hfr hq) hok rfl rfl rfl (by simp) (fun b hb => ?_) (fun φ' e1 _ => ?_) (fun φ' e1 _ => .mp _ _ _ e1)⟩
    · show (w.heap.push _)[b]? = _
      rw [Array.getElem?_push, if_neg (by omega)]
    · exact .inr (.inl ⟨0, [], _, #[], rfl, e1, heap_alloc_new w _, .nil⟩)
  · exact hq.elim

theorem okV_rel {ok : Bool} {v : V reg.T} {cv : Value} {b : Bool} (hv : VRel reg F w φ v cv) : VRel reg F w φ (okV ok v b) (if ok then .tuple #[cv, .bool b] else cv) := by
  cases ok with
  | false => exact hv
  | true =>
    refine .tup _ _ rfl (fun j hj => ?_)
    match j, hj with
    | 0, _ => exact hv
    | 1, _ => exact .d _ _ (.bool b)

theorem lookupG_ok {t : TypeId} {x k : V reg.T} {cx ck : Value} {ok : Bool} {Q : V reg.T × Hp reg.T → Prop} (hH : HR N F φ h w) (hq : (lookupG P t x k ok h).K Q) (hx : VRel reg F w φ x cx) (hk : VRel reg F w φ k ck) : OpOk P N F φ h w (Instr.lookup t cx ck ok) Q := by
  unfold lookupG at hq
  split at hq
  · rename_i kt et hm
    have ht := mapT_eq hm
    split at hq
    · rename_i z hz
      obtain ⟨inf, zv, hi, hzz, hzr⟩ := zeroV_rel hz
      have hzrun : (zeroValue et).run P w = .ok zv w := by simp [zeroValue, typeInfo, hi, hzz]
      split at hq
      · obtain ⟨hkb, hq⟩ := Out.K_ask.1 hq
        obtain ⟨d, hd, hik⟩ := keyable_spec hkb hk
        have hcx : cx = .map none := by cases hx with | d _ _ h => cases h with
          | nilm => rfl
          | emp _ hx => cases hx
          | sl _ _ _ _ _ _ _ hx => cases hx
        subst hcx
        refine ⟨_, w, ?_, .pure hH hq (okV_rel (hzr (F := F) (w := w) (φ := φ)))⟩
        have hf : Instr.findNow d ck [] 0 = some none := rfl
        simp [Instr.lookup, run_underlying ht, run_checkKey hd hik, run_findKey hd hf, hzrun, Result.andThen]
      · rename_i i
        split at hq
        · rename_i c es hget
          obtain ⟨hkb, hq⟩ := Out.K_ask.1 hq
          obtain ⟨d, hd, hik⟩ := keyable_spec hkb hk
          obtain ⟨b, ces, rfl, hp, hb, he⟩ := map_at hH hget hx
          rcases mapFind_ok hk hik he 0 _ _ hq with ⟨h1, h2⟩ | ⟨j, e, v, n, h1, h2, h3, h4, h5, h6⟩
          · refine ⟨_, w, ?_, .pure hH h2 (okV_rel (hzr (F := F) (w := w) (φ := φ)))⟩
            simp [Instr.lookup, run_underlying ht, MapKept.run_getObj_map hb, run_checkKey hd hik, run_findKey hd h1, hzrun, Result.andThen]
          · refine ⟨_, w, ?_, .pure hH h6 (okV_rel h4)⟩
            simp [Instr.lookup, run_underlying ht, MapKept.run_getObj_map hb, run_checkKey hd hik, run_findKey hd h1, Result.andThen]
        · exact hq.elim
      · exact hq.elim
    · exact hq.elim
  · exact hq.elim

/-- A map is written. -/
theorem map_put {i b c c' : Nat} {es es' : List ((V reg.T × V reg.T) × Nat)} {ces ces' : Array MapEntry} {v : V reg.T} {cv : Value} {Q : V reg.T × Hp reg.T → Prop} (hH : HR N F φ h w) (hi : h.get i = some (.map c es)) (hp : φ i = some (b, 0, 0, 0)) (hb : w.heap[b]? = some (.map ces c))
    (hq : Q (v, h.set i (some (.map c' es')))) (he : Ents reg F w φ es' ces'.toList) (hv : VRel reg F w φ v cv) : Res N F φ h w Q cv { w with heap := w.heap.setIfInBounds b (.map ces' c') } := by
  have hs := heap_set (o' := Obj.map ces' c') hb
  refine put_ok hH hi hp hq rfl rfl rfl (by simp) (fun b' hne => hs.2 b' hne) (fun hm => .inr (.inl ⟨c', es', b, ces', rfl, hp, hs.1, he.mono reg hm (fun _ _ e => e)⟩)) hv

theorem mapUpdateG_ok {t : TypeId} {x k v : V reg.T} {cx ck cv : Value} {Q : V reg.T × Hp reg.T → Prop} (hH : HR N F φ h w) (hq : (mapUpdateG P t x k v h).K Q) (hx : VRel reg F w φ x cx) (hk : VRel reg F w φ k ck) (hv : VRel reg F w φ v cv) :
    ∃ w', (Instr.mapUpdate t cx ck cv).run P w = .ok () w' ∧ Res N F φ h w Q undef w' := by
  unfold mapUpdateG at hq
  split at hq
  · rename_i kt et i hm
    have ht := mapT_eq hm
    split at hq
    · rename_i c es hget
      obtain ⟨hkb, hq⟩ := Out.K_ask.1 hq
      obtain ⟨d, hd, hik⟩ := keyable_spec hkb hk
      obtain ⟨b, ces, rfl, hp, hb, he⟩ := map_at hH hget hx
      rcases mapFind_ok hk hik he 0 _ _ hq with ⟨h1, h2⟩ | ⟨j, e, v', n, h1, h2, h3, h4, h5, h6⟩
      · refine ⟨_, ?_, map_put (ces' := ces.push { key := ck, val := cv, born := c }) hH hget hp hb h2 ?_ .undef⟩
        · simp [Instr.mapUpdate, run_underlying ht, MapKept.run_getObj_map hb, run_checkKey hd hik, run_findKey hd h1, run_setObj_map _ hb, Result.andThen]
        · rw [Array.toList_push]
          exact he.push (c := { key := ck, val := cv, born := c }) hk hv
      · have hj : ces[j]? = some e := by simpa using h2
        rw [Nat.zero_add] at h1 h6
        refine ⟨_, ?_, map_put (ces' := ces.modify j fun e => { e with key := ck, val := cv }) hH hget hp hb h6 ?_ .undef⟩
        · simp [Instr.mapUpdate, run_underlying ht, MapKept.run_getObj_map hb, run_checkKey hd hik, run_findKey hd h1, hj, h3, run_keyThatStays hik, run_setObj_map _ hb, Result.andThen]
        · rw [Array.toList_modify]
          exact he.setVal hv (fun e => { e with key := ck, val := cv }) (fun e => ⟨rfl, rfl⟩) j (fun e' he' => by rw [h2] at he'; cases he'; exact h3.symm)
    · exact hq.elim
  · exact hq.elim

theorem mapEntryG_ok {t : TypeId} {x k : V reg.T} {cx ck : Value} {Q : V reg.T × Hp reg.T → Prop} (hH : HR N F φ h w) (hq : (mapEntryG P t x k h).K Q) (hx : VRel reg F w φ x cx) (hk : VRel reg F w φ k ck) : OpOk P N F φ h w (Instr.mapEntry t cx ck) Q := by
  unfold mapEntryG at hq
  split at hq
  · rename_i kt et i hm
    have ht := mapT_eq hm
    split at hq
    · rename_i z c es hz hget
      obtain ⟨hkb, hq⟩ := Out.K_ask.1 hq
      obtain ⟨d, hd, hik⟩ := keyable_spec hkb hk
      obtain ⟨inf, zv, hi, hzz, hzr⟩ := zeroV_rel hz
      have hzrun : (zeroValue et).run P w = .ok zv w := by simp [zeroValue, typeInfo, hi, hzz]
      obtain ⟨b, ces, rfl, hp, hb, he⟩ := map_at hH hget hx
      have two : ∀ {v : V reg.T} {cv : Value} {n : Nat}, VRel reg F w φ v cv → VRel reg F w φ (.tup [v, .d (.int .i64 (n : Int))]) (.tuple #[cv, goInt n]) := by
        intro v cv n hv
        refine .tup _ _ rfl (fun j hj => ?_)
        match j, hj with
        | 0, _ => exact hv
        | 1, _ => exact .d _ _ (.int _ _)
      rcases mapFind_ok hk hik he 0 _ _ hq with ⟨h1, h2⟩ | ⟨j, e, v', n, h1, h2, h3, h4, h5, h6⟩
      · refine ⟨_, _, ?_, map_put (ces' := ces.push { key := ck, val := zv, born := c }) hH hget hp hb h2 ?_ (two hzr)⟩
        · simp [Instr.mapEntry, run_underlying ht, MapKept.run_getObj_map hb, run_checkKey hd hik, run_findKey hd h1, hzrun, run_setObj_map _ hb, Result.andThen]
        · rw [Array.toList_push]
          exact he.push (c := { key := ck, val := zv, born := c }) hk hzr
      · have hj : ces[j]? = some e := by simpa using h2
        rw [Nat.zero_add] at h1
        have hsame : (ces.modify j fun e => { e with key := ck }) = ces := by
          apply Array.ext_getElem?
          intro q
          rw [Array.getElem?_modify]
          by_cases e1 : j = q
          · subst e1; rw [if_pos rfl, hj]; simp [← h3]
          · rw [if_neg e1]
        have hheap : ({ w with heap := w.heap.setIfInBounds b (.map (ces.modify j fun e => { e with key := ck }) c) } : World) = w := by
          rw [hsame]
          have : w.heap.setIfInBounds b (.map ces c) = w.heap := by
            apply Array.ext_getElem?
            intro q
            rw [Array.getElem?_setIfInBounds]
            by_cases e1 : b = q
            · subst e1; rw [if_pos rfl, hb]; simp [(Array.getElem?_eq_some_iff.1 hb).1]
            · rw [if_neg e1]
          rw [this]
        refine ⟨_, w, ?_, .pure hH h6 (two h4)⟩
        have hrun : (Instr.mapEntry t (.map (some b)) ck).run P w = .ok (.tuple #[e.val, goInt e.born]) { w with heap := w.heap.setIfInBounds b (.map (ces.modify j fun e => { e with key := ck }) c) } := by
          simp [Instr.mapEntry, run_underlying ht, MapKept.run_getObj_map hb, run_checkKey hd hik, run_findKey hd h1, hj, h3, run_keyThatStays hik, run_setObj_map _ hb, Result.andThen]
        rw [hrun, hheap, h5]
    · exact hq.elim
  · exact hq.elim

theorem entryStoreG_ok {t : TypeId} {x n v : V reg.T} {cx cn cv : Value} {Q : V reg.T × Hp reg.T → Prop} (hH : HR N F φ h w) (hq : (entryStoreG x n v h).K Q) (hx : VRel reg F w φ x cx) (hn : VRel reg F w φ n cn) (hv : VRel reg F w φ v cv) :
    ∃ w', (Instr.entryStore t cx cn cv).run P w = .ok () w' ∧ Res N F φ h w Q undef w' := by
  unfold entryStoreG at hq
  split at hq
  · rename_i i k m
    rw [hn.int_inv]
    split at hq
    · rename_i c es hget
      split at hq
      · rename_i j hj
        obtain ⟨b, ces, rfl, hp, hb, he⟩ := map_at hH hget hx
        obtain ⟨q, h1, h2⟩ := findBorn_ok he 0 j hj
        rw [Nat.zero_add] at h1
        subst h1
        have h3 : ces.findIdx? (fun e => (e.born : Int) == m) = some j := by rw [← h2, ← List.findIdx?_toArray]
        refine ⟨_, ?_, map_put (ces' := ces.modify j fun e => { e with val := cv }) hH hget hp hb hq ?_ .undef⟩
        · simp [Instr.entryStore, MapKept.run_getObj_map hb, asInt, asIntOf, h3, run_setObj_map _ hb, Result.andThen]
        · rw [Array.toList_modify]
          exact he.setVal hv (fun e => { e with val := cv }) (fun e => ⟨rfl, rfl⟩) j (fun _ _ => rfl)
      · exact hq.elim
    · exact hq.elim
  · exact hq.elim

/-! ### Texts that are ranged over -/
theorem rangeG_ok {t : TypeId} {x : V reg.T} {cx : Value} {Q : V reg.T × Hp reg.T → Prop} (hH : HR N F φ h w) (hfr : ∀ r, Q r → Fresh N h.nx r.2.nx) (hq : (rangeG P t x h).K Q) (hx : VRel reg F w φ x cx) : OpOk P N F φ h w (Instr.range t cx) Q := by
  have hold : ∀ (o : Obj) (b : Nat), b < w.heap.size → (w.alloc o).heap[b]? = w.heap[b]? := fun o b hb => by
    show (w.heap.push _)[b]? = _
    rw [Array.getElem?_push, if_neg (by omega)]
  unfold rangeG at hq
  split at hq
  · rename_i s ht
    obtain ⟨hok, hq⟩ := K_newO hq
    have ht : P.underlying t = some .string := by
      unfold isStrT at ht
      split at ht
      · assumption
      · cases ht
    rw [hx.str_inv]
    refine ⟨_, w.alloc (.stringIter ⟨s.toArray⟩ 0), ?_, new_ok (s0 := 0) (k0 := 0) (z0 := 0) hH hq (fresh_new hfr hq) hok rfl rfl rfl (by simp) (hold _) (fun φ' e1 _ => ?_) (fun φ' e1 _ => .it _ _ _ e1)⟩
    · simp [Instr.range, run_underlying ht, Result.andThen]
    · exact .inr (.inr (.inl ⟨s, 0, _, rfl, e1, heap_alloc_new w _⟩))
  · split at hq
    · rename_i p hm
      obtain ⟨kt, et⟩ := p
      have ht := mapT_eq hm
      split at hq
      · obtain ⟨hok, hq⟩ := K_newO hq
        obtain rfl : cx = .map none := by
          cases hx with
          | d _ _ hd =>
            cases hd with
            | nilm => rfl
            | emp _ hx' _ _ _ => cases hx'
            | sl _ _ _ _ _ _ _ hx' => cases hx'
        refine ⟨_, w.alloc (.mapIter none 0 #[] 0), ?_, new_ok (s0 := 0) (k0 := 0) (z0 := 0) hH hq (fresh_new hfr hq) hok rfl rfl rfl (by simp) (hold _) (fun φ' e1 _ => ?_) (fun φ' e1 _ => .it _ _ _ e1)⟩
        · simp [Instr.range, run_underlying ht, Result.andThen]
        · exact .inr (.inr (.inr ⟨none, 0, [], 0, _, none, rfl, e1, heap_alloc_new w _, rfl⟩))
      · rename_i i _
        split at hq
        · rename_i c es hget
          obtain ⟨hok, hq⟩ := K_newO hq
          obtain ⟨b, ces, rfl, hp, hb, he⟩ := map_at hH hget hx
          refine ⟨_, w.alloc (.mapIter (some b) c #[] c), ?_, new_ok (s0 := 0) (k0 := 0) (z0 := 0) hH hq (fresh_new hfr hq) hok rfl rfl rfl (by simp) (hold _) (fun φ' e1 e2 => ?_) (fun φ' e1 _ => .it _ _ _ e1)⟩
          · simp [Instr.range, run_underlying ht, MapKept.run_getObj_map hb, Result.andThen]
          · exact .inr (.inr (.inr ⟨some i, c, [], c, _, some b, rfl, e1, heap_alloc_new w _, b, _, e2 _ _ hp, rfl⟩))
        · exact hq.elim
      · exact hq.elim
    · exact hq.elim

theorem memN0_iff {l : List Nat} {i : Nat} : memN0 l i = l.contains i := by
  induction l with
  | nil => rfl
  | cons n l ih =>
    simp only [memN0, List.contains_cons]
    cases hb : Nat.beq n i with
    | true => have := Nat.eq_of_beq_eq_true hb; subst this; simp
    | false =>
      have : ¬ i = n := fun e => by subst e; simp [Nat.beq_refl] at hb
      simp [ih, this]

theorem Ents.filter {p : ((V reg.T × V reg.T) × Nat) → Bool} {q : MapEntry → Bool} {r : Nat → Bool} (hp : ∀ e, p e = r e.2) (hq : ∀ c, q c = r c.born) {es : List ((V reg.T × V reg.T) × Nat)} {cs : List MapEntry} (h : Ents reg F w φ es cs) : Ents reg F w φ (es.filter p) (cs.filter q) := by
  induction h with
  | nil => exact .nil
  | cons k v n c es cs hk hv hn _ ih =>
    have e1 : p ((k, v), n) = r n := hp _
    have e2 : q c = r n := by rw [hq, hn]
    rw [List.filter_cons, List.filter_cons, e1, e2]
    cases r n with
    | true => exact .cons k v n c _ _ hk hv hn ih
    | false => exact ih
theorem Ents.any {p : ((V reg.T × V reg.T) × Nat) → Bool} {q : MapEntry → Bool} {r : Nat → Bool} (hp : ∀ e, p e = r e.2) (hq : ∀ c, q c = r c.born) {es : List ((V reg.T × V reg.T) × Nat)} {cs : List MapEntry} (h : Ents reg F w φ es cs) : es.any p = cs.any q := by
  induction h with
  | nil => rfl
  | cons k v n c es cs hk hv hn _ ih => rw [List.any_cons, List.any_cons, ih, hp, hq, hn]
theorem Ents.stamp {n : Nat} {k v : V reg.T} {es : List ((V reg.T × V reg.T) × Nat)} {cs : List MapEntry} (h : Ents reg F w φ es cs) (hs : stampOf n es = some (k, v)) : ∃ c, cs.find? (fun c => c.born == n) = some c ∧ VRel reg F w φ k c.key ∧ VRel reg F w φ v c.val := by
  induction h with
  | nil => cases hs
  | cons k' v' n' c es cs hk hv hn _ ih =>
    simp only [stampOf] at hs
    rw [List.find?_cons]
    split at hs
    · rename_i hb
      have hb : n' = n := Nat.eq_of_beq_eq_true hb
      cases hs
      have : (c.born == n) = true := by rw [hn, hb]; simp
      rw [this]
      exact ⟨c, rfl, hk, hv⟩
    · rename_i hb
      have : (c.born == n) = false := by
        rw [hn]
        have : n' ≠ n := fun e => by subst e; simp [Nat.beq_refl] at hb
        simpa using this
      rw [this]
      exact ih hs
theorem lastN_spec : ∀ {l : List Nat} {n : Nat}, lastN l = some n → l.getLast? = some n
  | [], _, h => by cases h
  | [m], n, h => by simpa [lastN] using h
  | m :: m' :: l, n, h => by
    have := lastN_spec (l := m' :: l) h
    rw [List.getLast?_cons_cons]; exact this
theorem Ents.erase {es : List ((V reg.T × V reg.T) × Nat)} {cs : List MapEntry} (h : Ents reg F w φ es cs) : ∀ j, Ents reg F w φ (es.eraseIdx j) (cs.eraseIdx j) := by
  induction h with
  | nil => intro j; simp; exact .nil
  | cons k v n c es cs hk hv hn ht ih =>
    intro j
    cases j with
    | zero => exact ht
    | succ j => exact .cons k v n c _ _ hk hv hn (ih j)

/-- A range over a map, at the machine. -/
theorem mit_at {i j c since last : Nat} {seen : List Nat} {es : List ((V reg.T × V reg.T) × Nat)} (hH : HR N F φ h w) (hi : h.get i = some (.mit (some j) since seen last)) (hj : h.get j = some (.map c es)) :
    ∃ b b2 ces, φ i = some (b, 0, 0, 0) ∧ w.heap[b]? = some (.mapIter (some b2) since seen.toArray last) ∧ w.heap[b2]? = some (.map ces c) ∧ Ents reg F w φ es ces.toList := by
  obtain ⟨b, mb, hp, hb, b2, s2, e1, e2⟩ := (hH.obj i _ hi).mit reg
  obtain ⟨b3, ces, hp3, hb3, he⟩ := (hH.obj j _ hj).map reg
  rw [e1] at hp3
  simp only [Option.some.injEq, Prod.mk.injEq] at hp3
  obtain ⟨rfl, _⟩ := hp3
  subst e2
  exact ⟨b, b2, ces, hp, hb, hb3, he⟩

theorem mit_cond {es : List ((V reg.T × V reg.T) × Nat)} {ces : Array MapEntry} {seen : List Nat} {last : Nat} (he : Ents reg F w φ es ces.toList) (hf : mitFine es seen last = true) : (!seen.toArray.isEmpty && !ces.isEmpty && ces.all fun e => decide (e.born ≥ last)) = false := by
  have h1 : (es.any fun e => Nat.blt e.2 last) = ces.toList.any fun c => Nat.blt c.born last := he.any (r := fun n => Nat.blt n last) (fun _ => rfl) (fun _ => rfl)
  have h2 : es.isEmpty = ces.toList.isEmpty := by
    have := he.length
    cases es <;> cases h : ces.toList <;> simp_all
  unfold mitFine at hf
  rw [h1, h2] at hf
  simp only [Bool.or_eq_true] at hf
  rcases hf with (hf | hf) | hf
  · simp at hf; simp [hf]
  · simp at hf; simp [hf]
  · obtain ⟨x, hx1, hx2⟩ := List.any_eq_true.1 hf
    have hx2 : x.born < last := by simpa using hx2
    rw [Bool.and_eq_false_iff]
    right
    rw [← Bool.not_eq_true, Array.all_eq_true']
    intro hall
    have := hall x (by simpa using hx1)
    simp at this
    omega

theorem run_next_map {w : World} {b b2 since last clock : Nat} {seen : Array Nat} {ces left : Array MapEntry} {ty : TypeId} (hb : w.heap[b]? = some (.mapIter (some b2) since seen last)) (hb2 : w.heap[b2]? = some (.map ces clock))
    (hcond : (!seen.isEmpty && !ces.isEmpty && ces.all fun e => decide (e.born ≥ last)) = false) (hl : (ces.filter fun e => !seen.contains e.born) = left) :
    (Instr.next (.pointer (some ⟨b, 0, none⟩)) false ty).run P w = (do
      let cs := (if (left.filter (fun e => decide (e.born < since))).isEmpty then #[none] else #[]) ++ (left.filter (fun e => decide (e.born < since)) ++ left.filter (fun e => decide (e.born ≥ since))).map some
      match cs[← choose (.mapNext cs.size)]? with
      | some (some e) =>
        setObj b (.mapIter (some b2) since (seen.push e.born) clock)
        pure (.tuple #[.bool true, e.key, e.val])
      | some none => pure (.tuple #[.bool false])
      | none => stuck "Next: no such candidate" : Sem Value).run P w := by
  have hg : (getObj b).run P w = .ok (.mapIter (some b2) since seen last) w := by simp [getObj, Sem.run, hb]
  have hg2 : (getObj b2).run P w = .ok (.map ces clock) w := MapKept.run_getObj_map hb2
  unfold Instr.next
  simp only [Sem.run_bind, hg, hg2, Result.andThen_ok, hcond, hl, Bool.false_eq_true, if_false]
  rfl
theorem run_next_none {w : World} {b b2 since last clock : Nat} {seen : Array Nat} {ces : Array MapEntry} {ty : TypeId} (hb : w.heap[b]? = some (.mapIter (some b2) since seen last)) (hb2 : w.heap[b2]? = some (.map ces clock))
    (hcond : (!seen.isEmpty && !ces.isEmpty && ces.all fun e => decide (e.born ≥ last)) = false) (hl : (ces.filter fun e => !seen.contains e.born) = #[]) :
    (Instr.next (.pointer (some ⟨b, 0, none⟩)) false ty).run P w = .ok (.tuple #[.bool false]) w := by
  rw [run_next_map hb hb2 hcond hl]
  simp [choose, Sem.run, Question.forced, Result.andThen]
theorem run_next_one {w : World} {b b2 since last clock : Nat} {seen : Array Nat} {ces : Array MapEntry} {ce : MapEntry} {ty : TypeId} (hb : w.heap[b]? = some (.mapIter (some b2) since seen last)) (hb2 : w.heap[b2]? = some (.map ces clock))
    (hcond : (!seen.isEmpty && !ces.isEmpty && ces.all fun e => decide (e.born ≥ last)) = false) (hl : (ces.filter fun e => !seen.contains e.born) = #[ce]) (ho : ce.born < since) :
    (Instr.next (.pointer (some ⟨b, 0, none⟩)) false ty).run P w = .ok (.tuple #[.bool true, ce.key, ce.val]) { w with heap := w.heap.setIfInBounds b (.mapIter (some b2) since (seen.push ce.born) clock) } := by
  rw [run_next_map hb hb2 hcond hl]
  have h1 : decide (ce.born < since) = true := by simp [ho]
  have h2 : decide (ce.born ≥ since) = false := by simp; omega
  have e1 : (#[ce].filter fun e => decide (e.born < since)) = #[ce] := by simp [ho]
  have e2 : (#[ce].filter fun e => decide (e.born ≥ since)) = #[] := by simp; omega
  rw [e1, e2]
  simp [choose, Sem.run, Question.forced, Result.andThen, setObj, hb]
/-- Of several entries, all elder than the range, some one comes. -/
theorem run_next_some {w : World} {b b2 since last clock : Nat} {seen : Array Nat} {ces left : Array MapEntry} {ty : TypeId} (hb : w.heap[b]? = some (.mapIter (some b2) since seen last)) (hb2 : w.heap[b2]? = some (.map ces clock))
    (hcond : (!seen.isEmpty && !ces.isEmpty && ces.all fun e => decide (e.born ≥ last)) = false) (hl : (ces.filter fun e => !seen.contains e.born) = left) (hne : left ≠ #[]) (ho : ∀ c ∈ left, c.born < since) :
    ∃ ce ∈ left, ∃ d, (Instr.next (.pointer (some ⟨b, 0, none⟩)) false ty).run P w = .ok (.tuple #[.bool true, ce.key, ce.val]) { w with heap := w.heap.setIfInBounds b (.mapIter (some b2) since (seen.push ce.born) clock), drawn := d } := by
  rw [run_next_map hb hb2 hcond hl]
  have e1 : (left.filter fun e => decide (e.born < since)) = left := by
    rw [Array.filter_eq_self]
    intro c hc; simpa using ho c hc
  have e2 : (left.filter fun e => decide (e.born ≥ since)) = #[] := by
    rw [Array.filter_eq_empty_iff]
    intro c hc; have := ho c hc; simp; omega
  have e3 : left.isEmpty = false := by simpa using hne
  rw [e1, e2]
  simp only [e3, Bool.false_eq_true, if_false, Array.append_empty, Array.empty_append, Array.size_map]
  have hs : 0 < left.size := by
    rcases Nat.eq_zero_or_pos left.size with h | h
    · exact absurd (Array.eq_empty_of_size_eq_zero h) hne
    · exact h
  obtain ⟨k, d, hk, hrun⟩ : ∃ k d, k < left.size ∧ (choose (.mapNext left.size)).run P w = .ok k { w with drawn := d } := by
    unfold choose
    simp only [Sem.run]
    split
    · exact ⟨0, w.drawn, hs, rfl⟩
    · refine ⟨_, w.drawn + 1, ?_, rfl⟩
      exact Nat.mod_lt _ hs
  refine ⟨left[k], Array.getElem_mem hk, d, ?_⟩
  simp only [Sem.run_bind, hrun, Result.andThen_ok]
  simp [hk, setObj, Sem.run, hb, Result.andThen]

theorem nextG_ok {x : V reg.T} {isString : Bool} {cx : Value} {ty : TypeId} {Q : V reg.T × Hp reg.T → Prop} (hH : HR N F φ h w) (hq : (nextG x isString h).K Q) (hx : VRel reg F w φ x cx) : OpOk P N F φ h w (Instr.next cx isString ty) Q := by
  have noV : VRel reg F w φ (.tup [.d (.bool false)]) (.tuple #[.bool false]) := .tup _ _ rfl (fun j hj => by
    match j, hj with
    | 0, _ => exact .d _ _ (.bool false))
  unfold nextG at hq
  split at hq
  · rename_i i
    split at hq
    · rename_i since seen last hget
      obtain ⟨b, mb, hp, hb, hm⟩ := (hH.obj i _ hget).mit reg
      have hm : mb = none := hm
      subst hm
      cases hx with
      | it _ b' p' hp' =>
        rw [hp] at hp'
        simp only [Option.some.injEq, Prod.mk.injEq] at hp'
        obtain ⟨rfl, -⟩ := hp'
        have hg : (getObj b).run P w = .ok (.mapIter none since seen.toArray last) w := by simp [getObj, Sem.run, hb]
        exact ⟨.tuple #[.bool false], w, by simp [Instr.next, hg, Result.andThen], .pure hH hq noV⟩
    · rename_i j since seen last hget
      split at hq
      · rename_i c es hj
        obtain ⟨hf, hq⟩ := Out.K_ask.1 hq
        obtain ⟨b, b2, ces, hp, hb, hb2, he⟩ := mit_at hH hget hj
        cases hx with
        | it _ b' p' hp' =>
        rw [hp] at hp'
        simp only [Option.some.injEq, Prod.mk.injEq] at hp'
        obtain ⟨rfl, -⟩ := hp'
        have hg : (getObj b).run P w = .ok (.mapIter (some b2) since seen.toArray last) w := by simp [getObj, Sem.run, hb]
        have hs : ∀ o, (setObj b o).run P w = .ok () { w with heap := w.heap.setIfInBounds b o } := fun o => by simp [setObj, Sem.run, hb]
        have hg2 : (getObj b2).run P w = .ok (.map ces c) w := MapKept.run_getObj_map hb2
        have hcond : (!seen.toArray.isEmpty && !ces.isEmpty && ces.all fun e => decide (e.born ≥ last)) = false := mit_cond he hf
        have hleft : Ents reg F w φ (mitLeft es seen) (ces.filter fun e => !seen.toArray.contains e.born).toList := by
          rw [Array.toList_filter]
          exact he.filter (r := fun n => !seen.contains n) (fun e => by rw [memN0_iff]) (fun c => by simp)
        split at hq
        · rename_i hl
          rw [hl] at hleft
          have hnil : (ces.filter fun e => !seen.toArray.contains e.born) = #[] := by
            generalize hz : (ces.filter fun e => !seen.toArray.contains e.born).toList = zs at hleft
            cases hleft
            exact Array.toList_eq_nil_iff.1 hz
          refine ⟨.tuple #[.bool false], w, ?_, .pure hH hq noV⟩
          exact run_next_none hb hb2 hcond hnil
        · rename_i e hl
          obtain ⟨hold, hq⟩ := Out.K_ask.1 hq
          have hold : e.2 < since := Nat.le_of_ble_eq_true hold
          rw [hl] at hleft
          obtain ⟨ce, hone, hk, hv, hn⟩ : ∃ ce, (ces.filter fun e => !seen.toArray.contains e.born) = #[ce] ∧ VRel reg F w φ e.1.1 ce.key ∧ VRel reg F w φ e.1.2 ce.val ∧ ce.born = e.2 := by
            generalize hz : (ces.filter fun e => !seen.toArray.contains e.born).toList = zs at hleft
            cases hleft with
            | cons k v n ce es' cs' hk hv hn ht =>
              cases ht
              exact ⟨ce, by rw [← Array.toArray_toList (xs := ces.filter _), hz], hk, hv, hn⟩
          refine ⟨.tuple #[.bool true, ce.key, ce.val], { w with heap := w.heap.setIfInBounds b (.mapIter (some b2) since (seen ++ [e.2]).toArray c) }, ?_, put_ok hH hget hp hq rfl rfl rfl (by simp) (fun b' hb' => ?_) (fun _ => ?_) ?_⟩
          · have hb1 : ce.born < since := by omega
            rw [run_next_one hb hb2 hcond hone hb1, hn]
            simp
          · show (w.heap.setIfInBounds b _)[b']? = _
            rw [Array.getElem?_setIfInBounds, if_neg (Ne.symm hb')]
          · refine .inr (.inr (.inr ⟨some j, since, seen ++ [e.2], c, b, some b2, rfl, hp, ?_, ?_⟩))
            · show (w.heap.setIfInBounds b _)[b]? = _
              rw [Array.getElem?_setIfInBounds, if_pos rfl, if_pos (Array.getElem?_eq_some_iff.1 hb).1]
            · obtain ⟨_, mb, _, hbm, hmb⟩ := (hH.obj i _ hget).mit reg
              obtain ⟨b4, mb4, hp4, hb4, b5, s5, e5, e6⟩ := (hH.obj i _ hget).mit reg
              rw [hp] at hp4
              simp only [Option.some.injEq, Prod.mk.injEq] at hp4
              obtain ⟨rfl, _⟩ := hp4
              rw [hb] at hb4
              simp only [Option.some.injEq, Obj.mapIter.injEq] at hb4
              exact ⟨b5, s5, e5, by rw [hb4.1, e6]⟩
          · refine .tup _ _ rfl (fun q hq' => ?_)
            match q, hq' with
            | 0, _ => exact .d _ _ (.bool true)
            | 1, _ => exact hk
            | 2, _ => exact hv
        · exact hq.elim
      · exact hq.elim
    · exact hq.elim
  · rename_i i
    split at hq
    · rename_i s pos hget
      obtain ⟨b, hp, hb⟩ := (hH.obj i _ hget).sit reg
      cases hx with
      | it _ b' p' hp' =>
        rw [hp] at hp'
        simp only [Option.some.injEq, Prod.mk.injEq] at hp'
        obtain ⟨rfl, -⟩ := hp'
        have hg : (getObj b).run P w = .ok (.stringIter ⟨s.toArray⟩ pos) w := by simp [getObj, Sem.run, hb]
        have hs : ∀ o, (setObj b o).run P w = .ok () { w with heap := w.heap.setIfInBounds b o } := fun o => by simp [setObj, Sem.run, hb]
        have hsz : (⟨s.toArray⟩ : ByteArray).size = s.length := by simp [ByteArray.size]
        simp only [Out.K, branch_iff] at hq
        by_cases hlt : pos < s.length
        · have h1 : Nat.blt pos s.length = true := Nat.ble_eq_true_of_le hlt
          obtain ⟨h2, hq⟩ := (must_iff _ _).1 (hq.1 h1)
          have h2 : (s.getD pos 0).toNat < 128 := Nat.le_of_ble_eq_true h2
          have hget0 : (⟨s.toArray⟩ : ByteArray).get! pos = s.getD pos 0 := by
            simp [ByteArray.get!, List.getD, hlt]
          have hdec : Utf8.decode ⟨s.toArray⟩ pos = ((s.getD pos 0).toNat, 1) := by
            unfold Utf8.decode
            simp only [Nat.add_zero, hget0]
            rw [if_pos h2]
          refine ⟨.tuple #[.bool true, goInt pos, .int .i32 ((s.getD pos 0).toNat : Int)], { w with heap := w.heap.setIfInBounds b (.stringIter ⟨s.toArray⟩ (pos + 1)) }, ?_, put_ok hH hget hp hq rfl rfl rfl (by simp) (fun b' hb' => ?_) (fun _ => ?_) ?_⟩
          · simp [Instr.next, hg, hs, hsz, hlt, hdec, Result.andThen]
          · show (w.heap.setIfInBounds b _)[b']? = _
            rw [Array.getElem?_setIfInBounds, if_neg (Ne.symm hb')]
          · refine .inr (.inr (.inl ⟨s, pos + 1, b, rfl, hp, ?_⟩))
            show (w.heap.setIfInBounds b _)[b]? = _
            rw [Array.getElem?_setIfInBounds, if_pos rfl, if_pos (Array.getElem?_eq_some_iff.1 hb).1]
          · refine .tup _ _ rfl (fun j hj => ?_)
            match j, hj with
            | 0, _ => exact .d _ _ (.bool true)
            | 1, _ => exact .d _ _ (.int _ _)
            | 2, _ => exact .d _ _ (.int _ _)
        · have h1 : Nat.blt pos s.length = false := by
            cases hb : Nat.blt pos s.length with
            | false => rfl
            | true => exact absurd (Nat.le_of_ble_eq_true hb) hlt
          refine ⟨.tuple #[.bool false], w, ?_, .pure hH (hq.2 h1) ?_⟩
          · simp [Instr.next, hg, hsz, hlt, Result.andThen]
          · refine .tup _ _ rfl (fun j hj => ?_)
            match j, hj with
            | 0, _ => exact .d _ _ (.bool false)
    · exact hq.elim
  · exact hq.elim

theorem entryG_ok {x : V reg.T} {cx : Value} {Q : V reg.T × Hp reg.T → Prop} (hH : HR N F φ h w) (hq : (entryG x h).K Q) (hx : VRel reg F w φ x cx) : OpOk P N F φ h w (Instr.entry cx) Q := by
  unfold entryG at hq
  split at hq
  · rename_i i
    split at hq
    · rename_i j since seen last hget
      split at hq
      · rename_i n c es hl hj
        obtain ⟨hc, hq2⟩ := Out.K_ask.1 hq
        clear hq
        have hc : c = last := Nat.eq_of_beq_eq_true hc
        subst hc
        split at hq2
        · rename_i k v hst
          obtain ⟨b, b2, ces, hp, hb, hb2, he⟩ := mit_at hH hget hj
          cases hx with
          | it _ b' p' hp' =>
          rw [hp] at hp'
          simp only [Option.some.injEq, Prod.mk.injEq] at hp'
          obtain ⟨rfl, -⟩ := hp'
          obtain ⟨ce, h1, h2, h3⟩ := he.stamp hst
          have hg : (getObj b).run P w = .ok (.mapIter (some b2) since seen.toArray c) w := by simp [getObj, Sem.run, hb]
          have hg2 : (getObj b2).run P w = .ok (.map ces c) w := MapKept.run_getObj_map hb2
          have hbk : seen.toArray.back? = some n := by rw [List.back?_toArray]; exact lastN_spec hl
          have hfd : (ces.find? fun e => e.born == n) = some ce := by rw [← Array.find?_toList]; exact h1
          refine ⟨.tuple #[ce.key, ce.val], w, ?_, .pure hH hq2 (.tup _ _ rfl (fun q hq' => ?_))⟩
          · simp [Instr.entry, hg, hg2, hbk, hfd, Result.andThen]
          · match q, hq' with
            | 0, _ => exact h2
            | 1, _ => exact h3
        · exact hq2.elim
      · exact hq.elim
    · exact hq.elim
  · exact hq.elim

theorem deleteG_ok {t t2 : TypeId} {x k : V reg.T} {cx ck : Value} {ty : TypeId} {Q : V reg.T × Hp reg.T → Prop} (hH : HR N F φ h w) (hq : (deleteG P t x k h).K Q) (hx : VRel reg F w φ x cx) (hk : VRel reg F w φ k ck) : OpOk P N F φ h w (Builtin.delete_ #[t, t2] ty #[cx, ck]) Q := by
  have hnil : VRel reg F w φ (.tup []) (.tuple #[]) := .tup _ _ rfl (fun j hj => by simp at hj)
  unfold deleteG at hq
  split at hq
  · rename_i kt et i hm
    have ht := mapT_eq hm
    split at hq
    · rename_i c es hget
      obtain ⟨hkb, hq⟩ := Out.K_ask.1 hq
      obtain ⟨d, hd, hik⟩ := keyable_spec hkb hk
      obtain ⟨b, ces, rfl, hp, hb, he⟩ := map_at hH hget hx
      rcases mapFind_ok hk hik he 0 _ _ hq with ⟨h1, h2⟩ | ⟨j, e, v', n, h1, h2, h3, h4, h5, h6⟩
      · refine ⟨_, _, ?_, map_put (ces' := ces) hH hget hp hb h2 he hnil⟩
        simp [Builtin.delete_, run_underlying ht, MapKept.run_getObj_map hb, run_checkKey hd hik, run_findKey hd h1, run_setObj_map _ hb, Result.andThen]
      · rw [Nat.zero_add] at h1 h6
        have hj : j < ces.size := by
          have := (List.getElem?_eq_some_iff.1 h2).1
          simpa using this
        refine ⟨_, _, ?_, map_put (ces' := ces.eraseIdxIfInBounds j) hH hget hp hb h6 ?_ hnil⟩
        · simp [Builtin.delete_, run_underlying ht, MapKept.run_getObj_map hb, run_checkKey hd hik, run_findKey hd h1, run_setObj_map _ hb, Result.andThen]
        · have : (ces.eraseIdxIfInBounds j).toList = ces.toList.eraseIdx j := by
            unfold Array.eraseIdxIfInBounds
            rw [dif_pos hj, Array.toList_eraseIdx]
          rw [this]
          exact he.erase j
    · exact hq.elim
  · exact hq.elim

/-! ### Structs that are compared -/
theorem eqFs_ok {n d : Nat} (ih : ∀ {t : TypeId} {x y : V reg.T} {b : Bool}, eqT P n t x y = some b → ∀ {cx cy : Value}, VRel reg F w φ x cx → VRel reg F w φ y cy → (Op.equalIn d t cx cy).run P w = .ok b w) {xs ys : List (V reg.T)} {cs ds : Array Value}
    (hz : xs.length = cs.size) (hr : ∀ j, j < xs.length → VRel reg F w φ (xs.getD j .any) (cs.getD j undef)) (hz' : ys.length = ds.size) (hr' : ∀ j, j < ys.length → VRel reg F w φ (ys.getD j .any) (ds.getD j undef)) :
    ∀ {fs : List Field} {b : Bool}, eqFs P (eqT P n) xs ys fs = some b → (Op.eqFields d cs ds fs).run P w = .ok b w := by
  intro fs
  induction fs with
  | nil => intro b h; cases h; rfl
  | cons f fs ihf =>
    intro b h
    simp only [eqFs] at h
    split at h
    · rename_i a c hn ha hc
      split at h
      · rename_i p q hp hq
        cases h
        obtain ⟨ca, h1, h2⟩ := part_ok hz hr ha
        obtain ⟨cc, h3, h4⟩ := part_ok hz' hr' hc
        have h5 := ih hp h2 h4
        have h6 := ihf hq
        have hn : f.name ≠ "_" := by simpa using hn
        simp only [Op.eqFields, if_pos hn, Sem.run_bind, h1, h3, h5, Result.andThen_ok]
        cases p with
        | true => simpa using h6
        | false => simp
      · cases h
    · cases h

theorem eqT_ok : ∀ (n : Nat) {d : Nat} {t : TypeId} {x y : V reg.T} {b : Bool}, n ≤ d → eqT P n t x y = some b → ∀ {cx cy : Value}, VRel reg F w φ x cx → VRel reg F w φ y cy → (Op.equalIn d t cx cy).run P w = .ok b w := by
  intro n
  induction n with
  | zero => intro d t x y b _ h; cases h
  | succ n ih =>
    intro d t x y b hd h cx cy hx hy
    obtain ⟨d, rfl⟩ : ∃ e, d = e + 1 := ⟨d - 1, by omega⟩
    simp only [eqT] at h
    split at h
    · rename_i fs xs ys hu
      split at h
      · cases h
      · rename_i hs
        cases hx with
        | agg _ cs hz hr =>
          cases hy with
          | agg _ ds hz' hr' =>
            have hf : P.fieldsOf t = fs := by simp [Program.fieldsOf, hu]
            rw [run_equalIn_struct w d t cs ds (by rw [hf]; exact hu) hs, hf]
            exact eqFs_ok (fun h => ih (by omega) h) hz hr hz' hr' h
    · rename_i k a x b' y hu
      rw [hx.int_inv, hy.int_inv]
      split at h
      · rename_i hk
        rw [sameKind_eq hk]
        cases h
        exact run_equalIn_int w d t _ _ x y hu
      · cases h
    · rename_i s u hu
      rw [hx.str_inv, hy.str_inv]
      cases h
      rw [run_equalIn_string w d t _ _ hu]
      congr 1
      simp [ByteArray.toList_eq]
    · rename_i a b' hu
      rw [hx.bool_inv, hy.bool_inv]
      cases h
      exact run_equalIn_bool' w d t a b' hu
    · cases h

theorem eqG_ok {op : BinOp} {t : TypeId} {xs ys : List (V reg.T)} {cx cy : Value} {Q : V reg.T × Hp reg.T → Prop} (hH : HR N F φ h w) (hq : (eqG P op t (.agg xs) (.agg ys) h).K Q) (hx : VRel reg F w φ (.agg xs) cx) (hy : VRel reg F w φ (.agg ys) cy) (ox oy : Operand) :
    OpOk P N F φ h w (do eqGuard op t ox oy cx cy; binOp op t cx cy) Q := by
  unfold eqG at hq
  split at hq
  · rename_i b hg hb
    have h1 := eqT_ok 8 (d := 10000) (by omega) hb hx hy
    cases hx with
    | agg _ cs hz hr =>
      cases hy with
      | agg _ ds hz' hr' =>
        refine ⟨_, w, ?_, .pure hH hq (.d _ _ (.bool b))⟩
        simp only [Sem.run_bind, run_eqGuard_agg w .eql t ox oy cs ds hg, Result.andThen_ok, run_eql_struct, h1]
  · rename_i b hg hb
    have h1 := eqT_ok 8 (d := 10000) (by omega) hb hx hy
    cases hx with
    | agg _ cs hz hr =>
      cases hy with
      | agg _ ds hz' hr' =>
        refine ⟨_, w, ?_, .pure hH hq (.d _ _ (.bool (!b)))⟩
        simp only [Sem.run_bind, run_eqGuard_agg w .neq t ox oy cs ds hg, Result.andThen_ok, run_neq_struct, h1]
  · exact hq.elim
end
end Go.W

namespace Go.W
open Go Go.RowKit

section
variable {reg : Reg} {P : Program}

/-- Values, one by one. -/
def LRel (F : Nat → Prop) (w : World) (φ : Phi) (vs : List (V reg.T)) (cs : Array Value) : Prop := vs.length = cs.size ∧ ∀ j, j < vs.length → VRel reg F w φ (vs.getD j .any) (cs.getD j undef)

theorem LRel.mono {F F' : Nat → Prop} {w w' : World} {φ φ' : Phi} {vs : List (V reg.T)} {cs : Array Value} (h : ∀ b, F b → F' b ∧ w'.heap[b]? = w.heap[b]?) (hφ : ∀ i p, φ i = some p → φ' i = some p) (hl : LRel F w φ vs cs) : LRel F' w' φ' vs cs :=
  ⟨hl.1, fun j hj => (hl.2 j hj).mono reg h hφ⟩

theorem LRel.append {F : Nat → Prop} {w : World} {φ : Phi} {vs us : List (V reg.T)} {cs ds : Array Value} (h1 : LRel F w φ vs cs) (h2 : LRel F w φ us ds) : LRel F w φ (vs ++ us) (cs ++ ds) := by
  refine ⟨by simp [h1.1, h2.1], fun j hj => ?_⟩
  rw [getD_append_if]
  have e : (cs ++ ds).getD j undef = if j < vs.length then cs.getD j undef else ds.getD (j - vs.length) undef := by
    simp only [Array.getD_eq_getD_getElem?]
    split
    · rename_i h; rw [Array.getElem?_append_left (by rw [← h1.1]; exact h)]
    · rename_i h; rw [Array.getElem?_append_right (by rw [← h1.1]; omega), h1.1]
  rw [e]
  split
  · rename_i h; exact h1.2 j h
  · rename_i h; exact h2.2 _ (by simp at hj; omega)

/-- What a call comes to. -/
def CallPost (N F : Nat → Prop) (φ : Phi) (h : Hp reg.T) (w : World) (Q : V reg.T × Hp reg.T → Prop) (e : Ending) (w' : World) : Prop := ∃ cv, e = .returned cv ∧ Res N F φ h w Q cv w'

def There (P : Program) (f : FuncId) : Prop := ∃ fn, P.funcs[f]? = some fn ∧ (fn.name == "runtime.NumGoroutine") = false ∧ fn.body.isNone = false

/-- That calls are carried out so. -/
def HdSound (P : Program) (hd : Hd reg.T) : Prop := ∀ f args h Q, (hd f args h).K Q → There P f ∧ ∀ N F φ w cargs, (∀ r, Q r → Fresh N h.nx r.2.nx) → HR N F φ h w → LRel F w φ args cargs → Calls P f cargs w (CallPost N F φ h w Q)

variable {N F : Nat → Prop} {φ : Phi} {h : Hp reg.T} {w : World}

theorem VRel.fp_inv {row : List (D reg.T)} {o : Nat} {cv : Value} (h : VRel reg F w φ (.fp row o) cv) : ∃ ad : Addr, cv = .pointer (some ad) := by
  cases h with | fp _ _ ad C tt fz hF hb hzz hr => exact ⟨_, rfl⟩
theorem VRel.fn_inv {f : FuncId} {cs fs : List (V reg.T)} {cv : Value} (h : VRel reg F w φ (.fn f cs fs) cv) : ∃ c d, cv = .func (.func f) c d := by
  cases h with | fn => exact ⟨_, _, rfl⟩

theorem wp_skip' {o : Oper} {a : Act} {w w' : World} {K : Act → World → Prop} {Q : Exit → Act → World → Prop} (hr : (execOp a.eval o).run P w = .ok .skip w')
    (h : K (a.put o.dst undef) w') : o.wp P a w K Q := by unfold Oper.wp; rw [hr]; exact h

theorem K_outD {o : Out (D reg.T)} {Q : V reg.T × Hp reg.T → Prop} (hq : (outD o h).K Q) : o.K fun x => Q (.d x, h) := Out.K_bind.1 hq

theorem opok_wp {o : Oper} {a : Act} {s : Sem Value} {Q : V reg.T × Hp reg.T → Prop} {K : Act → World → Prop} {Qx : Exit → Act → World → Prop} (hs : OpOk P N F φ h w s Q) (he : execOp a.eval o = (do pure (.value (← s))))
    (hK : ∀ cv w', Res N F φ h w Q cv w' → K (a.put o.dst cv) w') : o.wp P a w K Qx := by
  obtain ⟨cv, w', hr, hres⟩ := hs
  unfold Oper.wp
  rw [he]
  have : (do pure (Next.value (← s)) : Sem Next).run P w = .ok (.value cv) w' := by rw [Sem.run_bind, hr]; rfl
  rw [this]
  exact hK cv w' hres

theorem dok_op {s : Sem Value} {Q : V reg.T × Hp reg.T → Prop} (hH : HR N F φ h w) (hd : DOk P (fun _ => s) fun x => Q (.d x, h)) : OpOk P N F φ h w s Q := by
  obtain ⟨d, cv, h1, h2, h3⟩ := hd
  exact ⟨cv, w, h3 w, .pure hH h1 (.d _ _ (h2 F w))⟩

theorem builtinG_ok {b : Builtin} {ts : Array TypeId} {vs : List (V reg.T)} {cs : Array Value} {ty : TypeId} {consts : Array Bool} {Q : V reg.T × Hp reg.T → Prop} (hH : HR N F φ h w) (hfr : ∀ r, Q r → Fresh N h.nx r.2.nx) (hq : (builtinG P b ts.toList vs h).K Q) (hl : LRel F w φ vs cs) :
    ∃ s, builtin b ts ty consts cs = (do pure (.value (← s))) ∧ OpOk P N F φ h w s Q := by
  have one : ∀ {v : V reg.T}, vs = [v] → ∃ c, cs = #[c] ∧ VRel reg F w φ v c := by
    rintro v rfl
    have h1 : cs.size = 1 := hl.1.symm
    refine ⟨cs.getD 0 undef, ?_, hl.2 0 (by simp)⟩
    apply Array.ext
    · simpa using h1
    · intro i h2 h3; obtain rfl : i = 0 := by simpa using h3
      simp [h1]
  have two : ∀ {v u : V reg.T}, vs = [v, u] → ∃ c d, cs = #[c, d] ∧ VRel reg F w φ v c ∧ VRel reg F w φ u d := by
    rintro v u rfl
    have h1 : cs.size = 2 := hl.1.symm
    refine ⟨cs.getD 0 undef, cs.getD 1 undef, ?_, hl.2 0 (by simp), hl.2 1 (by simp)⟩
    apply Array.ext
    · simpa using h1
    · intro i h2 h3
      have h4 : i < 2 := by simpa using h3
      match i, h4 with
      | 0, _ => simp [h1]
      | 1, _ => simp [h1]
  have tt : ∀ {l : List TypeId}, ts.toList = l → ts = l.toArray := fun e => by rw [← e]
  unfold builtinG at hq
  split at hq
  · -- len
    rename_i t v hts
    obtain ⟨c, rfl, hv⟩ := one rfl
    have hts := tt hts
    subst hts
    refine ⟨_, rfl, ?_⟩
    split at hq
    · rename_i s
      obtain ⟨ht, hq⟩ := Out.K_ask.1 hq
      have ht := isStrT_eq ht
      rw [hv.str_inv]
      refine ⟨_, w, ?_, .pure hH hq (.d _ _ (.int _ _))⟩
      have hsz : (ByteArray.mk s.toArray).size = s.length := by simp [ByteArray.size]
      simp [Builtin.len_, run_underlying ht, goInt, hsz]
    · split at hq
      · rename_i e x ht hns
        have ht := sliceT_eq ht
        split at hq
        · rename_i n hn
          have hform : ∃ base cap', c = .slice base n cap' := by
            cases hv with | d _ _ hd' =>
            cases hd' <;> (try (simp only [D.len?, reduceCtorEq] at hn; done))
            case nils => simp only [D.len?, Option.some.injEq] at hn; subst hn; exact ⟨none, 0, rfl⟩
            case emp base cap hx1 hx2 => rw [hx2] at hn; cases hn; exact ⟨base, cap, rfl⟩
            case sl n' a cap C t' fz hF hb hs hc hm hx1 hx2 hz hkr hr => rw [hx2] at hn; cases hn; exact ⟨_, cap, rfl⟩
          obtain ⟨base, cap', rfl⟩ := hform
          exact ⟨_, w, by simp [Builtin.len_, run_underlying ht, goInt], .pure hH hq (.d _ _ (.int _ _))⟩
        · exact hq.elim
      · rename_i e i off n cap ht hns
        have ht := sliceT_eq ht
        have hform : ∃ base cap', c = .slice base n cap' := by
          cases hv with
          | sl _ _ _ _ b s k z cap' hp hcr hlc hm hzz => exact ⟨_, cap', rfl⟩
          | slz _ _ _ base hcr => exact ⟨base, 0, rfl⟩
        obtain ⟨base, cap', rfl⟩ := hform
        exact ⟨_, w, by simp [Builtin.len_, run_underlying ht, goInt], .pure hH hq (.d _ _ (.int _ _))⟩
      · rename_i i hns hne
        split at hq
        · rename_i p c0 es hm hget
          obtain ⟨kt, et⟩ := p
          obtain ⟨b, ces, rfl, hp, hb, he⟩ := map_at hH hget hv
          have hl : es.length = ces.size := by simpa using he.length
          rw [hl] at hq
          exact ⟨_, w, by simp [Builtin.len_, run_underlying (mapT_eq hm), MapKept.run_getObj_map hb, goInt, Result.andThen], .pure hH hq (.d _ _ (.int _ _))⟩
        · exact hq.elim
      · exact hq.elim
  · -- append
    rename_i t t2 x y hts
    obtain ⟨c, d, rfl, hx, hy⟩ := two rfl
    have hts := tt hts
    subst hts
    split at hq
    · rename_i hk
      have hk2 : Kind2 P t2 := by
        rw [Bool.or_eq_true] at hk
        rcases hk with hk | hk
        · obtain ⟨e, he⟩ := Option.isSome_iff_exists.1 hk; exact .inl ⟨e, sliceT_eq he⟩
        · exact .inr (isStrT_eq hk)
      exact ⟨_, rfl, appendG_ok hH hfr hk2 hq hx hy⟩
    · exact hq.elim
  · -- copy
    rename_i t t2 x y hts
    obtain ⟨c, d, rfl, hx, hy⟩ := two rfl
    have hts := tt hts
    subst hts
    split at hq
    · rename_i hk
      have hk2 : Kind2 P t2 := by
        rw [Bool.or_eq_true] at hk
        rcases hk with hk | hk
        · obtain ⟨e, he⟩ := Option.isSome_iff_exists.1 hk; exact .inl ⟨e, sliceT_eq he⟩
        · exact .inr (isStrT_eq hk)
      exact ⟨_, rfl, copyG_ok hH hk2 hq hx hy⟩
    · exact hq.elim
  · -- clear
    rename_i t x hts
    obtain ⟨c, rfl, hx⟩ := one rfl
    have hts := tt hts
    subst hts
    exact ⟨_, rfl, clearG_ok hH hq hx⟩
  · -- delete
    rename_i t t2 m k hts
    obtain ⟨c, d, rfl, hx, hy⟩ := two rfl
    have hts := tt hts
    subst hts
    exact ⟨_, rfl, deleteG_ok hH hq hx hy⟩
  · rename_i k x k' y
    obtain ⟨c, d, rfl, hx, hy⟩ := two rfl
    rw [hx.int_inv, hy.int_inv]
    obtain ⟨hk, hq⟩ := Out.K_ask.1 hq
    exact ⟨_, rfl, _, w, by simp [Builtin.min_, Builtin.min2], .pure hH hq (.d _ _ (.int _ _))⟩
  · rename_i k x k' y
    obtain ⟨c, d, rfl, hx, hy⟩ := two rfl
    rw [hx.int_inv, hy.int_inv]
    obtain ⟨hk, hq⟩ := Out.K_ask.1 hq
    exact ⟨_, rfl, _, w, by simp [Builtin.max_, Builtin.max2], .pure hH hq (.d _ _ (.int _ _))⟩
  · exact hq.elim

/-- The values of operands. -/
theorem operands_rel {val : Operand → Option (V reg.T)} {ev : Operand → Value} (hv : ∀ x v, val x = some v → VRel reg F w φ v (ev x)) {xs : Array Operand} {vs : List (V reg.T)} (h : allSome (xs.toList.map val) = some vs) : LRel F w φ vs (xs.map ev) := by
  have h1 := allSome_spec h
  have hlen : vs.length = xs.size := by
    have := congrArg List.length h1
    simpa using this.symm
  refine ⟨by simpa using hlen, fun j hj => ?_⟩
  have hj' : j < xs.size := by omega
  have h2 : val xs[j] = some (vs.getD j .any) := by
    have := congrArg (fun l => l[j]?) h1
    simp [hj', hj] at this
    simp [this, List.getD, hj]
  have h3 : (xs.map ev).getD j undef = ev xs[j] := by simp [Array.getD, hj']
  rw [h3]
  exact hv _ _ h2

theorem parts_rel {val : Operand → Option (V reg.T)} {ev : Operand → Value} (hv : ∀ x v, val x = some v → VRel reg F w φ v (ev x)) (parts : Array (Nat × Operand)) :
    (parts.toList.map fun p => (p.1, val p.2)).map (·.1) = (parts.map fun p => (p.1, ev p.2)).toList.map (·.1) ∧
    ∀ (i : Nat) (p : Nat × Option (V reg.T)) (q : Nat × Value) (v : V reg.T), (parts.toList.map fun p => (p.1, val p.2))[i]? = some p → (parts.map fun p => (p.1, ev p.2)).toList[i]? = some q → p.2 = some v → VRel reg F w φ v q.2 := by
  refine ⟨by simp, fun i p q v hp hq hpv => ?_⟩
  simp only [Array.toList_map, List.getElem?_map, Option.map_eq_some_iff] at hp hq
  obtain ⟨x, hx, rfl⟩ := hp
  obtain ⟨y, hy, rfl⟩ := hq
  rw [hx] at hy
  cases hy
  exact hv _ _ hpv

set_option maxHeartbeats 1000000 in
theorem lexec_sound {hd : Hd reg.T} (hHd : HdSound P hd) {o : Oper} {a : Act} {val : Operand → Option (V reg.T)} {Q : V reg.T × Hp reg.T → Prop} (hH : HR N F φ h w) (hfr : ∀ r, Q r → Fresh N h.nx r.2.nx) (hv : ∀ x v, val x = some v → VRel reg F w φ v (a.eval x))
    (hq : (lexec P hd o.op val h).K Q) {K : Act → World → Prop} {Qx : Exit → Act → World → Prop} (hK : ∀ cv w', Res N F φ h w Q cv w' → K (a.put o.dst cv) w') : o.wp P a w K Qx := by
  obtain ⟨dst, op, ty, pos, after, guard⟩ := o
  simp only at hq hK
  have pureV : ∀ {x : Operand} {op'}, op = op' → execOp a.eval ⟨dst, op', ty, pos, after, guard⟩ = pure (.value (a.eval x)) → (oneO (val x) h).K Q → Oper.wp P ⟨dst, op, ty, pos, after, guard⟩ a w K Qx := by
    intro x op' he hex hq
    subst he
    obtain ⟨v, hx, hq⟩ := K_oneO hq
    unfold Oper.wp
    rw [hex]
    exact hK _ _ (.pure hH hq (hv x v hx))
  cases op <;> (try simp only [lexec] at hq) <;> (try exact hq.elim)
  case move x => exact pureV rfl rfl hq
  case assign x => exact pureV rfl rfl hq
  case pick c x y =>
    split at hq
    · rename_i t hc
      have hct := (hv c _ hc).bool_inv
      simp only [Out.K, branch_iff] at hq
      cases t with
      | true => exact pureV (x := x) rfl (by simp [execOp, hct, asBool]) (hq.1 rfl)
      | false => exact pureV (x := y) rfl (by simp [execOp, hct, asBool]) (hq.2 rfl)
    · exact hq.elim
  case box t x =>
    split at hq
    · rename_i v hx
      split at hq
      · rename_i hs hlen
        have hlen := Nat.eq_of_beq_eq_true hlen
        obtain ⟨hok, hq⟩ := K_newO hq
        obtain ⟨_, h1, h2, _⟩ := one_all (hv x v hx) hs
        refine opok_wp (s := Instr.box t (a.eval x)) ⟨.pointer (some ⟨w.heap.size, 0, none⟩), w.alloc (.cells (a.eval x).cells t), by simp [Instr.box, newVar, newRow], alloc_ok hH hq (fresh_new hfr hq) hok rfl rfl rfl (by simp) (fun b hb => ?_) (heap_alloc_new w _) (.inl rfl) rfl ?_ ?_ ?_ ?_⟩ rfl hK
        · show (w.heap.push _)[b]? = _
          rw [Array.getElem?_push, if_neg (by omega)]
        · simp only [O.len, O.k, List.length_singleton, Nat.one_mul]; omega
        · simp [O.len]
        · simp only [O.len, O.k, List.length_singleton]
          refine ⟨fun r hr => by obtain rfl : r = 0 := by omega
                                 rfl, fun r j hr hj => ?_, fun r j hr hj => ?_⟩
          · obtain rfl : r = 0 := by omega
            exact solid_all hs hj
          · obtain rfl : r = 0 := by omega
            rw [Nat.zero_mul, Nat.zero_add]
            exact h2 j hj
        · intro φ' e1 _
          have := VRel.ptr (reg := reg) (F := F) (w := w.alloc (.cells (a.eval x).cells t)) (φ := φ') h.nx 0 0 _ _ _ _ e1
          simpa using this
      · exact hq.elim
    · exact hq.elim
  case alloc t =>
    split at hq
    · rename_i vs hz
      obtain ⟨hok, hq⟩ := K_newO hq
      obtain ⟨i, z, hi, hzz, h1, h2⟩ := zeroT_rel (F := F) (w := w) (φ := φ) hz
      refine opok_wp (s := Instr.alloc t true (.tuple #[])) ⟨.pointer (some ⟨w.heap.size, 0, none⟩), w.alloc (.cells z.cells t), by simp [Instr.alloc, zeroValue, typeInfo, hi, hzz, newVar, newRow], alloc_ok hH hq (fresh_new hfr hq) hok rfl rfl rfl (by simp) (fun b hb => ?_) (heap_alloc_new w _) (.inl rfl) rfl ?_ ?_ ?_ ?_⟩ rfl hK
      · show (w.heap.push _)[b]? = _
        rw [Array.getElem?_push, if_neg (by omega)]
      · simp only [O.len, O.k, List.length_singleton, Nat.one_mul]; omega
      · simp [O.len]
      · simp only [O.len, O.k, List.length_singleton]
        refine ⟨fun r hr => by obtain rfl : r = 0 := by omega
                               rfl, fun r j hr hj => ?_, fun r j hr hj => ?_⟩
        · obtain rfl : r = 0 := by omega
          exact (h2 j hj).2
        · obtain rfl : r = 0 := by omega
          rw [Nat.zero_mul, Nat.zero_add]
          exact (h2 j hj).1
      · intro φ' e1 _
        have := VRel.ptr (reg := reg) (F := F) (w := w.alloc (.cells z.cells t)) (φ := φ') h.nx 0 0 _ _ _ _ e1
        simpa using this
    · exact hq.elim
  case fieldAddr s x f =>
    split at hq
    · rename_i fs hs
      split at hq
      · rename_i fl hf
        split at hq
        · exact hq.elim
        · rename_i hz
          have hinfo : ∃ i, P.info? fl.type = some i ∧ i.size ≠ 0 := by
            cases hi : P.info? fl.type with
            | none => exact absurd (by simp [Program.cellsOf, hi]) hz
            | some i => exact ⟨i, rfl, fun e => hz (by simp [Program.cellsOf, hi, e])⟩
          obtain ⟨i, hi, hi'⟩ := hinfo
          have hrun : ∀ b o', (Instr.fieldAt s (.pointer (some ⟨b, o', none⟩)) f).run P w = .ok (.pointer (some ⟨b, o' + fl.offset, none⟩)) w := by
            intro b o'
            simp [Instr.fieldAt, run_underlying hs, hf, Instr.sureAddr, fieldPlace, sizeOf, typeInfo, hi, hi', addr_add]
          split at hq
          · rename_i i' r o' hx
            obtain ⟨b, s', k, z, hp, he⟩ := (hv x _ hx).ptr_inv
            refine opok_wp (s := Instr.fieldAt s (a.eval x) f) ⟨_, w, by rw [he]; exact hrun _ _, .pure hH hq ?_⟩ rfl hK
            have := VRel.ptr (reg := reg) (F := F) (w := w) (φ := φ) i' r (o' + fl.offset) b s' k z hp
            rwa [show s' + r * k + (o' + fl.offset) = s' + r * k + o' + fl.offset by omega] at this
          · rename_i row o' hx
            have hvx := hv x _ hx
            generalize hax : a.eval x = ax at hvx
            cases hvx with
            | fp _ _ ad Cc tt fz hF hb hzz hr =>
              refine opok_wp (s := Instr.fieldAt s (a.eval x) f) ⟨_, w, by rw [hax]; exact hrun _ _, .pure hH hq ?_⟩ rfl hK
              have := VRel.fp (reg := reg) (F := F) (w := w) (φ := φ) row (o' + fl.offset) ad Cc tt fz hF hb hzz hr
              rwa [show ad.off + (o' + fl.offset) = ad.off + o' + fl.offset by omega] at this
          · exact hq.elim
      · exact hq.elim
    · exact hq.elim
  case load t x => exact opok_wp (loadG_ok hH hq (fun v hx => hv x v hx)) rfl hK
  case store t x y =>
    obtain ⟨w', hr, hres⟩ := storeG_ok hH hq (fun v hx => hv x v hx) (fun v hy => hv y v hy)
    refine wp_skip' (w' := w') ?_ (hK _ _ hres)
    simp [execOp, hr]
  case nilCheck x =>
    split at hq
    · rename_i i r o hx
      obtain ⟨b, s', k, z, hp, he⟩ := (hv x _ hx).ptr_inv
      exact opok_wp (s := pure (a.eval x)) ⟨_, w, rfl, .pure hH hq (hv x _ hx)⟩ (by simp only [execOp, he]; rfl) hK
    · rename_i row o hx
      have hvx := hv x _ hx
      obtain ⟨ad, he⟩ := hvx.fp_inv
      exact opok_wp (s := pure (a.eval x)) ⟨_, w, rfl, .pure hH hq hvx⟩ (by simp only [execOp, he]; rfl) hK
    · rename_i f cs fs hx
      have hvx := hv x _ hx
      obtain ⟨c, d, he⟩ := hvx.fn_inv
      exact opok_wp (s := pure (a.eval x)) ⟨_, w, rfl, .pure hH hq hvx⟩ (by simp only [execOp, he]; rfl) hK
    · exact hq.elim
  case binOp op t x y yt =>
    split at hq
    · rename_i xs ys hx hy
      exact opok_wp (s := do eqGuard op t x y (a.eval x) (a.eval y); binOp op t (a.eval x) (a.eval y)) (eqG_ok hH hq (hv x _ hx) (hv y _ hy) x y) rfl hK
    · rename_i vx vy hne hx hy
      split at hq
      · rename_i hn
        have he : a.eval y = .slice none 0 0 := by
          unfold isNilS at hn
          split at hn
          · rfl
          · cases hn
        exact opok_wp (s := do eqGuard op t x y (a.eval x) (a.eval y); binOp op t (a.eval x) (a.eval y)) (by rw [he]; exact dok_op hH (nilD_ok (K_outD hq) (hv x _ hx) x y)) rfl hK
      · exact opok_wp (s := do eqGuard op t x y (a.eval x) (a.eval y); binOp op t (a.eval x) (a.eval y)) (dok_op hH (binD_ok (K_outD hq) (hv x _ hx) (hv y _ hy) x y rfl)) rfl hK
    · exact hq.elim
  case unOp op t x =>
    split at hq
    · rename_i vx hx
      exact opok_wp (dok_op hH (unD_ok (K_outD hq) (hv x _ hx))) rfl hK
    · exact hq.elim
  case build t parts =>
    obtain ⟨v, hb, hq⟩ := K_oneO hq
    obtain ⟨h1, h2⟩ := parts_rel (F := F) (w := w) (φ := φ) hv parts
    obtain ⟨cv, h3, h4⟩ := buildV_rel hb _ h1 h2
    exact opok_wp ⟨cv, w, h3, .pure hH hq h4⟩ rfl hK
  case buildSlice t len parts =>
    obtain ⟨h1, h2⟩ := parts_rel (F := F) (w := w) (φ := φ) hv parts
    exact opok_wp (buildSliceG_ok hH hfr hq _ h1 h2) rfl hK
  case makeSlice t l c =>
    split at hq
    · rename_i vl vc hl hc
      exact opok_wp (makeSliceG_ok hH hfr hq (hv l _ hl) (hv c _ hc)) rfl hK
    · exact hq.elim
  case slice t x lo hi mx =>
    split at hq
    · rename_i vx hx
      have side : ∀ (y : Option Operand), (y.map val = none ↔ y.map a.eval = none) ∧ ∀ v cv, y.map val = some (some v) → y.map a.eval = some cv → VRel reg F w φ v cv := by
        intro y
        cases y with
        | none => exact ⟨by simp, fun v cv h => by simp at h⟩
        | some z => exact ⟨by simp, fun v cv h h' => by simp at h h'; subst h'; exact hv z v h⟩
      exact opok_wp (sliceG_ok hH hq (hv x _ hx) (side lo).1 (side lo).2 (side hi).1 (side hi).2 (side mx).1 (side mx).2) rfl hK
    · exact hq.elim
  case indexAddr t x i =>
    split at hq
    · rename_i vx vi hx hi
      exact opok_wp (indexAddrG_ok hH hq (hv x _ hx) (hv i _ hi)) rfl hK
    · exact hq.elim
  case index t x i =>
    split at hq
    · rename_i vx vi hx hi
      exact opok_wp (indexG_ok hH hq (hv x _ hx) (hv i _ hi)) rfl hK
    · exact hq.elim
  case field t x f =>
    split at hq
    · rename_i vx hx
      exact opok_wp (fieldG_ok hH hq (hv x _ hx)) rfl hK
    · exact hq.elim
  case convert src dst' x =>
    split at hq
    · rename_i vx hx
      exact opok_wp (convertG_ok hH hfr hq (hv x _ hx)) rfl hK
    · exact hq.elim
  case extract x n =>
    split at hq
    · rename_i vs hx
      obtain ⟨v, hn, hq⟩ := K_oneO hq
      have hvx := hv x _ hx
      generalize hax : a.eval x = ax at hvx
      cases hvx with
      | tup _ cs hz hr =>
        have hlt : n < vs.length := by
          rcases Nat.lt_or_ge n vs.length with h | h
          · exact h
          · rw [List.getElem?_eq_none h] at hn; cases hn
        have hvn : vs.getD n .any = v := by simp [List.getD, hn]
        have hrel := hr n hlt
        rw [hvn] at hrel
        have hn' : n < cs.size := by omega
        have hc : cs[n]? = some (cs.getD n undef) := by simp [hn']
        exact opok_wp (s := Instr.extract (a.eval x) n) ⟨_, w, by rw [hax]; unfold Instr.extract; simp only [hc]; rfl, .pure hH hq hrel⟩ rfl hK
    · exact hq.elim
  case makeMap t r =>
    cases r with
    | none => exact opok_wp (s := Instr.makeMap t none) (makeMapG_ok hH hfr hq (.inl rfl)) rfl hK
    | some o =>
      simp only at hq
      split at hq
      · rename_i k n ho
        exact opok_wp (s := Instr.makeMap t (some (a.eval o))) (makeMapG_ok hH hfr hq (.inr ⟨k, n, by rw [(hv o _ ho).int_inv]⟩)) rfl hK
      · exact hq.elim
  case range t x =>
    split at hq
    · rename_i vx hx
      exact opok_wp (rangeG_ok hH hfr hq (hv x _ hx)) rfl hK
    · exact hq.elim
  case next x b =>
    split at hq
    · rename_i vx hx
      exact opok_wp (nextG_ok (ty := ty) hH hq (hv x _ hx)) rfl hK
    · exact hq.elim
  case entry x =>
    split at hq
    · rename_i vx hx
      exact opok_wp (entryG_ok hH hq (hv x _ hx)) rfl hK
    · exact hq.elim
  case lookup t x k ok =>
    split at hq
    · rename_i vx vk hx hk
      exact opok_wp (lookupG_ok hH hq (hv x _ hx) (hv k _ hk)) rfl hK
    · exact hq.elim
  case mapUpdate t m k x =>
    split at hq
    · rename_i vm vk vx hm hk hx
      obtain ⟨w', hr, hres⟩ := mapUpdateG_ok hH hq (hv m _ hm) (hv k _ hk) (hv x _ hx)
      refine wp_skip' (w' := w') ?_ (hK _ _ hres)
      simp [execOp, hr]
    · exact hq.elim
  case insert t m k x =>
    split at hq
    · rename_i vm vk vx hm hk hx
      obtain ⟨w', hr, hres⟩ := mapUpdateG_ok hH hq (hv m _ hm) (hv k _ hk) (hv x _ hx)
      refine wp_skip' (w' := w') ?_ (hK _ _ hres)
      simp [execOp, hr]
    · exact hq.elim
  case mapEntry t m k =>
    split at hq
    · rename_i vm vk hm hk
      exact opok_wp (mapEntryG_ok hH hq (hv m _ hm) (hv k _ hk)) rfl hK
    · exact hq.elim
  case entryStore t m n x =>
    split at hq
    · rename_i vm vn vx hm hn hx
      obtain ⟨w', hr, hres⟩ := entryStoreG_ok (P := P) (t := t) hH hq (hv m _ hm) (hv n _ hn) (hv x _ hx)
      refine wp_skip' (w' := w') ?_ (hK _ _ hres)
      simp [execOp, hr]
    · exact hq.elim
  case makeFunc fn first caps =>
    cases fn <;> (try simp only at hq) <;> (try exact hq.elim)
    rename_i f
    split at hq
    · rename_i fs cs h1 h2
      have r1 := operands_rel (F := F) (w := w) (φ := φ) hv h1
      have r2 := operands_rel (F := F) (w := w) (φ := φ) hv h2
      exact opok_wp (s := Instr.makeFunc (.func f) (first.map a.eval) (caps.map a.eval)) ⟨_, w, rfl, .pure hH hq (.fn f cs fs _ _ r2.1 r2.2 r1.1 r1.2)⟩ rfl hK
    · exact hq.elim
  case call c =>
    split at hq
    · rename_i vs hvs
      have hl := operands_rel (F := F) (w := w) (φ := φ) hv hvs
      obtain ⟨callee, cargs, cts⟩ := c
      simp only at hq hl
      cases callee <;> (try simp only at hq) <;> (try exact hq.elim)
      case builtin b =>
        obtain ⟨s, he, hs⟩ := builtinG_ok (ty := ty) (consts := cargs.map fun | .const _ => true | _ => false) hH hfr hq hl
        refine opok_wp hs ?_ hK
        simp only [execOp, resolve]
        exact he
      case value of =>
        split at hq
        · rename_i f cs fs hf
          have hvf := hv of _ hf
          generalize haf : a.eval of = af at hvf
          cases hvf with
          | fn _ _ _ ccs cfs hz hr hz' hr' =>
            obtain ⟨⟨fn, hfn, hname, hbody⟩, hcall⟩ := hHd _ _ _ _ hq
            have hargs := LRel.append (LRel.append (⟨hz', hr'⟩ : LRel F w φ fs cfs) hl) (⟨hz, hr⟩ : LRel F w φ cs ccs)
            have hc := hcall N F φ w _ hfr hH hargs
            have hrun : (execOp a.eval ⟨dst, .call ⟨.value of, cargs, cts⟩, ty, pos, after, guard⟩).run P w = .ok (.enter f (cfs ++ cargs.map a.eval ++ ccs)) w := by
              have hname' : ¬ fn.name = "runtime.NumGoroutine" := fun e => by rw [e] at hname; simp at hname
              have hbody' : ¬ fn.body = none := fun e => by rw [e] at hbody; simp at hbody
              simp [execOp, resolve, haf, Deferred.ofValue, invoke, callFunc, hfn, hname', hbody']
            unfold Oper.wp
            rw [hrun]
            simp only [Oper.upon_enter]
            refine hc.mono (fun e w' hpost => ?_)
            obtain ⟨cv, rfl, hres⟩ := hpost
            exact hK cv w' hres
        · exact hq.elim
    · exact hq.elim

/-! ### In a round of a range over a function -/
/-- No fence, and the round. -/
def Fr (r : Option Nat) : Fence := { Fence.wide with round := r }
theorem callsIn_fr {r : Option Nat} {n : Nat} {P : Program} {f : FuncId} {args : Array Value} {w : World} {R : Ending → World → Prop} : CallsIn (Fr r) n P f args w R ↔ Calls P f args w R := (callsIn_wide (n := n) : CallsIn Fence.wide n P f args w R ↔ Calls P f args w R)
theorem rowsIn_fr {r : Option Nat} {n : Nat} {P : Program} {row : String} {args : Array Value} {w : World} {R : Value → World → Prop} (h : Rows P row args w R) : RowsIn (Fr r) n P row args w R :=
  fun c cs _ => let ⟨v, w', h1, h2⟩ := h c cs; ⟨v, w', h1, (stepsIn_wide (P := P)).2 h2⟩
theorem Oper.in_of_wp {r : Option Nat} {n : Nat} {P : Program} {o : Oper} {a : Act} {w : World} {K : Act → World → Prop} {Q : Exit → Act → World → Prop} (hnd : ∀ c, o.op ≠ .defer c) (h : Oper.wp P o a w K Q) : Oper.wpIn (Fr r) n P o a w K Q := by
  refine ⟨fun _ _ => trivial, ?_⟩
  rw [Oper.semAt_eq _ _ _ hnd]
  unfold Oper.wp at h
  revert h
  generalize (execOp a.eval o).run P w = x
  intro h
  cases x with
  | ok y w' =>
    cases y with
    | enter f args => exact ⟨fun hd => (by cases hd), callsIn_fr.2 h⟩
    | row row args => exact ⟨fun hd => (by cases hd), rowsIn_fr h⟩
    | value v => exact h
    | skip => exact h
    | defer d => exact h
    | _ => exact h.elim
  | halt y w' =>
    cases y with
    | panic v => exact h
    | _ => exact h.elim
theorem lexec_in {r : Option Nat} {m : Nat} {reg : Reg} {P : Program} {hd : Hd reg.T} {N F : Nat → Prop} {φ : Phi} {h : Hp reg.T} {w : World} (hHd : HdSound P hd) {o : Oper} {a : Act} {val : Operand → Option (V reg.T)} {Q : V reg.T × Hp reg.T → Prop} (hH : HR N F φ h w) (hfr : ∀ r, Q r → Fresh N h.nx r.2.nx) (hv : ∀ x v, val x = some v → VRel reg F w φ v (a.eval x))
    (hq : (lexec P hd o.op val h).K Q) {K : Act → World → Prop} {Qx : Exit → Act → World → Prop} (hK : ∀ cv w', Res N F φ h w Q cv w' → K (a.put o.dst cv) w') : Oper.wpIn (Fr r) m P o a w K Qx := by
  refine Oper.in_of_wp (fun c hc => ?_) (lexec_sound hHd hH hfr hv hq hK)
  rw [hc] at hq
  exact hq.elim
end
end Go.W
