/- That append, copy and make do to the machine what the evaluator says. No conditions. -/
import Derived.Test.YtmnkbfflpgmkmaaGreatDoorWS3
namespace Go.W
open Go Go.RowKit

section
variable {reg : Reg} {P : Program} {N F : Nat → Prop} {φ : Phi} {h : Hp reg.T} {w : World}

theorem K_newO {h : Hp reg.T} {o : O reg.T} {v : V reg.T} {Q : V reg.T × Hp reg.T → Prop} (hq : (newO h o v).K Q) : Tr.ok h.nx = true ∧ Q (v, h.new o) := Out.K_ask.1 hq

/-- Cells behind cells that were written. -/
theorem At.ofList {row : Nat → List (V reg.T)} {n k : Nat} {l : List Value} {C : Array Value} {s : Nat} (ha : At reg F w φ row n k (fun i => l.getD i undef)) (hl : l.length = n * k) (hz : s + n * k ≤ C.size) :
    At reg F w φ row n k (fun i => (wrC C s l).getD (s + i) undef) := by
  refine ha.congr (fun _ _ => rfl) (fun i hi => ?_)
  rw [wrC_getD _ _ _ _ (by omega), if_pos (by omega), show s + i - s = i by omega]

/-- An object's rows behind a write of whole rows. -/
theorem over_at {o o' : O reg.T} {s lo n : Nat} {C : Array Value} {ys : Rw reg.T} {news : List Value} (h2 : RowsAt reg F w φ o s C) (ho : o.over reg lo ys = some o') (hl : ys.len = n)
    (hz : lo + n ≤ o.len reg) (ha : At reg F w φ (ys.row reg) n (o.k reg) (fun i => news.getD i undef)) (hn : news.length = n * o.k reg) :
    o'.isRows reg = true ∧ o'.k reg = o.k reg ∧ RowsAt reg F w φ o' s (wrC C (s + lo * o.k reg) news) := by
  obtain ⟨g1, g2, g3, g4⟩ := over_spec ho (by rw [hl]; exact hz)
  have hfit : s + lo * o.k reg + news.length ≤ C.size := by
    have : (lo + n) * o.k reg ≤ o.len reg * o.k reg := Nat.mul_le_mul_right _ hz
    rw [Nat.add_mul] at this
    have := h2.size
    omega
  refine ⟨g1, g2, by rw [wrC_size, g3, g2]; exact h2.size, by rw [g3]; exact h2.len, ?_⟩
  rw [g3, g2]
  refine ⟨fun r hr => ?_, fun r j hr hj => ?_, fun r j hr hj => ?_⟩
  · rw [g4, hl]; split
    · exact ha.wid _ (by omega)
    · exact h2.at_.wid r hr
  · rw [g4, hl]; split
    · exact ha.solid _ j (by omega) hj
    · exact h2.at_.solid r j hr hj
  · rw [g4, hl, wrC_getD _ _ _ _ hfit]
    by_cases hin : lo ≤ r ∧ r < lo + n
    · rw [if_pos hin]
      have h3 : lo * o.k reg ≤ r * o.k reg := Nat.mul_le_mul_right _ hin.1
      have h4 : (r + 1) * o.k reg ≤ (lo + n) * o.k reg := Nat.mul_le_mul_right _ hin.2
      rw [Nat.succ_mul, Nat.add_mul] at h4
      rw [if_pos (by omega)]
      have := ha.rel (r - lo) j (by omega) hj
      rwa [Nat.sub_mul, show r * o.k reg - lo * o.k reg + j = s + (r * o.k reg + j) - (s + lo * o.k reg) by omega] at this
    · rw [if_neg hin]
      have hne : ¬ (s + lo * o.k reg ≤ s + (r * o.k reg + j) ∧ s + (r * o.k reg + j) < s + lo * o.k reg + news.length) := by
        rcases Nat.lt_or_ge r lo with hlt | hge
        · have h1 : (r + 1) * o.k reg ≤ lo * o.k reg := Nat.mul_le_mul_right _ hlt
          rw [Nat.succ_mul] at h1
          omega
        · have h1 : (lo + n) * o.k reg ≤ r * o.k reg := Nat.mul_le_mul_right _ (by omega)
          rw [Nat.add_mul] at h1
          omega
      rw [if_neg hne]
      exact h2.at_.rel r j hr hj

/-- The object's rows are the same: the world stays as it is. -/
theorem same_ok {Q : V reg.T × Hp reg.T → Prop} {i lo : Nat} {o o' : O reg.T} {ys : Rw reg.T} {v : V reg.T} {cv : Value} (hH : HR N F φ h w) (hi : h.get i = some o) (ho : o.over reg lo ys = some o') (hl : ys.len = 0) (hz : lo ≤ o.len reg)
    (hq : Q (v, h.set i (some o'))) (hv : VRel reg F w φ v cv) : Res N F φ h w Q cv w := by
  obtain ⟨h0, h1⟩ := (hH.obj i o hi).rows reg (by cases o <;> first | rfl | simp [O.over] at ho)
  obtain ⟨g1, g2, g3, g4⟩ := over_spec ho (by rw [hl]; exact hz)
  rcases h1 with ⟨h2, h3⟩ | ⟨b, s, C, t, fz, h2, h3, h4, h5⟩
  · exact write0_ok hH hi h3 hq rfl g1 (by rw [g3]; exact h2) hv
  · refine write_ok hH hi h2 rfl hq rfl rfl rfl rfl (fun _ _ => rfl) h3 h4 g1 g2 ⟨by rw [g3, g2]; exact h5.size, by rw [g3]; exact h5.len, ?_⟩ hv
    rw [g3, g2]
    exact h5.at_.congr (fun r _ => by rw [g4, hl, if_neg (by omega)]) (fun _ _ => rfl)

theorem zeroK_eq {e : TypeId} (hz : zeroK (T := reg.T) P e = true) : ∃ i z, P.info? e = some i ∧ i.zero = some z ∧ z.cells.size = P.cellsOf e := by
  unfold zeroK at hz
  split at hz
  · rename_i zs h1
    obtain ⟨i, z, hi, hzz, hzl, _⟩ := zeroT_rel (F := fun _ => False) (w := default) (φ := fun _ => none) h1
    exact ⟨i, z, hi, hzz, by rw [← hzl]; exact Nat.eq_of_beq_eq_true hz⟩
  · cases hz

theorem grown_C (z : Value) (olds news : List Value) (extra : Nat) : ((olds ++ news).toArray ++ Builtin.zeroCells z.cells extra).size = olds.length + news.length + extra * z.cells.size := by
  simp [size_zeroCells]

theorem grown_get {olds news : List Value} {zs : Array Value} (i : Nat) (hi : i < olds.length + news.length) : ((olds ++ news).toArray ++ zs).getD i undef = if i < olds.length then olds.getD i undef else news.getD (i - olds.length) undef := by
  have h1 : i < (olds ++ news).toArray.size := by simp; omega
  rw [Array.getD_eq_getD_getElem?, Array.getElem?_append_left h1]
  simp only [List.getElem?_toArray]
  split
  · rename_i hlt; rw [List.getElem?_append_left hlt]; rfl
  · rename_i hge; rw [List.getElem?_append_right (by omega)]; rfl

/-- A new row of rows that are known. -/
theorem grow_ok {t tx ty e : TypeId} {base : Option Addr} {len cap n : Nat} {olds news : List Value} {Q : V reg.T × Hp reg.T → Prop} {o : O reg.T} {a ys : Rw reg.T} {cb : Value} (hH : HR N F φ h w) (hfr : ∀ r, Q r → Fresh N h.nx r.2.nx) (ht : P.underlying t = some (.slice e))
    (hz : zeroK (T := reg.T) P e = true) (ho : mkRows reg P e a ys = some o) (hfit : fitsMem P e (len + n) = true) (hk : Tr.ok h.nx = true) (hq : Q (.sl h.nx 0 (len + n) (.least (len + n)), h.new o))
    (hold : (Builtin.firstCells (P.cellsOf e) len (.slice base len cap)).run P w.drew = .ok olds.toArray w.drew) (hol : olds.length = len * P.cellsOf e) (hal : a.len = len)
    (haa : At reg F w φ (a.row reg) len (P.cellsOf e) (fun i => olds.getD i undef)) (hy : Yields P F φ w tx (P.cellsOf e) n ys cb news) (hg : cap < len + n) :
    OpOk P N F φ h w (Builtin.append_ #[t, tx] ty #[.slice base len cap, cb]) Q := by
  obtain ⟨i, z, hi, hzz, hzs⟩ := zeroK_eq hz
  have hsz : i.size = P.cellsOf e := by simp [Program.cellsOf, hi]
  have hby : i.bytes = P.bytesOf e := by simp [Program.bytesOf, hi]
  unfold fitsMem at hfit
  simp only [Bool.and_eq_true] at hfit
  obtain ⟨⟨⟨f1, f2⟩, _⟩, _⟩ := hfit
  have f1 : (len + n) * P.bytesOf e ≤ 140737488355328 := Nat.le_of_ble_eq_true f1
  have f2 : len + n ≤ 9223372036854775807 := Nat.le_of_ble_eq_true f2
  obtain ⟨g1, g2, g3, g4⟩ := mkRows_spec ho
  rw [hal, hy.len] at g3
  have hnl : news.length = n * P.cellsOf e := hy.src.newsLen
  have hrun := run_append_grow_src (P := P) w t tx ty e i z ht hi hzz base len cap olds (by rw [hsz]; exact hold) cb n news (by rw [hsz]; exact hy.src) hg (by omega) (by rw [hby]; exact growslice_fits hg f1)
  have hcap1 := grownCap_ge w (len + n) cap e
  have hcap2 := grownCap_le_maxLen w (len + n) cap e f2
  refine ⟨_, _, hrun, alloc_ok hH hq (fresh_new hfr hq) hk rfl rfl rfl (by simp) (fun b hb => ?_) (C := (olds ++ news).toArray ++ Builtin.zeroCells z.cells (grownCap w (len + n) cap e - (len + n))) (t := e) (fz := (0, 0)) ?_ (.inl rfl) g1 ?_ (by rw [g3]; exact f2) ?_ ?_⟩
  · show (w.heap.push _)[b]? = _
    rw [Array.getElem?_push, if_neg (by omega)]
  · exact heap_alloc_new w.drew _
  · rw [grown_C, g3, g2, hol, hnl, Nat.add_mul]; omega
  · rw [g3, g2]
    refine At.append haa hy.at_ (fun r hr => ?_) (fun j hj => ?_)
    · rw [g4 r (by rw [hal, hy.len]; exact hr), hal]
    · rw [Nat.add_mul] at hj
      rw [grown_get j (by omega), hol]
  · intro φ' h1 h2
    rw [g2] at h1
    have := VRel.sl (reg := reg) (F := F) (w := w.drew.alloc (.cells ((olds ++ news).toArray ++ Builtin.zeroCells z.cells (grownCap w (len + n) cap e - (len + n))) e)) (φ := φ') h.nx 0 (len + n) (.least (len + n)) _ _ _ _ (grownCap w (len + n) cap e) h1 hcap1 hcap1
      (by simpa [maxLen] using hcap2) (by
        rw [grown_C, hol, hnl, hzs, Nat.zero_mul, Nat.zero_add, ← Nat.add_mul, ← Nat.add_mul]
        exact Nat.mul_le_mul_right _ (by omega))
    simpa using this

set_option maxHeartbeats 1000000 in
theorem appendG_ok {t tx ty : TypeId} {a b : V reg.T} {ca cb : Value} {Q : V reg.T × Hp reg.T → Prop} (hH : HR N F φ h w) (hfr : ∀ r, Q r → Fresh N h.nx r.2.nx) (hk : Kind2 P tx) (hq : (appendG P t a b h).K Q) (ha : VRel reg F w φ a ca) (hb : VRel reg F w φ b cb) :
    OpOk P N F φ h w (Builtin.append_ #[t, tx] ty #[ca, cb]) Q := by
  unfold appendG at hq
  split at hq
  · exact hq.elim
  rename_i e ht
  have ht := sliceT_eq ht
  split at hq
  · exact hq.elim
  rename_i p0 n ys hs0
  have hp0 := (Out.K_need.1 hq).1
  replace hq := (Out.K_need.1 hq).2
  have hs := srcX_to P hs0 hp0
  obtain ⟨news, hy⟩ := src_ok hH hk hs hb
  have hnl := hy.src.newsLen
  split at hq
  · -- of nothing
    obtain rfl := ha.nils_is
    split at hq
    · rename_i o ho hz
      simp only [Out.K, branch_iff] at hq
      rcases Nat.eq_zero_or_pos n with hn | hn
      · subst hn
        have hq := hq.1 (Nat.beq_refl 0)
        obtain ⟨i, z, hi, _, _⟩ := zeroK_eq hz
        have hsz : i.size = P.cellsOf e := by simp [Program.cellsOf, hi]
        have hnil : news = [] := List.eq_nil_of_length_eq_zero (by simpa using hnl)
        subst hnil
        exact ⟨_, w, run_append_nothing w t tx ty e i ht hi none 0 0 (Nat.le_refl _) cb (by rw [hsz]; exact hy.src), .pure hH hq (.d _ _ .nils)⟩
      · have hq := hq.2 (by cases hb : Nat.beq n 0 with
          | false => rfl
          | true => have := Nat.eq_of_beq_eq_true hb; omega)
        obtain ⟨hfit, hq⟩ := (must_iff _ _).1 hq
        obtain ⟨hok, hq⟩ := K_newO hq
        have hf : (Builtin.firstCells (P.cellsOf e) 0 (.slice none 0 0)).run P w.drew = .ok #[] w.drew := run_firstCells_none _ _ 0 0 0
        exact grow_ok (len := 0) (cap := 0) (olds := []) (a := .u []) hH hfr ht hz ho (by rw [Nat.zero_add]; exact hfit) hok (by rw [Nat.zero_add]; exact hq) hf (by simp) rfl ⟨fun r hr => by omega, fun r j hr => by omega, fun r j hr => by omega⟩ hy (by omega)
    · exact hq.elim
  · rename_i i off len cap
    split at hq
    · rename_i o hi
      obtain ⟨hc, hq⟩ := Out.K_ask.1 hq
      simp only [Bool.and_eq_true] at hc
      obtain ⟨⟨h0, hke⟩, hie⟩ := hc
      have hke := Nat.eq_of_beq_eq_true hke
      obtain ⟨inf, hinf, hsz, _⟩ := info_of hie
      -- in place
      have place : ∀ c, len + n ≤ c → (∀ cap', CapRel cap cap' → c ≤ cap') → (match o.over reg (off + len) ys with
            | some o' => Out.need (Nat.ble (off + len + n) (o.len reg)) (.ret (.sl i off (len + n) cap, h.set i (some o')))
            | none => .bad : Out (V reg.T × Hp reg.T)).K Q → OpOk P N F φ h w (Builtin.append_ #[t, tx] ty #[ca, cb]) Q := by
        intro c hlc hcc hq
        split at hq
        · rename_i o' ho
          obtain ⟨hle, hq⟩ := Out.K_need.1 hq
          have hle : off + len + n ≤ o.len reg := Nat.le_of_ble_eq_true hle
          cases ha with
          | sl _ _ _ _ b s k z cap' hp hcr hlc' hm hzz =>
            obtain ⟨_, rfl, _, _, C, ct, fz, h1, h3, h2, hCz⟩ := row_at hH hi hp h0
            have hcap := hcc cap' hcr
            have hya := hy.at_
            rw [← hke] at hya hnl
            obtain ⟨g1, g2, g3⟩ := over_at h2 ho hy.len hle hya hnl
            have hfit : s + (off + len) * o.k reg + news.length ≤ C.size := by
              have : (off + len + n) * o.k reg ≤ o.len reg * o.k reg := Nat.mul_le_mul_right _ hle
              rw [Nat.add_mul] at this
              have := h2.size
              omega
            rw [Nat.add_mul, ← Nat.add_assoc] at hfit g3
            have hrun := run_append_room_src (P := P) w t tx ty e inf ht hinf b (s + off * o.k reg) len cap' cb n news (by rw [hsz]; exact hy.src) (by omega)
              (fun j hj => by rw [cell_of_heap h1, hsz, ← hke]; simp; omega) (fun j hj => by rw [hsz, ← hke]; exact frozen_of_free h1 h3 (by omega))
            rw [hsz, ← hke] at hrun
            refine ⟨_, _, hrun, write_ok hH hi hp (by rw [wrC_size]; exact hCz) hq (rest_setCells _ _ _).1 (rest_setCells _ _ _).2.1 (rest_setCells _ _ _).2.2 (size_setCells _ _ _) (fun b' hb' => heap_setCells_other hb' _ _ _) (heap_setCells _ _ _ h1) (free_wrC h3 _ _) g1 g2 g3 ?_⟩
            exact .sl _ _ _ _ b s _ z cap' hp hcr (by omega) hm hzz
          | slz _ _ _ base hcr hnb =>
            have hc0 := hcc 0 hcr
            have hn : n = 0 := by omega
            subst hn
            have hnil : news = [] := List.eq_nil_of_length_eq_zero (by simpa using hnl)
            subst hnil
            exact ⟨_, w, run_append_nothing w t tx ty e inf ht hinf base 0 0 (Nat.le_refl _) cb (by rw [hsz]; exact hy.src), same_ok hH hi ho hy.len (by omega) hq (.slz _ _ _ _ hcr hnb)⟩
        · exact hq.elim
      -- what the old rows are
      have olds : off + len ≤ o.len reg → ∃ (base : Option Addr) (cap' : Nat) (ol : List Value), ca = .slice base len cap' ∧ CapRel cap cap' ∧ len ≤ cap' ∧ ol.length = len * P.cellsOf e ∧ (Builtin.firstCells (P.cellsOf e) len ca).run P w.drew = .ok ol.toArray w.drew ∧
          At reg F w φ ((o.rw reg off len).row reg) len (P.cellsOf e) (fun i => ol.getD i undef) := by
        intro hle
        have hsv : slv (P.cellsOf e) (.sl i off len cap) h = some (len, o.rw reg off len) := by
          have h1 : Nat.beq (o.k reg) (P.cellsOf e) = true := by rw [hke]; exact Nat.beq_refl _
          have h2 : Nat.ble (off + len) (o.len reg) = true := Nat.ble_eq_true_of_le hle
          simp [slv, hi, h0, h1, h2]
        obtain ⟨ol, hyo⟩ := slv_ok (P := P) (tx := t) hH (.inl ⟨e, ht⟩) hsv ha
        have hform : ∃ base cap', ca = .slice base len cap' ∧ CapRel cap cap' ∧ len ≤ cap' := by
          cases ha with
          | sl _ _ _ _ b s k z cap' hp hcr hlc' hm hzz => exact ⟨_, cap', rfl, hcr, hlc'⟩
          | slz _ _ _ base hcr => exact ⟨base, 0, rfl, hcr, Nat.le_refl _⟩
        obtain ⟨base, cap', h1, h2, h3⟩ := hform
        exact ⟨base, cap', ol, h1, h2, h3, hyo.src.newsLen, hyo.src.cellsD, hyo.at_⟩
      cases cap with
      | exact c =>
        -- the capacity is known
        simp only [Out.K, branch_iff] at hq
        cases hb : Nat.ble (len + n) c with
        | true => exact place c (Nat.le_of_ble_eq_true hb) (fun cap' hcr => by rw [hcr]; exact Nat.le_refl _) (hq.1 hb)
        | false =>
          have hgt : ¬ len + n ≤ c := fun hle => by rw [Nat.ble_eq_true_of_le hle] at hb; cases hb
          have hq := hq.2 hb
          split at hq
          · rename_i o' ho hz
            obtain ⟨hfit, hq⟩ := Out.K_need.1 hq
            obtain ⟨hok, hq⟩ := K_newO hq
            simp only [Bool.and_eq_true] at hfit
            have hle : off + len ≤ o.len reg := Nat.le_of_ble_eq_true hfit.2
            obtain ⟨base, cap', ol, rfl, hcr, _, hol, hold, hat⟩ := olds hle
            have hcc : cap' = c := hcr
            exact grow_ok hH hfr ht hz ho hfit.1 hok hq hold hol (rw_spec h0 hle).1 hat hy (by omega)
          · exact hq.elim
      | least c =>
        simp only [Out.K, branch_iff] at hq
        cases hb : Nat.ble (len + n) c with
        | true => exact place c (Nat.le_of_ble_eq_true hb) (fun cap' hcr => hcr) (hq.1 hb)
        | false =>
          have hgt : ¬ len + n ≤ c := fun hle => by rw [Nat.ble_eq_true_of_le hle] at hb; cases hb
          have hq := hq.2 hb
          simp only [must_iff] at hq
          obtain ⟨hend, hq⟩ := hq
          have hend := Nat.eq_of_beq_eq_true hend
          split at hq
          · rename_i o' ho hz
            obtain ⟨hfit, hq⟩ := Out.K_need.1 hq
            obtain ⟨hok, hq⟩ := K_newO hq
            simp only [Bool.and_eq_true] at hfit
            have hle : off + len ≤ o.len reg := Nat.le_of_ble_eq_true hfit.2
            obtain ⟨hH1, hG1⟩ := remove_ok hH hi
            obtain ⟨base, cap', ol, hca, hcr, hlc, hol, hold, hat⟩ := olds hle
            by_cases hroom : len + n ≤ cap'
            · -- there is room, it turns out
              obtain ⟨g1, g2, g3, g4⟩ := mkRows_spec ho
              obtain ⟨r1, r2⟩ := rw_spec h0 hle
              rw [r1, hy.len] at g3
              cases ha with
              | sl _ _ _ _ b s k z cap'' hp hcr' hlc' hm hzz =>
                cases hca
                obtain ⟨_, rfl, _, _, C, ct, fz, h1, h3, h2, hCz⟩ := row_at hH hi hp h0
                have hya := hy.at_
                rw [← hke] at hya hnl
                have hcapz : (len + n) * o.k reg ≤ cap' * o.k reg := Nat.mul_le_mul_right _ hroom
                rw [Nat.add_mul] at hcapz
                have hfit2 : s + off * o.k reg + len * o.k reg + news.length ≤ C.size := by omega
                have hrun := run_append_room_src (P := P) w t tx ty e inf ht hinf b (s + off * o.k reg) len cap' cb n news (by rw [hsz]; exact hy.src) hroom
                  (fun j hj => by rw [cell_of_heap h1, hsz, ← hke]; simp; omega) (fun j hj => by rw [hsz, ← hke]; exact frozen_of_free h1 h3 (by omega))
                rw [hsz, ← hke] at hrun
                refine ⟨_, _, hrun, attach_ok hH hi hp (fresh_new (h := h.set i none) hfr hq) hok hq (rest_setCells _ _ _).1 (rest_setCells _ _ _).2.1 (rest_setCells _ _ _).2.2 (size_setCells _ _ _) (fun b' hb' => heap_setCells_other hb' _ _ _) (heap_setCells _ _ _ h1) (free_wrC h3 _ _) g1
                  (s' := s + off * o.k reg) ⟨by rw [g3, g2, ← hke, wrC_size, Nat.add_mul]; omega, by
                    have := hfit.1
                    unfold fitsMem at this
                    simp only [Bool.and_eq_true] at this
                    rw [g3]; exact Nat.le_of_ble_eq_true this.1.1.2, ?_⟩ ?_⟩
                · rw [g3, g2, ← hke]
                  have ha1 : At reg F w φ ((o.rw reg off len).row reg) len (o.k reg) (fun i => C.getD (s + off * o.k reg + i) undef) :=
                    At.ofRw ((h2.at_.shift hle).congr (fun _ _ => rfl) (fun i _ => by rw [Nat.add_assoc])) h0 hle
                  refine At.append ha1 hya (fun r hr => by rw [g4 r (by rw [r1, hy.len]; exact hr), r1]) (fun j hj => ?_)
                  rw [Nat.add_mul] at hj
                  rw [wrC_getD _ _ _ _ hfit2]
                  by_cases hlt : j < len * o.k reg
                  · rw [if_pos hlt, if_neg (by omega)]
                  · rw [if_neg hlt, if_pos (by omega)]
                    congr 1
                    omega
                · intro φ' e1 e2
                  rw [g2, ← hke, wrC_size] at e1
                  have := VRel.sl (reg := reg) (F := F) (w := w.setCells b (s + off * o.k reg + len * o.k reg) news) (φ := φ') h.nx 0 (len + n) (.least (len + n)) _ _ _ _ cap' e1 hroom hroom hm (by omega)
                  simpa using this
              | slz _ _ _ base' hcr' =>
                cases hca
                have hn : n = 0 := by omega
                subst hn
                have hnil : news = [] := List.eq_nil_of_length_eq_zero (by simpa using hnl)
                subst hnil
                refine ⟨_, w, run_append_nothing w t tx ty e inf ht hinf base 0 0 (Nat.le_refl _) cb (by rw [hsz]; exact hy.src), Res.from hG1 (ghost_ok hH1 hq (fresh_new (h := h.set i none) hfr hq) hok rfl g1 g3 (.slz _ _ _ _ ?_ (fun _ => rfl)))⟩
                exact Nat.le_refl _
            · subst hca
              obtain ⟨cv, w', hr, hres⟩ := grow_ok (h := h.set i none) (tx := tx) (ty := ty) hH1 hfr ht hz ho hfit.1 hok hq hold hol (rw_spec h0 hle).1 hat hy (by omega)
              exact ⟨cv, w', hr, Res.from hG1 hres⟩
          · exact hq.elim
    · exact hq.elim
  · exact hq.elim
end
end Go.W
