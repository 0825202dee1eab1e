/- That slice expressions, addresses of elements, conversions do to the machine what the evaluator says. No conditions. -/
import Derived.Test.YtmnkbfflpgmkmaaGreatDoorWS5
namespace Go.W
open Go Go.RowKit

section
variable {reg : Reg} {P : Program} {N F : Nat → Prop} {φ : Phi} {h : Hp reg.T} {w : World}

/-- A bound's value. -/
structure Bnd (x : Option (Option (V reg.T))) (c : Option Value) (dflt : Int) (n : Int) : Prop where
  none : c = none → n = dflt
  some : ∀ v, c = some v → ∃ k, v = .int k n

theorem bnd_ok {x : Option (Option (V reg.T))} {c : Option Value} {dflt n : Int} (hb : bnd x dflt = some n) (hc : x = none ↔ c = none) (hr : ∀ v cv, x = some (some v) → c = some cv → VRel reg F w φ v cv) : Bnd x c dflt n := by
  unfold bnd at hb
  split at hb
  · refine ⟨fun _ => by simpa using hb.symm, fun v hv => ?_⟩
    rw [hc.1 rfl] at hv; cases hv
  · rename_i k m
    cases hb
    exact ⟨fun hn => (by have := hc.2 hn; cases this), fun v hv => ⟨k, (hr _ _ rfl hv).int_inv⟩⟩
  · cases hb

theorem run_bound {k : IntKind} {n : Int} {y : Nat} {code : BoundsCode} (h0 : 0 ≤ n) (h1 : n ≤ y) : (Instr.sliceBound (.int k n) y code).run P w = .ok n.toNat w := by
  simp [Instr.sliceBound, asIntOf, h0, h1]

theorem run_bounds {isSlice : Bool} {len cap : Nat} {lo hi : Option Value} {l u : Int} {x y : Option (Option (V reg.T))} (hl : Bnd x lo 0 l) (hh : Bnd y hi len u) (h0 : 0 ≤ l) (h1 : l ≤ u) (h2 : u ≤ cap) :
    (Instr.sliceBounds isSlice len cap lo hi none).run P w = .ok (l.toNat, u.toNat, cap) w := by
  cases hi with
  | none =>
    have := hh.none rfl
    subst this
    cases lo with
    | none => have := hl.none rfl; subst this; simp [Instr.sliceBounds]
    | some v => obtain ⟨k, rfl⟩ := hl.some v rfl; simp [Instr.sliceBounds, run_bound h0 h1]
  | some v =>
    obtain ⟨k, rfl⟩ := hh.some v rfl
    cases lo with
    | none => have := hl.none rfl; subst this; simp [Instr.sliceBounds, run_bound (P := P) (w := w) (k := k) (show 0 ≤ u by omega) h2]
    | some v =>
      obtain ⟨k', rfl⟩ := hl.some v rfl
      simp [Instr.sliceBounds, run_bound (P := P) (w := w) (k := k) (show 0 ≤ u by omega) h2, run_bound (P := P) (w := w) (k := k') (y := u.toNat) h0 (show l ≤ (u.toNat : Int) by omega)]

theorem run_bounds3 {isSlice : Bool} {len cap : Nat} {lo hi mx : Option Value} {l u m : Int} {x y z : Option (Option (V reg.T))} (hl : Bnd x lo 0 l) (hh : Bnd y hi len u) (hm : Bnd z mx 0 m) (hi' : hi ≠ none) (hm' : mx ≠ none) (h0 : 0 ≤ l) (h1 : l ≤ u) (h2 : u ≤ m) (h3 : m ≤ cap) :
    (Instr.sliceBounds isSlice len cap lo hi mx).run P w = .ok (l.toNat, u.toNat, m.toNat) w := by
  cases hi with
  | none => exact absurd rfl hi'
  | some v =>
    cases mx with
    | none => exact absurd rfl hm'
    | some v' =>
      obtain ⟨k, rfl⟩ := hh.some v rfl
      obtain ⟨k2, rfl⟩ := hm.some v' rfl
      cases lo with
      | none => have := hl.none rfl; subst this; simp [Instr.sliceBounds, run_bound (P := P) (w := w) (k := k2) (show 0 ≤ m by omega) h3, run_bound (P := P) (w := w) (k := k) (y := m.toNat) (show 0 ≤ u by omega) (show u ≤ (m.toNat : Int) by omega)]
      | some v =>
        obtain ⟨k', rfl⟩ := hl.some v rfl
        simp [Instr.sliceBounds, run_bound (P := P) (w := w) (k := k2) (show 0 ≤ m by omega) h3, run_bound (P := P) (w := w) (k := k) (y := m.toNat) (show 0 ≤ u by omega) (show u ≤ (m.toNat : Int) by omega), run_bound (P := P) (w := w) (k := k') (y := u.toNat) h0 (show l ≤ (u.toNat : Int) by omega)]

theorem inB_eq {lo hi mx : Int} (h : inB lo hi mx = true) : 0 ≤ lo ∧ lo ≤ hi ∧ hi ≤ mx := by
  unfold inB at h
  simp only [Bool.and_eq_true, decide_eq_true_eq] at h
  exact ⟨h.1.1, h.1.2, h.2⟩

theorem sliceAt_slice {t e : TypeId} {a : Option Addr} {len cap : Nat} {lo hi mx : Option Value} {l u m : Nat} (ht : P.underlying t = some (.slice e)) (hie : (P.info? e).isSome = true) (hb : (Instr.sliceBounds true len cap lo hi mx).run P w = .ok (l, u, m) w) :
    (Instr.sliceAt t (.slice a len cap) lo hi mx).run P w = .ok (.slice (if m = l then a else a.map (·.add (l * P.cellsOf e))) (u - l) (m - l)) w := by
  simp [Instr.sliceAt, Instr.slice, run_underlying ht, hb, run_sizeOf_info hie]

/-- A piece of data. -/
theorem sub_rel {x : D reg.T} {n lo hi k : Nat} {a : Option Addr} {cap : Nat} (hx : x.isSl = true) (hl : x.len? reg = some n) (h1 : lo ≤ hi) (h2 : hi ≤ n) (hk : x.k reg 0 = k) (hd : DRel reg F w x (.slice a n cap)) :
    DRel reg F w (x.sub reg lo hi) (.slice (if cap = lo then a else a.map (·.add (lo * k))) (hi - lo) (cap - lo)) := by
  have hs := sub_k (lo := lo) (hi := hi) (k0 := 0) hx
  have hsl := sub_len hl h1 h2 hx
  by_cases he : hi - lo = 0
  · rw [he] at hsl ⊢
    exact .emp _ hs.2 hsl _ _
  · cases hd with
    | nils => cases hx
    | emp _ hx1 hx2 => rw [hx2] at hl; cases hl; omega
    | sl _ _ ad _ C t fz hx1 hx2 hF hb hsp hc hm hz hkr hr =>
      have hne : ¬ cap = lo := by omega
      rw [if_neg hne]
      obtain ⟨ab, ao, asp⟩ := ad
      simp only at hsp hF hb hz hr
      subst hsp
      simp only [Option.map_some, addr_zero]
      have hle : lo * k + (hi - lo) * k ≤ n * k := by rw [← Nat.add_mul]; exact Nat.mul_le_mul_right _ (by omega)
      rw [hk] at hz hkr hr
      refine .sl _ (hi - lo) ⟨ab, ao + lo * k, none⟩ (cap - lo) C t fz hs.2 hsl hF hb rfl (by omega) (by omega) ?_ ?_ ?_
      · rw [hs.1, hk]; simp only; omega
      · intro r hrr
        rw [sub_row hl hx r hrr, hs.1, hk]
        exact hkr _ (by omega)
      · intro r j hrr hj
        rw [hs.1, hk] at hj ⊢
        rw [sub_row hl hx r hrr]
        have := hr (lo + r) j (by omega) hj
        rw [Nat.add_mul] at this
        simp only
        rwa [show ao + lo * k + r * k + j = ao + (lo * k + r * k) + j by omega]

theorem sliceG_ok {t : TypeId} {x : V reg.T} {cx : Value} {lo hi mx : Option (Option (V reg.T))} {clo chi cmx : Option Value} {Q : V reg.T × Hp reg.T → Prop} (hH : HR N F φ h w) (hq : (sliceG P t x lo hi mx h).K Q) (hx : VRel reg F w φ x cx)
    (clo0 : lo = none ↔ clo = none) (clo1 : ∀ v cv, lo = some (some v) → clo = some cv → VRel reg F w φ v cv) (chi0 : hi = none ↔ chi = none) (chi1 : ∀ v cv, hi = some (some v) → chi = some cv → VRel reg F w φ v cv)
    (cmx0 : mx = none ↔ cmx = none) (cmx1 : ∀ v cv, mx = some (some v) → cmx = some cv → VRel reg F w φ v cv) : OpOk P N F φ h w (Instr.sliceAt t cx clo chi cmx) Q := by
  unfold sliceG at hq
  split at hq
  · -- a text
    rename_i s
    split at hq
    · rename_i l u ht hl hh
      have ht := isStrT_eq ht
      have hmx := cmx0.1 rfl
      subst hmx
      obtain ⟨hb, hq⟩ := Out.K_need.1 hq
      obtain ⟨h0, h1, h2⟩ := inB_eq hb
      have bl := bnd_ok hl clo0 clo1
      have bh := bnd_ok hh chi0 chi1
      rw [hx.str_inv]
      have hsz : (ByteArray.mk s.toArray).size = s.length := by simp [ByteArray.size]
      have hrun := run_bounds (P := P) (w := w) (isSlice := false) (len := s.length) (cap := s.length) bl bh h0 h1 h2
      refine ⟨.string ⟨((s.take u.toNat).drop l.toNat).toArray⟩, w, ?_, .pure hH hq (.d _ _ (.str _))⟩
      have e : (s.drop l.toNat).take (u.toNat - l.toNat) = (s.take u.toNat).drop l.toNat := by rw [List.drop_take]
      simp [Instr.sliceAt, Instr.slice, run_underlying ht, hsz, hrun, ByteArray.extract_mk, e]
    · exact hq.elim
  · rename_i x hns
    split at hq
    · rename_i n e l hn ht hl
      have ht := sliceT_eq ht
      have bl := bnd_ok hl clo0 clo1
      -- what stands there is a slice
      have hform : ∃ a cap, cx = .slice a n cap ∧ n ≤ cap ∧ DRel reg F w x (.slice a n cap) ∧ (x = .nils → n = 0 ∧ cap = 0) := by
        cases hx with | d _ _ hd =>
        cases hd <;> (try (simp only [D.len?, reduceCtorEq] at hn; done))
        case nils => simp only [D.len?, Option.some.injEq] at hn; subst hn; exact ⟨none, 0, rfl, Nat.le_refl _, .nils, fun _ => ⟨rfl, rfl⟩⟩
        case emp base cap hx1 hx2 => rw [hx2] at hn; cases hn; exact ⟨base, cap, rfl, Nat.zero_le _, .emp _ hx1 hx2 _ _, fun e => by rw [e] at hx1; cases hx1⟩
        case sl n' a cap C t' fz hF hb hs hc hm hx1 hx2 hz hkr hr =>
          rw [hx2] at hn; cases hn
          exact ⟨_, cap, rfl, hc, .sl _ _ a cap C t' fz hx1 hx2 hF hb hs hc hm hz hkr hr, fun e => by rw [e] at hx1; cases hx1⟩
      obtain ⟨a, cap, rfl, hnc, hd, hnils⟩ := hform
      split at hq
      · have hmx := cmx0.1 rfl
        subst hmx
        split at hq
        · rename_i u hh
          have bh := bnd_ok hh chi0 chi1
          split at hq
          · obtain ⟨hb, hq2⟩ := Out.K_need.1 hq
            clear hq
            simp only [Bool.and_eq_true] at hb
            obtain ⟨h0, h1, h2⟩ := inB_eq hb.1
            obtain ⟨rfl, rfl⟩ := hnils rfl
            have hrun := run_bounds (P := P) (w := w) (isSlice := true) (len := 0) (cap := 0) bl bh h0 h1 h2
            refine ⟨_, w, sliceAt_slice ht hb.2 hrun, .pure hH hq2 (.d _ _ ?_)⟩
            have e1 : u.toNat - l.toNat = 0 := by omega
            have e2 : 0 - l.toNat = 0 := by omega
            have ha : a = none := by
              cases hd with
              | nils => rfl
              | emp _ h => cases h
              | sl _ _ _ _ _ _ _ h => cases h
            subst ha
            rw [e1, e2]
            have e3 : (if (0 : Nat) = l.toNat then (none : Option Addr) else Option.map (fun x : Addr => x.add (l.toNat * P.cellsOf e)) none) = none := by split <;> rfl
            rw [e3]
            exact .nils
          · rename_i hnn
            obtain ⟨hb, hq⟩ := Out.K_need.1 hq
            simp only [Bool.and_eq_true] at hb
            obtain ⟨h0, h1, h2⟩ := inB_eq hb.1.1
            have hk := Nat.eq_of_beq_eq_true hb.2
            have hsl : x.isSl = true := by cases x <;> first | rfl | (simp only [D.len?, reduceCtorEq] at hn; done) | exact absurd rfl hnn
            have hrun := run_bounds (P := P) (w := w) (isSlice := true) (len := n) (cap := cap) bl bh h0 h1 (by omega)
            refine ⟨_, w, sliceAt_slice ht hb.1.2 hrun, .pure hH hq (.d _ _ ?_)⟩
            exact sub_rel hsl hn (by omega) (by omega) (by rw [k_any hsl 0 (P.cellsOf e)]; exact hk) hd
        · exact hq.elim
      · rename_i m
        split at hq
        · rename_i hhi hh hm
          have bh := bnd_ok hh chi0 chi1
          have bm := bnd_ok hm cmx0 cmx1
          obtain ⟨hb, hq2⟩ := Out.K_need.1 hq
          clear hq
          simp only [Bool.and_eq_true] at hb
          obtain ⟨h0, h1, h2⟩ := inB_eq hb.1
          have hmx' : cmx ≠ none := fun e => by have := cmx0.2 e; cases this
          cases chi with
          | none => rw [chi0.2 rfl] at hhi; cases hhi
          | some vh =>
            have hrun := run_bounds3 (P := P) (w := w) (isSlice := true) (len := n) (cap := cap) bl bh bm (by simp) hmx' h0 h1 (Int.le_refl _) (by omega)
            refine ⟨_, w, sliceAt_slice ht hb.2 hrun, .pure hH hq2 (.d _ _ ?_)⟩
            have e1 : (0 : Int).toNat - l.toNat = 0 := by omega
            have ha : a = none := by
              cases hd with
              | nils => rfl
              | emp _ h => cases h
              | sl _ _ _ _ _ _ _ h => cases h
            subst ha
            rw [e1]
            have e3 : (if (0 : Int).toNat = l.toNat then (none : Option Addr) else Option.map (fun x : Addr => x.add (l.toNat * P.cellsOf e)) none) = none := by split <;> rfl
            rw [e3]
            exact .nils
        · exact hq.elim
    · exact hq.elim
  · rename_i i off len cap
    split at hq
    · rename_i e l o ht hl hi'
      have ht := sliceT_eq ht
      have bl := bnd_ok hl clo0 clo1
      obtain ⟨hc, hq⟩ := Out.K_ask.1 hq
      simp only [Bool.and_eq_true] at hc
      obtain ⟨⟨hrw, hke⟩, hie⟩ := hc
      have hke := Nat.eq_of_beq_eq_true hke
      -- the value: where it lies, its capacity
      have hform : ∃ a cap', cx = .slice a len cap' ∧ CapRel cap cap' ∧ len ≤ cap' ∧ ∀ (l u m : Nat) (cap2 : Cap), l ≤ u → u ≤ m → m ≤ cap' → CapRel cap2 (m - l) → (cap.loose = true → cap2.loose = true ∨ l < m) →
          VRel reg F w φ (.sl i (off + l) (u - l) cap2) (.slice (if m = l then a else a.map (·.add (l * P.cellsOf e))) (u - l) (m - l)) := by
        cases hx with
        | sl _ _ _ _ b s k z cap' hp hcr hlc hm hzz =>
          refine ⟨_, cap', rfl, hcr, hlc, fun l u m cap2 h1 h2 h3 h4 h5' => ?_⟩
          obtain ⟨_, rfl, _⟩ := row_at hH hi' hp hrw
          by_cases hml : m = l
          · have e1 : u - l = 0 := by omega
            have e2 : m - l = 0 := by omega
            rw [e1, e2, if_pos hml]
            rw [e2] at h4
            exact .slz _ _ _ _ h4 (fun e => by cases e)
          · rw [if_neg hml]
            simp only [Option.map_some, addr_zero]
            have h5 : l * o.k reg + (m - l) * o.k reg ≤ cap' * o.k reg := by rw [← Nat.add_mul]; exact Nat.mul_le_mul_right _ (by omega)
            have := VRel.sl (reg := reg) (F := F) (w := w) (φ := φ) i (off + l) (u - l) cap2 b s (o.k reg) z (m - l) hp h4 (by omega) (by omega) (by rw [Nat.add_mul]; omega)
            rw [hke] at this
            rw [Nat.add_mul, ← Nat.add_assoc] at this
            rw [hke]
            exact this
        | slz _ _ _ base hcr hnb =>
          refine ⟨base, 0, rfl, hcr, Nat.le_refl _, fun l u m cap2 h1 h2 h3 h4 h5 => ?_⟩
          have e1 : u - l = 0 := by omega
          have e2 : m - l = 0 := by omega
          rw [e1, e2]
          rw [e2] at h4
          refine .slz _ _ _ _ h4 (fun e => ?_)
          have hbn : base = none := by
            rw [if_pos (by omega)] at e
            exact e
          rcases h5 (hnb hbn) with h6 | h6
          · exact h6
          · omega
      obtain ⟨a, cap', rfl, hcr, hlc, hv⟩ := hform
      have hmin : capMin cap len ≤ cap' := by
        cases cap with
        | exact c => have : cap' = c := hcr; simp only [capMin]; omega
        | least c => have : c ≤ cap' := hcr; simp only [capMin]; exact Nat.max_le.2 ⟨this, hlc⟩
      split at hq
      · have hmx := cmx0.1 rfl
        subst hmx
        split at hq
        · rename_i u hh
          have bh := bnd_ok hh chi0 chi1
          obtain ⟨hb, hq⟩ := Out.K_need.1 hq
          obtain ⟨h0, h1, h2⟩ := inB_eq hb
          have hrun := run_bounds (P := P) (w := w) (isSlice := true) (len := len) (cap := cap') bl bh h0 h1 (by omega)
          refine ⟨_, w, sliceAt_slice ht hie hrun, .pure hH hq ?_⟩
          have e1 : (u - l).toNat = u.toNat - l.toNat := by omega
          rw [e1]
          refine hv l.toNat u.toNat cap' _ (by omega) (by omega) (Nat.le_refl _) ?_ ?_
          · cases cap with
            | exact c => have : cap' = c := hcr; subst this; exact rfl
            | least c => have : c ≤ cap' := hcr; exact Nat.sub_le_sub_right (Nat.max_le.2 ⟨this, hlc⟩) _
          · intro hlo
            cases cap with
            | exact c => cases hlo
            | least c => exact .inl rfl
        · exact hq.elim
      · rename_i m
        split at hq
        · rename_i u w' hhi hh hm
          have bh := bnd_ok hh chi0 chi1
          have bm := bnd_ok hm cmx0 cmx1
          obtain ⟨hb, hq⟩ := Out.K_need.1 hq
          simp only [Bool.and_eq_true, Bool.or_eq_true, decide_eq_true_eq] at hb
          obtain ⟨hb, hbl⟩ := hb
          obtain ⟨h0, h1, h2⟩ := inB_eq hb.1
          have hmx' : cmx ≠ none := fun e => by have := cmx0.2 e; cases this
          cases chi with
          | none => rw [chi0.2 rfl] at hhi; cases hhi
          | some vh =>
            have hrun := run_bounds3 (P := P) (w := w) (isSlice := true) (len := len) (cap := cap') bl bh bm (by simp) hmx' h0 h1 h2 (by omega)
            refine ⟨_, w, sliceAt_slice ht hie hrun, .pure hH hq ?_⟩
            have e1 : (u - l).toNat = u.toNat - l.toNat := by omega
            have e2 : (w' - l).toNat = w'.toNat - l.toNat := by omega
            rw [e1, e2]
            refine hv l.toNat u.toNat w'.toNat _ (by omega) (by omega) (by omega) rfl (fun hlo => .inr ?_)
            rcases hbl with h7 | h7
            · rw [hlo] at h7; cases h7
            · omega
        · exact hq.elim
    · exact hq.elim
  · exact hq.elim
end
end Go.W
