/- That append, copy and make do to the machine what the evaluator says. No conditions. -/
import Derived.Test.YtmnkbfflpgmkmaaGreatDoorWS2
import Derived.Deep.Upon
import Derived.Laws.MakeOwn
namespace Go.W
open Go Go.RowKit

section
variable {reg : Reg} {P : Program} {N F : Nat → Prop} {φ : Phi} {h : Hp reg.T} {w : World}

theorem At.one {row : Nat → List (V reg.T)} {n k : Nat} {c : Nat → Value} (ha : At reg F w φ row n k c) (i : Nat) (hi : i < n * k) : (c i).oneCell' = true := by
  have hk : 0 < k := by
    rcases Nat.eq_zero_or_pos k with h | h
    · subst h; simp at hi
    · exact h
  have h1 : i / k < n := Nat.div_lt_of_lt_mul (by rw [Nat.mul_comm]; exact hi)
  have h2 : i % k < k := Nat.mod_lt _ hk
  have := solid_oneCell (ha.rel (i / k) (i % k) h1 h2) (ha.solid (i / k) (i % k) h1 h2)
  rwa [show i / k * k + i % k = i by rw [Nat.mul_comm]; exact Nat.div_add_mod i k] at this

theorem At.congr {row row' : Nat → List (V reg.T)} {n k : Nat} {c c' : Nat → Value} (ha : At reg F w φ row n k c) (hr : ∀ r, r < n → row' r = row r) (hc : ∀ i, i < n * k → c' i = c i) : At reg F w φ row' n k c' := by
  refine ⟨fun r h => by rw [hr r h]; exact ha.wid r h, fun r j h1 h2 => by rw [hr r h1]; exact ha.solid r j h1 h2, fun r j h1 h2 => ?_⟩
  rw [hr r h1, hc]
  · exact ha.rel r j h1 h2
  · have : (r + 1) * k ≤ n * k := Nat.mul_le_mul_right _ h1
    rw [Nat.succ_mul] at this
    omega

theorem At.mono_n {row : Nat → List (V reg.T)} {n m k : Nat} {c : Nat → Value} (ha : At reg F w φ row n k c) (hm : m ≤ n) : At reg F w φ row m k c :=
  ⟨fun r h => ha.wid r (by omega), fun r j h1 h2 => ha.solid r j (by omega) h2, fun r j h1 h2 => ha.rel r j (by omega) h2⟩

/-- Rows from a place on. -/
theorem At.shift {row : Nat → List (V reg.T)} {n m k lo : Nat} {c : Nat → Value} (ha : At reg F w φ row n k c) (hm : lo + m ≤ n) : At reg F w φ (fun r => row (lo + r)) m k (fun i => c (lo * k + i)) :=
  ⟨fun r h => ha.wid _ (by omega), fun r j h1 h2 => ha.solid _ j (by omega) h2, fun r j h1 h2 => by
    have := ha.rel (lo + r) j (by omega) h2
    rwa [Nat.add_mul, Nat.add_assoc] at this⟩

/-- Rows behind one another. -/
theorem At.append {row row1 row2 : Nat → List (V reg.T)} {n1 n2 k : Nat} {c1 c2 c : Nat → Value} (h1 : At reg F w φ row1 n1 k c1) (h2 : At reg F w φ row2 n2 k c2)
    (hr : ∀ r, r < n1 + n2 → row r = if r < n1 then row1 r else row2 (r - n1)) (hc : ∀ i, i < (n1 + n2) * k → c i = if i < n1 * k then c1 i else c2 (i - n1 * k)) : At reg F w φ row (n1 + n2) k c := by
  refine ⟨fun r h => ?_, fun r j h hj => ?_, fun r j h hj => ?_⟩
  · rw [hr r h]; split
    · rename_i hlt; exact h1.wid r hlt
    · exact h2.wid _ (by omega)
  · rw [hr r h]; split
    · rename_i hlt; exact h1.solid r j hlt hj
    · exact h2.solid _ j (by omega) hj
  · have hlt : r * k + j < (n1 + n2) * k := by
      have : (r + 1) * k ≤ (n1 + n2) * k := Nat.mul_le_mul_right _ h
      rw [Nat.succ_mul] at this
      omega
    rw [hr r h, hc _ hlt]
    split
    · rename_i hr1
      have : (r + 1) * k ≤ n1 * k := Nat.mul_le_mul_right _ hr1
      rw [Nat.succ_mul] at this
      rw [if_pos (by omega)]
      exact h1.rel r j hr1 hj
    · rename_i hr1
      have h3 : n1 * k ≤ r * k := Nat.mul_le_mul_right _ (by omega)
      rw [if_neg (by omega)]
      have := h2.rel (r - n1) j (by omega) hj
      rwa [Nat.sub_mul, show r * k - n1 * k + j = r * k + j - n1 * k by omega] at this

theorem addr_zero (b o j : Nat) : Addr.add ⟨b, o, none⟩ j = ⟨b, o + j, none⟩ := Addr.add_lit b o j

/-- What a source yields. -/
structure Yields (P : Program) (F : Nat → Prop) (φ : Phi) (w : World) (tx : TypeId) (k n : Nat) (ys : Rw reg.T) (cv : Value) (news : List Value) : Prop where
  src : Src P k tx cv n news w
  len : ys.len = n
  at_ : At reg F w φ (ys.row reg) n k (fun i => news.getD i undef)
  front : ∀ m, m ≤ n → (Builtin.firstCells k m cv).run P w = .ok (news.take (m * k)).toArray w

def Kind2 (P : Program) (tx : TypeId) : Prop := (∃ e', P.underlying tx = some (.slice e')) ∨ P.underlying tx = some .string

theorem yields_none {tx : TypeId} {k : Nat} {ys : Rw reg.T} {base : Option Addr} {cap : Nat} (hk : Kind2 P tx) (hl : ys.len = 0) : Yields P F φ w tx k 0 ys (.slice base 0 cap) [] := by
  have hf : ∀ w' : World, (Builtin.firstCells k 0 (.slice base 0 cap)).run P w' = .ok #[] w' := by
    intro w'
    cases base with
    | none => exact run_firstCells_none w' k 0 0 cap
    | some a => have := run_firstCells_some (P := P) w' k 0 a 0 cap [] (by simp) (by simp); simpa using this
  refine ⟨⟨hk, fun _ => rfl, hf w, hf _, by simp, by simp⟩, hl, ⟨fun r h => by omega, fun r j h => by omega, fun r j h => by omega⟩, fun m hm => ?_⟩
  obtain rfl : m = 0 := by omega
  simpa using hf w

theorem yields_block {tx : TypeId} {k n : Nat} {ys : Rw reg.T} {b o cap : Nat} {C : Array Value} {t : TypeId} {fz : Nat × Nat} (hk : Kind2 P tx) (hb : w.heap[b]? = some (.cells C t fz)) (hz : o + n * k ≤ C.size) (hl : ys.len = n)
    (ha : At reg F w φ (ys.row reg) n k (fun i => C.getD (o + i) undef)) :
    Yields P F φ w tx k n ys (.slice (some ⟨b, o, none⟩) n cap) ((List.range (n * k)).map fun i => C.getD (o + i) undef) := by
  have hg : ∀ i, i < n * k → ((List.range (n * k)).map fun i => C.getD (o + i) undef).getD i undef = C.getD (o + i) undef := by
    intro i hi
    rw [getD_map_lt _ _ _ _ 0 (by simpa using hi)]
    congr 2
    simp [List.getD, hi]
  have hcell : ∀ (w' : World), w'.heap = w.heap → ∀ j u, ((List.range (n * k)).map fun i => C.getD (o + i) undef)[j]? = some u → w'.cell? ((⟨b, o, none⟩ : Addr).add j) = some u := by
    intro w' hw j u hu
    have hj : j < n * k := by
      rcases Nat.lt_or_ge j (n * k) with h | h
      · exact h
      · rw [List.getElem?_eq_none (by simpa using h)] at hu; cases hu
    rw [addr_zero, cell_of_heap (C := C) (t := t) (fz := fz) (by rw [hw]; exact hb)]
    simp [hj] at hu
    rw [← hu]
    have : o + j < C.size := by omega
    simp [this]
  have h1 : ∀ u ∈ ((List.range (n * k)).map fun i => C.getD (o + i) undef), u.oneCell' = true := by
    intro u hu
    obtain ⟨i, hi, rfl⟩ := List.mem_map.1 hu
    exact ha.one i (by simpa using hi)
  have hfront : ∀ (w' : World), w'.heap = w.heap → ∀ m, m ≤ n → (Builtin.firstCells k m (.slice (some ⟨b, o, none⟩) n cap)).run P w' = .ok (((List.range (n * k)).map fun i => C.getD (o + i) undef).take (m * k)).toArray w' := by
    intro w' hw m hm
    have hle : m * k ≤ n * k := Nat.mul_le_mul_right _ hm
    refine run_firstCells_some w' k m ⟨b, o, none⟩ n cap _ (by rw [List.length_take, List.length_map, List.length_range]; exact Nat.min_eq_left hle) (fun j v hv => ?_)
    rw [List.getElem?_take] at hv
    split at hv
    · exact hcell w' hw j v hv
    · cases hv
  have full : ∀ (w' : World), w'.heap = w.heap → (Builtin.firstCells k n (.slice (some ⟨b, o, none⟩) n cap)).run P w' = .ok ((List.range (n * k)).map fun i => C.getD (o + i) undef).toArray w' := by
    intro w' hw
    have := hfront w' hw n (Nat.le_refl _)
    rwa [List.take_of_length_le (by simp)] at this
  exact ⟨⟨hk, fun _ => rfl, full w rfl, full w.drew rfl, by simp, h1⟩, hl, ha.congr (fun _ _ => rfl) hg, hfront w rfl⟩

theorem At.ofRw {o : O reg.T} {lo n k : Nat} {c : Nat → Value} (ha : At reg F w φ (fun r => o.row reg (lo + r)) n k c) (h0 : o.isRows reg = true) (hl : lo + n ≤ o.len reg) : At reg F w φ ((o.rw reg lo n).row reg) n k c := by
  obtain ⟨_, h2⟩ := rw_spec h0 hl
  exact ha.congr h2 (fun _ _ => rfl)

/-- Data rows. -/
theorem data_at {x : D reg.T} {n : Nat} {C : Array Value} {o : Nat} (hl : x.len? reg = some n) (hk : ∀ r, r < n → (x.row reg r).length = x.k reg 0)
    (hr : ∀ r j, r < n → j < x.k reg 0 → DRel reg F w ((x.row reg r).getD j .nilp) (C.getD (o + r * x.k reg 0 + j) undef)) : At reg F w φ ((x.rw reg).row reg) n (x.k reg 0) (fun i => C.getD (o + i) undef) := by
  obtain ⟨_, h2⟩ := drw_spec hl
  refine ⟨fun r h => by rw [h2 r h, List.length_map]; exact hk r h, fun r j h hj => ?_, fun r j h hj => ?_⟩
  · rw [h2 r h, getD_map_d _ _ (by rw [hk r h]; exact hj)]; rfl
  · rw [h2 r h, getD_map_d _ _ (by rw [hk r h]; exact hj), ← Nat.add_assoc]
    exact .d _ _ (hr r j h hj)

/-- A slice as a source. -/
theorem slv_ok {tx : TypeId} {k n : Nat} {v : V reg.T} {cv : Value} {ys : Rw reg.T} (hH : HR N F φ h w) (hk : Kind2 P tx) (hs : slv k v h = some (n, ys)) (hv : VRel reg F w φ v cv) : ∃ news, Yields P F φ w tx k n ys cv news := by
  unfold slv at hs
  split at hs
  · rename_i x
    split at hs
    · rename_i m hx hkk
      simp only [Option.some.injEq, Prod.mk.injEq] at hs
      obtain ⟨rfl, rfl⟩ := hs
      have hkk := Nat.eq_of_beq_eq_true hkk
      obtain ⟨hl, _⟩ := drw_spec hx
      cases hv with
      | d _ _ hd =>
        cases hd <;> (try (simp only [D.len?, reduceCtorEq] at hx; done))
        case nils =>
          simp only [D.len?, Option.some.injEq] at hx
          subst hx
          exact ⟨[], yields_none hk rfl⟩
        case emp base cap hx1 hx2 =>
          rw [hx2] at hx
          cases hx
          exact ⟨[], yields_none hk hl⟩
        case sl n a cap C t fz hF hb hs hc hm hx1 hx2 hz hkr hr =>
          rw [hx2] at hx
          cases hx
          obtain ⟨ab, ao, asp⟩ := a
          simp only at hs hb hF hz hr
          subst hs
          have hk0 : x.k reg 0 = k := by rw [k_any hx1 0 k]; exact hkk
          rw [hk0] at hz
          have ha := data_at (φ := φ) hx2 hkr hr
          rw [hk0] at ha
          exact ⟨_, yields_block hk hb hz hl ha⟩
    · cases hs
  · rename_i i off len cap
    split at hs
    · rename_i o ho
      split at hs
      · rename_i hc
        simp only [Option.some.injEq, Prod.mk.injEq] at hs
        obtain ⟨rfl, rfl⟩ := hs
        simp only [Bool.and_eq_true] at hc
        obtain ⟨⟨h0, hkk⟩, hle⟩ := hc
        have hkk := Nat.eq_of_beq_eq_true hkk
        have hle : off + len ≤ o.len reg := Nat.le_of_ble_eq_true hle
        have hl := (rw_spec h0 hle).1
        cases hv with
        | sl _ _ _ _ b s k' z cap' hp hcr hlc hm hzz =>
          obtain ⟨_, rfl, _, _, C, t, fz, h1, _, h2, _⟩ := row_at hH ho hp h0
          have hsz : s + off * o.k reg + len * o.k reg ≤ C.size := by
            have : (off + len) * o.k reg ≤ o.len reg * o.k reg := Nat.mul_le_mul_right _ hle
            rw [Nat.add_mul] at this
            have := h2.size
            omega
          have ha : At reg F w φ ((o.rw reg off len).row reg) len (o.k reg) (fun i => C.getD (s + off * o.k reg + i) undef) :=
            At.ofRw ((h2.at_.shift hle).congr (fun _ _ => rfl) (fun i _ => by rw [Nat.add_assoc])) h0 hle
          rw [hkk] at ha hsz
          rw [hkk]
          exact ⟨_, yields_block hk h1 hsz hl ha⟩
        | slz _ _ _ base hcr => exact ⟨[], yields_none hk hl⟩
      · cases hs
    · cases hs
  · cases hs

theorem src_ok {tx e : TypeId} {n : Nat} {v : V reg.T} {cv : Value} {ys : Rw reg.T} (hH : HR N F φ h w) (hk : Kind2 P tx) (hs : srcv P e v h = some (n, ys)) (hv : VRel reg F w φ v cv) : ∃ news, Yields P F φ w tx (P.cellsOf e) n ys cv news := by
  unfold srcv at hs
  split at hs
  · rename_i s
    split at hs
    · rename_i h1
      have h1 := Nat.eq_of_beq_eq_true h1
      simp only [Option.some.injEq, Prod.mk.injEq] at hs
      obtain ⟨rfl, rfl⟩ := hs
      rw [hv.str_inv, h1]
      obtain ⟨g1, g2⟩ := strRw_spec (reg := reg) e s
      have hsz : (ByteArray.mk s.toArray).size = s.length := by simp [ByteArray.size]
      have hbc : byteCells (ByteArray.mk s.toArray) = s.map fun b => Value.int .u8 b.toNat := by simp [byteCells]
      have hgd : ∀ i, i < s.length → (s.map fun b => Value.int .u8 (b.toNat : Int)).getD i undef = .int .u8 (s.getD i 0).toNat := fun i hi => getD_map_lt _ _ _ _ 0 hi
      refine ⟨s.map fun b => Value.int .u8 b.toNat, ⟨⟨hk, fun _ => by simp [Builtin.lenOf, hsz], ?_, ?_, by simp, ?_⟩, g1, ⟨fun r h => by rw [g2 r h]; rfl, fun r j h hj => ?_, fun r j h hj => ?_⟩, fun m hm => ?_⟩⟩
      · have := firstCells_string (P := P) (ByteArray.mk s.toArray) w; rwa [hsz, hbc] at this
      · have := firstCells_string (P := P) (ByteArray.mk s.toArray) w.drew; rwa [hsz, hbc] at this
      · intro u hu; obtain ⟨b, _, rfl⟩ := List.mem_map.1 hu; rfl
      · obtain rfl : j = 0 := by omega
        rw [g2 r h]; rfl
      · obtain rfl : j = 0 := by omega
        rw [g2 r h]
        simp only [Nat.mul_one, Nat.add_zero]
        rw [hgd r h]
        exact .d _ _ (.int _ _)
      · simp [Builtin.firstCells, ByteArray.extract_mk, List.map_take]
    · cases hs
  · exact slv_ok hH hk hs hv
end
end Go.W
