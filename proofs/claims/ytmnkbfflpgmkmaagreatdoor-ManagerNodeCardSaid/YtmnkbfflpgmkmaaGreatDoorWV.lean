/- What the views of objects say of one another. No conditions. -/
import Derived.Test.YtmnkbfflpgmkmaaGreatDoorWR
namespace Go.W
open Go Go.RowKit

section
variable {reg : Reg} {P : Program}

theorem getD_map_d {T : Nat → Type} (l : List (D T)) (j : Nat) (hj : j < l.length) : (l.map (V.d (T := T))).getD j .any = .d (l.getD j .nilp) := by
  simp [List.getD, hj]

theorem getD_map_lt {α β : Type} (f : α → β) (l : List α) (j : Nat) (x : β) (y : α) (hj : j < l.length) : (l.map f).getD j x = f (l.getD j y) := by
  simp [List.getD, hj]

theorem castT_eq {T : Nat → Type} {e e' : Nat} {xs : List (T e)} {ys : List (T e')} (h : castT xs e' = some ys) : ∃ h : e = e', ys = h ▸ xs := castT_some h

theorem dataOf_spec {T : Nat → Type} : ∀ {cs : List (V T)} {l : List (D T)}, dataOf cs = some l → cs = l.map .d
  | [], l, h => by simp [dataOf] at h; subst h; rfl
  | .d x :: cs, l, h => by
    simp only [dataOf] at h
    cases hd : dataOf cs with
    | none => simp [hd] at h
    | some r => simp only [hd, Option.some.injEq] at h; subst h; rw [List.map_cons, ← dataOf_spec hd]
  | .ptr _ _ _ :: _, _, h => by simp [dataOf] at h
  | .fp _ _ :: _, _, h => by simp [dataOf] at h
  | .sl _ _ _ _ :: _, _, h => by simp [dataOf] at h
  | .mp _ :: _, _, h => by simp [dataOf] at h
  | .it _ :: _, _, h => by simp [dataOf] at h
  | .fn _ _ _ :: _, _, h => by simp [dataOf] at h
  | .ifc _ _ :: _, _, h => by simp [dataOf] at h
  | .agg _ :: _, _, h => by simp [dataOf] at h
  | .tup _ :: _, _, h => by simp [dataOf] at h
  | .undef :: _, _, h => by simp [dataOf] at h
  | .any :: _, _, h => by simp [dataOf] at h

theorem decRows_spec {e : Nat} : ∀ {xs : List (List (V reg.T))} {ys : List (reg.T e)}, decRows reg e xs = some ys → xs = ys.map fun x => (reg.enc e x).map .d
  | [], ys, h => by simp [decRows] at h; subst h; rfl
  | r :: xs, ys, h => by
    simp only [decRows] at h
    cases hd : dataOf r with
    | none => simp [hd] at h
    | some d =>
      simp only [hd] at h
      cases h1 : reg.dec e d with
      | none => simp [h1] at h
      | some x =>
        cases h2 : decRows reg e xs with
        | none => simp [h1, h2] at h
        | some y =>
          simp only [h1, h2, Option.some.injEq] at h
          subst h
          rw [List.map_cons, ← decRows_spec h2, reg.law e d x h1, ← dataOf_spec hd]

/-- The rows of a cast are the rows. -/
theorem cast_row {e : Nat} {a : Rw reg.T} {ys : List (reg.T e)} (h : a.cast reg e = some ys) : ys.length = a.len ∧ ∀ r, r < a.len → (reg.enc e (ys.getD r (reg.dflt e))).map .d = a.row reg r := by
  cases a with
  | u xs =>
    have := decRows_spec h
    subst this
    refine ⟨by simp [Rw.len], fun r hr => ?_⟩
    simp only [Rw.len, List.length_map] at hr
    simp only [Rw.row]
    rw [getD_map_lt _ _ _ _ (reg.dflt e) hr]
  | t e' xs =>
    obtain ⟨he, rfl⟩ := castT_some h
    subst he
    exact ⟨rfl, fun r _ => rfl⟩

theorem plain_row (a : Rw reg.T) : (a.plain reg).length = a.len ∧ ∀ r, r < a.len → (a.plain reg).getD r [] = a.row reg r := by
  cases a with
  | u xs => exact ⟨rfl, fun r _ => rfl⟩
  | t e xs =>
    refine ⟨by simp [Rw.plain, Rw.len], fun r hr => ?_⟩
    simp only [Rw.plain, Rw.row]
    rw [getD_map_lt _ _ _ _ (reg.dflt e) hr]

theorem getD_append_if {α : Type} (xs ys : List α) (r : Nat) (d : α) : (xs ++ ys).getD r d = if r < xs.length then xs.getD r d else ys.getD (r - xs.length) d := by
  split
  · rename_i h; simp [List.getD, List.getElem?_append_left h]
  · rename_i h; simp [List.getD, List.getElem?_append_right (Nat.le_of_not_lt h)]

theorem mkRows_spec {e : TypeId} {a b : Rw reg.T} {o : O reg.T} (h : mkRows reg P e a b = some o) :
    o.isRows reg = true ∧ o.k reg = P.cellsOf e ∧ o.len reg = a.len + b.len ∧ ∀ r, r < a.len + b.len → o.row reg r = if r < a.len then a.row reg r else b.row reg (r - a.len) := by
  unfold mkRows at h
  split at h
  · split at h
    · rename_i x y hk hx hy
      simp only [Option.some.injEq] at h
      subst h
      obtain ⟨l1, r1⟩ := cast_row hx
      obtain ⟨l2, r2⟩ := cast_row hy
      refine ⟨rfl, Nat.eq_of_beq_eq_true hk, by simp [O.len, l1, l2], fun r hr => ?_⟩
      simp only [O.row, getD_append_if, l1]
      split
      · rename_i hlt; exact r1 r hlt
      · rename_i hlt; exact r2 _ (by omega)
    · simp at h
  · simp only [Option.some.injEq] at h
    subst h
    obtain ⟨l1, r1⟩ := plain_row a
    obtain ⟨l2, r2⟩ := plain_row b
    refine ⟨rfl, rfl, by simp [O.len, l1, l2], fun r hr => ?_⟩
    simp only [O.row, getD_append_if, l1]
    split
    · rename_i hlt; exact r1 r hlt
    · rename_i hlt; exact r2 _ (by omega)

theorem getD_setRange {α : Type} (vs cs : List α) (o j : Nat) (d : α) (h : o + cs.length ≤ vs.length) : (setRange vs o cs).getD j d = if o ≤ j ∧ j < o + cs.length then cs.getD (j - o) d else vs.getD j d := by
  unfold setRange
  rw [getD_append_if, getD_append_if]
  simp only [List.length_take, Nat.min_eq_left (show o ≤ vs.length by omega)]
  by_cases h1 : j < o
  · rw [if_pos h1, if_neg (by omega)]
    simp [List.getD, h1]
  · rw [if_neg h1]
    by_cases h2 : j - o < cs.length
    · rw [if_pos h2, if_pos ⟨by omega, by omega⟩]
    · rw [if_neg h2, if_neg (by omega)]
      simp only [List.getD, List.getElem?_drop]
      congr 2
      omega

theorem length_setRange {α : Type} (vs cs : List α) (o : Nat) (h : o + cs.length ≤ vs.length) : (setRange vs o cs).length = vs.length := by
  simp [setRange]
  omega

theorem over_spec {o o' : O reg.T} {b : Rw reg.T} {lo : Nat} (h : o.over reg lo b = some o') (hz : lo + b.len ≤ o.len reg) :
    o'.isRows reg = true ∧ o'.k reg = o.k reg ∧ o'.len reg = o.len reg ∧ ∀ r, o'.row reg r = if lo ≤ r ∧ r < lo + b.len then b.row reg (r - lo) else o.row reg r := by
  cases o with
  | rows k xs =>
    simp only [O.over, Option.some.injEq] at h
    subst h
    obtain ⟨l1, r1⟩ := plain_row b
    have hz' : lo + (b.plain reg).length ≤ xs.length := by rw [l1]; exact hz
    refine ⟨rfl, rfl, by simp only [O.len]; exact length_setRange _ _ _ hz', fun r => ?_⟩
    simp only [O.row]
    rw [getD_setRange _ _ _ _ _ hz', l1]
    split
    · rename_i hlt; exact r1 _ (by omega)
    · rfl
  | trows e xs =>
    simp only [O.over] at h
    cases hc : b.cast reg e with
    | none => simp [hc] at h
    | some y =>
      simp only [hc, Option.some.injEq] at h
      subst h
      obtain ⟨l1, r1⟩ := cast_row hc
      have hz' : lo + y.length ≤ xs.length := by rw [l1]; exact hz
      refine ⟨rfl, rfl, by simp only [O.len]; exact length_setRange _ _ _ hz', fun r => ?_⟩
      simp only [O.row]
      rw [getD_setRange _ _ _ _ _ hz', l1]
      split
      · rename_i hlt; exact r1 _ (by omega)
      · rfl
  | map c es => simp [O.over] at h
  | sit s p => simp [O.over] at h

theorem rw_spec {o : O reg.T} {lo n : Nat} (h0 : o.isRows reg = true) (h : lo + n ≤ o.len reg) : (o.rw reg lo n).len = n ∧ ∀ r, r < n → (o.rw reg lo n).row reg r = o.row reg (lo + r) := by
  cases o with
  | rows k xs =>
    simp only [O.len] at h
    refine ⟨by simp [O.rw, Rw.len]; omega, fun r hr => ?_⟩
    simp only [O.rw, Rw.row, O.row, List.getD, List.getElem?_take, if_pos hr, List.getElem?_drop]
  | trows e xs =>
    simp only [O.len] at h
    refine ⟨by simp [O.rw, Rw.len]; omega, fun r hr => ?_⟩
    simp only [O.rw, Rw.row, O.row, List.getD, List.getElem?_take, if_pos hr, List.getElem?_drop]
  | map c es => simp [O.isRows] at h0
  | sit s p => simp [O.isRows] at h0

theorem drw_spec {x : D reg.T} {n : Nat} (h : x.len? reg = some n) : (x.rw reg).len = n ∧ ∀ r, r < n → (x.rw reg).row reg r = (x.row reg r).map .d := by
  cases x <;> simp only [D.len?, Option.some.injEq, reduceCtorEq] at h
  case nils => subst h; exact ⟨rfl, fun r hr => by omega⟩
  case sl e xs => subst h; exact ⟨rfl, fun r _ => rfl⟩
  case usl k xs =>
    subst h
    refine ⟨by simp [D.rw, Rw.len], fun r hr => ?_⟩
    simp only [D.rw, Rw.row, D.row]
    rw [getD_map_lt _ _ _ _ [] hr]

theorem setRow_spec {o o' : O reg.T} {r : Nat} {cs : List (V reg.T)} (h : o.setRow reg r cs = some o') (hr : r < o.len reg) :
    o'.isRows reg = true ∧ o'.k reg = o.k reg ∧ o'.len reg = o.len reg ∧ ∀ r', o'.row reg r' = if r' = r then cs else o.row reg r' := by
  cases o with
  | rows k xs =>
    simp only [O.setRow, Option.some.injEq] at h
    subst h
    simp only [O.len] at hr
    refine ⟨rfl, rfl, by simp [O.len], fun r' => ?_⟩
    simp only [O.row, List.getD, List.getElem?_set]
    by_cases he : r' = r
    · subst he; simp [hr]
    · rw [if_neg (Ne.symm he), if_neg he]
  | trows e xs =>
    simp only [O.setRow] at h
    cases hd : dataOf cs with
    | none => simp [hd] at h
    | some l =>
      simp only [hd] at h
      cases hx : reg.dec e l with
      | none => simp [hx] at h
      | some x =>
        simp only [hx, Option.some.injEq] at h
        subst h
        simp only [O.len] at hr
        refine ⟨rfl, rfl, by simp [O.len], fun r' => ?_⟩
        simp only [O.row, List.getD, List.getElem?_set]
        by_cases he : r' = r
        · subst he
          simp [hr, reg.law e l x hx, ← dataOf_spec hd]
        · rw [if_neg (Ne.symm he), if_neg he]
  | map c es => simp [O.setRow] at h
  | sit s p => simp [O.setRow] at h

/-! ### Data that is a slice -/
theorem sub_len {x : D reg.T} {n lo hi : Nat} (h : x.len? reg = some n) (h1 : lo ≤ hi) (h2 : hi ≤ n) (hx : x.isSl = true) : (x.sub reg lo hi).len? reg = some (hi - lo) := by
  cases x <;> simp only [D.isSl, Bool.false_eq_true] at hx <;> simp only [D.len?, Option.some.injEq] at h <;> simp only [D.sub, D.len?, Option.some.injEq, List.length_drop, List.length_take] <;> omega

theorem sub_row {x : D reg.T} {n lo hi : Nat} (h : x.len? reg = some n) (hx : x.isSl = true) (r : Nat) (hr : r < hi - lo) : (x.sub reg lo hi).row reg r = x.row reg (lo + r) := by
  cases x <;> simp only [D.isSl, Bool.false_eq_true] at hx <;> simp only [D.len?, Option.some.injEq] at h <;> simp only [D.sub, D.row, List.getD, List.getElem?_drop, List.getElem?_take] <;> rw [if_pos (by omega)]

theorem sub_k {x : D reg.T} {lo hi k0 : Nat} (hx : x.isSl = true) : (x.sub reg lo hi).k reg k0 = x.k reg 0 ∧ (x.sub reg lo hi).isSl = true := by
  cases x <;> simp only [D.isSl, Bool.false_eq_true] at hx <;> exact ⟨rfl, rfl⟩

theorem k_any {x : D reg.T} (hx : x.isSl = true) (k0 k1 : Nat) : x.k reg k0 = x.k reg k1 := by cases x <;> simp only [D.isSl, Bool.false_eq_true] at hx <;> rfl

theorem strRw_spec (e : TypeId) (s : List UInt8) : (strRw reg e s).len = s.length ∧ ∀ r, r < s.length → (strRw reg e s).row reg r = [.d (.int .u8 (s.getD r 0).toNat)] := by
  unfold strRw
  split
  · rename_i h
    simp only [Bool.and_eq_true] at h
    exact ⟨reg.ofS_len e s h.2, fun r hr => by simp only [Rw.row]; rw [reg.ofS_get e s r h.2 hr]; rfl⟩
  · refine ⟨by simp [Rw.len, strRows], fun r hr => ?_⟩
    simp only [Rw.row, strRows]
    rw [getD_map_lt _ _ _ _ 0 hr]

theorem rwTake_spec (ys : Rw reg.T) (m : Nat) (h : m ≤ ys.len) : (ys.take m).len = m ∧ ∀ r, r < m → (ys.take m).row reg r = ys.row reg r := by
  cases ys with
  | u xs => exact ⟨by simp only [Rw.len, Rw.take] at h ⊢; simp; omega, fun r hr => by simp only [Rw.row, Rw.take, List.getD, List.getElem?_take, if_pos hr]⟩
  | t e xs => exact ⟨by simp only [Rw.len, Rw.take] at h ⊢; simp; omega, fun r hr => by simp only [Rw.row, Rw.take, List.getD, List.getElem?_take, if_pos hr]⟩
end
end Go.W
