/- Plain laws of disks. No conditions. -/
import Derived.Test.YtaencddffbmdeaaDkL
namespace Go.Proofs.Ytaencddffbmdeaa
open Go Go.W Go.Proofs

theorem br {c : Bool} {A B : Prop} (h1 : c = true → A) (h2 : c = false → B) : branch c A B := (branch_iff _ _ _).2 ⟨h1, h2⟩
theorem brT {c : Bool} {A B : Prop} (h : c = true) (a : A) : branch c A B := by subst h; exact a
theorem brF {c : Bool} {A B : Prop} (h : c = false) (b : B) : branch c A B := by subst h; exact b
theorem inc {i : Int} (h0 : -9223372036854775808 ≤ i + 1) (h : i + 1 ≤ 9223372036854775807) : IntKind.i64.wrap (i + 1) = i + 1 := wrap_id h0 h

theorem DUp.fine {room : Int} {d : DSt} (h : DUp room d) (hr : room ≤ 16777216) : d.fine = true := by
  have h1 := h.s0; have h2 := h.s1; have h3 := h.sz; have h4 := h.rm
  simp only [DSt.fine, Bool.and_eq_true, decide_eq_true_eq]
  exact ⟨⟨⟨⟨h1, h2⟩, by omega⟩, by omega⟩, Nat.ble_eq_true_of_le (by omega)⟩

theorem DUp.spend {room : Int} {d : DSt} (h : DUp room d) : d.spend = ({ d with done := w64 (d.done + 1) }, true) := by
  have h1 := h.left; have h2 := h.dead
  cases d
  simp at h1 h2
  subst h1 h2
  rfl

theorem DUp.room_left {room : Int} {d : DSt} (h : DUp room d) (hr : room ≤ 16777216) : w64 (w64 (d.room - d.log.length) - d.snap.length) = room - d.log.length - d.snap.length := by
  have h3 := h.sz; have h4 := h.rm
  simp only [w64]
  rw [wrap_id (n := d.room - d.log.length) (by omega) (by omega), wrap_id (by omega) (by omega), h4]

theorem DUp.append_no {room : Int} {d : DSt} (h : DUp room d) (hr : room ≤ 16777216) {b : List UInt8} (hb : room < d.log.length + d.snap.length + b.length) : d.append b = (d, 16) := by
  have h1 := h.dead
  have h2 : decide (w64 (w64 (d.room - d.log.length) - d.snap.length) < (b.length : Int)) = true := by rw [h.room_left hr]; simp; omega
  simp only [DSt.append, h1, h2, cond_true, cond_false]
theorem DUp.append_yes {room : Int} {d : DSt} (h : DUp room d) (hr : room ≤ 16777216) {b : List UInt8} (hb : (d.log.length : Int) + d.snap.length + b.length ≤ room) :
    d.append b = ({ d with done := w64 (d.done + 1), log := d.log ++ b }, 0) := by
  have h1 := h.dead
  have h2 : decide (w64 (w64 (d.room - d.log.length) - d.snap.length) < (b.length : Int)) = false := by rw [h.room_left hr]; simp; omega
  simp only [DSt.append, h1, h2, h.spend, cond_false, ans, cond_true]
theorem DUp.swap_no {room : Int} {d : DSt} (h : DUp room d) {b : List UInt8} (hb : room < b.length) : d.swap b = (d, 16) := by
  have h1 := h.dead
  have h2 : decide (d.room < (b.length : Int)) = true := by rw [h.rm]; simpa using hb
  simp only [DSt.swap, h1, h2, cond_true, cond_false]
theorem DUp.swap_yes {room : Int} {d : DSt} (h : DUp room d) {b : List UInt8} (hb : (b.length : Int) ≤ room) :
    d.swap b = ({ d with done := w64 (d.done + 1), snap := b, log := [], synced := 0 }, 0) := by
  have h1 := h.dead
  have h2 : decide (d.room < (b.length : Int)) = false := by rw [h.rm]; simpa using hb
  simp only [DSt.swap, h1, h2, h.spend, cond_true, cond_false, ans, Bool.true_or]
theorem DUp.sync {room : Int} {d : DSt} (h : DUp room d) : d.sync = ({ d with done := w64 (d.done + 1), synced := d.log.length }, 0) := by
  have h1 := h.dead
  simp only [DSt.sync, h1, h.spend, cond_true, cond_false, ans]

theorem DUp.appended {room : Int} {d : DSt} (h : DUp room d) {b : List UInt8} (hb : (d.log.length : Int) + d.snap.length + b.length ≤ room) (x : Int) : DUp room { d with done := x, log := d.log ++ b } :=
  ⟨h.left, h.dead, h.rm, h.s0, by have := h.s1; simp; omega, by simp; omega⟩
theorem DUp.swapped {room : Int} {d : DSt} (h : DUp room d) {b : List UInt8} (hb : (b.length : Int) ≤ room) (x : Int) : DUp room { d with done := x, snap := b, log := [], synced := 0 } :=
  ⟨h.left, h.dead, h.rm, Int.le_refl _, by simp, by simpa using hb⟩
theorem newD_up {room : Int} (h : 0 ≤ room) : DUp room (newD room) := ⟨rfl, rfl, rfl, Int.le_refl _, by simp [newD], by simpa [newD] using h⟩

/-- Room that is kept. -/
structure DRm (room : Int) (d : DSt) : Prop where
  rm : d.room = room
  s0 : 0 ≤ d.synced
  s1 : d.synced ≤ d.log.length
  sz : (d.log.length : Int) + d.snap.length ≤ room
theorem DUp.toRm {room : Int} {d : DSt} (h : DUp room d) : DRm room d := ⟨h.rm, h.s0, h.s1, h.sz⟩
theorem DRm.fine {room : Int} {d : DSt} (h : DRm room d) (hr : room ≤ 16777216) : d.fine = true := by
  have h1 := h.s0; have h2 := h.s1; have h3 := h.sz; have h4 := h.rm
  simp only [DSt.fine, Bool.and_eq_true, decide_eq_true_eq]
  exact ⟨⟨⟨⟨h1, h2⟩, by omega⟩, by omega⟩, Nat.ble_eq_true_of_le (by omega)⟩
theorem DRm.left_room {room : Int} {d : DSt} (h : DRm room d) (hr : room ≤ 16777216) : w64 (w64 (d.room - d.log.length) - d.snap.length) = room - d.log.length - d.snap.length := by
  have h3 := h.sz; have h4 := h.rm
  simp only [w64]
  rw [wrap_id (n := d.room - d.log.length) (by omega) (by omega), wrap_id (by omega) (by omega), h4]

theorem DRm.append {room : Int} {d : DSt} (h : DRm room d) (hr : room ≤ 16777216) (b : List UInt8) : DRm room (d.append b).1 ∧ (d.append b).1.snap = d.snap := by
  have h1 := h.s0; have h2 := h.s1; have h3 := h.sz; have h4 := h.rm
  unfold DSt.append
  rw [h.left_room hr]
  cases d.dead
  · cases h5 : decide (room - d.log.length - d.snap.length < (b.length : Int))
    · have h5 : ¬ room - d.log.length - d.snap.length < (b.length : Int) := by simpa using h5
      exact ⟨⟨h4, h1, by show d.synced ≤ ((d.log ++ b).length : Int); simp; omega, by show ((d.log ++ b).length : Int) + d.snap.length ≤ room; simp; omega⟩, rfl⟩
    · exact ⟨h, rfl⟩
  · exact ⟨h, rfl⟩

theorem DRm.stop {room : Int} {d : DSt} (h : DRm room d) (n : Int) : DRm room (d.stop n) := ⟨h.rm, h.s0, h.s1, h.sz⟩

theorem DRm.dfine {room : Int} {d : DSt} (h : DRm room d) (hr : room ≤ 16777216) : DFine d := ⟨h.s0, h.s1, by have := h.sz; have := h.rm; omega, by have := h.rm; omega, by have := h.sz; omega⟩

theorem DRm.crash {room : Int} {d : DSt} (h : DRm room d) (hr : room ≤ 16777216) (n : Int) : DUp room (d.crash n) ∧ (d.crash n).snap = d.snap ∧ ∃ m : Nat, d.synced ≤ m ∧ m ≤ d.log.length ∧ (d.crash n).log = d.log.take m ∧ (d.crash n).synced = m := by
  have h1 := h.s0; have h2 := h.s1; have h3 := h.sz; have h4 := h.rm
  obtain ⟨k0, k1, k2⟩ := kept_bd h1 h2 (by omega) n (kept_D (h.dfine hr) n)
  have e : ((d.log.take (w64 (d.synced + d.kept n)).toNat).length : Int) = d.synced + d.kept n := by
    simp only [w64, k2, List.length_take]; omega
  refine ⟨⟨rfl, rfl, h4, by show 0 ≤ ((d.log.take (w64 (d.synced + d.kept n)).toNat).length : Int); omega, Int.le_refl _, ?_⟩, rfl, (w64 (d.synced + d.kept n)).toNat, ?_, ?_, rfl, ?_⟩
  · show ((d.log.take (w64 (d.synced + d.kept n)).toNat).length : Int) + d.snap.length ≤ room
    omega
  · simp only [w64, k2]; omega
  · simp only [w64, k2]; omega
  · show ((d.log.take (w64 (d.synced + d.kept n)).toNat).length : Int) = _
    rw [e]; simp only [w64, k2]; omega

/-- A swap while the power is to go later. -/
theorem stop_swap_go {room : Int} {d : DSt} (h : DUp room d) {s : Int} (h1 : 1 < s) (h2 : s ≤ 100) {b : List UInt8} (hb : (b.length : Int) ≤ room) :
    (d.stop s).swap b = (⟨s - 1, s.tmod 2, w64 (d.done + 1), false, [], 0, b, d.room⟩, 0) := by
  have e1 : (d.stop s).left = s := by show imax s 0 = s; unfold imax; rw [if_neg (by omega)]
  have e2 : (d.stop s).odd = s.tmod 2 := by show (imax s 0).tmod 2 = _; unfold imax; rw [if_neg (by omega)]
  have e3 : w64 (s - 1) = s - 1 := wrap_id (by omega) (by omega)
  have e4 : (s - 1 == 0) = false := by simp; omega
  have hs : (d.stop s).spend = ({ d.stop s with left := s - 1, dead := false, done := w64 (d.done + 1) }, true) := by
    unfold DSt.spend
    rw [e1, show decide (0 < s) = true by simp; omega]
    simp only [cond_true, e3, e4, cond_false, Bool.not_false]
    rfl
  have h3 : decide ((d.stop s).room < (b.length : Int)) = false := by show decide (d.room < (b.length : Int)) = false; rw [h.rm]; simpa using hb
  have h4 : (d.stop s).dead = false := h.dead
  simp only [DSt.swap, h4, h3, hs, cond_false, cond_true, Bool.true_or, e2, ans]
  rfl
/-- A swap at which the power goes: an odd number. -/
theorem stop_swap_1 {room : Int} {d : DSt} (h : DUp room d) {b : List UInt8} (hb : (b.length : Int) ≤ room) :
    (d.stop 1).swap b = (⟨0, 1, d.done, true, d.log, d.synced, d.snap, d.room⟩, 17) := by
  have hs : (d.stop 1).spend = (⟨0, 1, d.done, true, d.log, d.synced, d.snap, d.room⟩, false) := rfl
  have h3 : decide ((d.stop 1).room < (b.length : Int)) = false := by show decide (d.room < (b.length : Int)) = false; rw [h.rm]; simpa using hb
  have h4 : (d.stop 1).dead = false := h.dead
  have h5 : ((d.stop 1).odd == 0) = false := rfl
  simp only [DSt.swap, h4, h3, hs, cond_false, h5, Bool.or_self, ans]
/-- A stop at nothing. -/
theorem stop_swap_0 {room : Int} {d : DSt} (h : DUp room d) {b : List UInt8} (hb : (b.length : Int) ≤ room) :
    (d.stop 0).swap b = (⟨0, 0, w64 (d.done + 1), false, [], 0, b, d.room⟩, 0) := by
  have h0 : DUp room (d.stop 0) := ⟨rfl, h.dead, h.rm, h.s0, h.s1, h.sz⟩
  rw [h0.swap_yes hb]
  have h4 := h.dead
  have : (d.stop 0).dead = false := h.dead
  rw [this]
  rfl

theorem lv_pre {d : DSt} {xs : List UInt8} {off len : Nat} {cap : Cap} {out : DSt → List UInt8 → OK → QO} (h1 : d.fine = true) (h2 : len ≤ 16777216) (h3 : off + len ≤ xs.length) : (S3 pD out).pre (Lv.mk d xs off len cap) = true := by
  have e1 : Nat.ble len 16777216 = true := Nat.ble_eq_true_of_le h2
  have e2 : Nat.ble (off + len) xs.length = true := Nat.ble_eq_true_of_le h3
  simp [S3, pD, small, h1, e1, e2]

theorem pD_ok {d : DSt} {n : Nat} (h : d.fine = true) (hn : n ≤ 16777216) : pD d n = true := by
  have : Nat.ble n 16777216 = true := Nat.ble_eq_true_of_le hn
  simp [pD, small, h, this]

theorem pR_ok {d : RSt} {n : Nat} (h : d.fine = true) (hn : n ≤ 16777216) : pR d n = true := by
  have : Nat.ble n 16777216 = true := Nat.ble_eq_true_of_le hn
  simp [pR, small, h, this]
theorem lv_all (d : DSt) (b : List UInt8) (cap : Cap) : (Lv.mk d b 0 b.length cap).bytes = b := by simp [Lv.bytes]
end Go.Proofs.Ytaencddffbmdeaa
