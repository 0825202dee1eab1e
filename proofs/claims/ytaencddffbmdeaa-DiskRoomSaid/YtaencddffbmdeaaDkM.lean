/- Plain laws of disks. No conditions. -/
import Derived.Test.YtaencddffbmdeaaDkL
namespace Go.Proofs.Ytaencddffbmdeaa
open Go Go.W Go.Proofs

theorem br {c : Bool} {A B : Prop} (h1 : c = true → A) (h2 : c = false → B) : branch c A B := (branch_iff _ _ _).2 ⟨h1, h2⟩
theorem brT {c : Bool} {A B : Prop} (h : c = true) (a : A) : branch c A B := by subst h; exact a
theorem brF {c : Bool} {A B : Prop} (h : c = false) (b : B) : branch c A B := by subst h; exact b
theorem inc {i : Int} (h0 : -9223372036854775808 ≤ i + 1) (h : i + 1 ≤ 9223372036854775807) : IntKind.i64.wrap (i + 1) = i + 1 := wrap_id h0 h

theorem DUp.fine {room : Int} {d : DSt} (h : DUp room d) (hr : room ≤ 16777216) : d.fine = true := by
  have h1 := h.s0; have h2 := h.s1; have h3 := h.sz; have h4 := h.rm
  simp only [DSt.fine, Bool.and_eq_true, decide_eq_true_eq]
  exact ⟨⟨⟨⟨h1, h2⟩, by omega⟩, by omega⟩, Nat.ble_eq_true_of_le (by omega)⟩

theorem DUp.spend {room : Int} {d : DSt} (h : DUp room d) : d.spend = ({ d with done := w64 (d.done + 1) }, true) := by
  have h1 := h.left; have h2 := h.dead
  cases d
  simp at h1 h2
  subst h1 h2
  rfl

theorem DUp.room_left {room : Int} {d : DSt} (h : DUp room d) (hr : room ≤ 16777216) : w64 (w64 (d.room - d.log.length) - d.snap.length) = room - d.log.length - d.snap.length := by
  have h3 := h.sz; have h4 := h.rm
  simp only [w64]
  rw [wrap_id (n := d.room - d.log.length) (by omega) (by omega), wrap_id (by omega) (by omega), h4]

theorem DUp.append_no {room : Int} {d : DSt} (h : DUp room d) (hr : room ≤ 16777216) {b : List UInt8} (hb : room < d.log.length + d.snap.length + b.length) : d.append b = (d, 16) := by
  have h1 := h.dead
  have h2 : decide (w64 (w64 (d.room - d.log.length) - d.snap.length) < (b.length : Int)) = true := by rw [h.room_left hr]; simp; omega
  simp only [DSt.append, h1, h2, cond_true, cond_false]
theorem DUp.append_yes {room : Int} {d : DSt} (h : DUp room d) (hr : room ≤ 16777216) {b : List UInt8} (hb : (d.log.length : Int) + d.snap.length + b.length ≤ room) :
    d.append b = ({ d with done := w64 (d.done + 1), log := d.log ++ b }, 0) := by
  have h1 := h.dead
  have h2 : decide (w64 (w64 (d.room - d.log.length) - d.snap.length) < (b.length : Int)) = false := by rw [h.room_left hr]; simp; omega
  simp only [DSt.append, h1, h2, h.spend, cond_false, ans, cond_true]
theorem DUp.swap_no {room : Int} {d : DSt} (h : DUp room d) {b : List UInt8} (hb : room < b.length) : d.swap b = (d, 16) := by
  have h1 := h.dead
  have h2 : decide (d.room < (b.length : Int)) = true := by rw [h.rm]; simpa using hb
  simp only [DSt.swap, h1, h2, cond_true, cond_false]
theorem DUp.swap_yes {room : Int} {d : DSt} (h : DUp room d) {b : List UInt8} (hb : (b.length : Int) ≤ room) :
    d.swap b = ({ d with done := w64 (d.done + 1), snap := b, log := [], synced := 0 }, 0) := by
  have h1 := h.dead
  have h2 : decide (d.room < (b.length : Int)) = false := by rw [h.rm]; simpa using hb
  simp only [DSt.swap, h1, h2, h.spend, cond_true, cond_false, ans, Bool.true_or]
theorem DUp.sync {room : Int} {d : DSt} (h : DUp room d) : d.sync = ({ d with done := w64 (d.done + 1), synced := d.log.length }, 0) := by
  have h1 := h.dead
  simp only [DSt.sync, h1, h.spend, cond_true, cond_false, ans]

theorem DUp.appended {room : Int} {d : DSt} (h : DUp room d) {b : List UInt8} (hb : (d.log.length : Int) + d.snap.length + b.length ≤ room) (x : Int) : DUp room { d with done := x, log := d.log ++ b } :=
  ⟨h.left, h.dead, h.rm, h.s0, by have := h.s1; simp; omega, by simp; omega⟩
theorem DUp.swapped {room : Int} {d : DSt} (h : DUp room d) {b : List UInt8} (hb : (b.length : Int) ≤ room) (x : Int) : DUp room { d with done := x, snap := b, log := [], synced := 0 } :=
  ⟨h.left, h.dead, h.rm, Int.le_refl _, by simp, by simpa using hb⟩
theorem newD_up {room : Int} (h : 0 ≤ room) : DUp room (newD room) := ⟨rfl, rfl, rfl, Int.le_refl _, by simp [newD], by simpa [newD] using h⟩
end Go.Proofs.Ytaencddffbmdeaa
