/- DiskStops: its function answers true. No conditions. -/
import Derived.Test.YtaencddffbmdeaaDkM
import Derived.Test.YtaencddffbmdeaaDkL11
namespace Go.Proofs.Ytaencddffbmdeaa
open Go Go.W Go.Proofs

theorem P11.rmD {n : Int} {i ops : Int} {d : DSt} (h : P11 n ⟨i, d, ops⟩) : DRm 50 d := ⟨h.rm, h.s0, h.s1, by have h1 : (d.log.length : Int) ≤ i := h.sl; have h2 : d.snap.length ≤ 2 := h.sn; have h3 : i ≤ 30 := h.i1; omega⟩

/-- What an operation does to a disk that is to stop. -/
structure Went (n ops : Int) (d : DSt) (r : DSt × Int) : Prop where
  e : r.2 = if ops + 1 = n then 17 else 0
  dead : r.1.dead = decide (ops + 1 = n)
  left : r.1.left = n - ops - 1
  done : r.1.done = if ops + 1 = n then ops else ops + 1
  rm : r.1.room = 50
  s0 : 0 ≤ r.1.synced
  s1 : r.1.synced ≤ r.1.log.length
  sl : r.1.log.length ≤ d.log.length + 1
  sn : r.1.snap.length ≤ 2

theorem spend_stop {d : DSt} {n ops : Int} (h1 : d.dead = false) (h2 : d.left = n - ops) (h3 : ops < n) (h4 : d.done = ops) (h0 : 0 ≤ ops) (hn : n ≤ 12) :
    d.spend = ({ d with left := n - ops - 1, dead := decide (ops + 1 = n), done := if ops + 1 = n then ops else ops + 1 }, !decide (ops + 1 = n)) := by
  have hw : w64 (d.left - 1) = n - ops - 1 := by rw [h2]; exact wrap_id (by omega) (by omega)
  have hw2 : w64 (ops + 1) = ops + 1 := wrap_id (by omega) (by omega)
  unfold DSt.spend
  rw [show decide (0 < d.left) = true by rw [h2]; simp; omega]
  simp only [cond_true, hw, hw2, h4]
  have : (n - ops - 1 == 0) = decide (ops + 1 = n) := by
    by_cases hh : ops + 1 = n
    · rw [show n - ops - 1 = 0 by omega]; simp [hh]
    · have : ¬ n - ops - 1 = 0 := by omega
      simp [hh, this]
  rw [this]
  by_cases hh : ops + 1 = n <;> simp [hh, hw2]

section
variable {n : Int} {i ops : Int} {d : DSt}
def Live (n ops : Int) (d : DSt) : Prop := d.dead = false ∧ d.left = n - ops ∧ ops < n ∧ d.done = ops
theorem P11.live (h : P11 n ⟨i, d, ops⟩) (hd : d.dead = false) : Live n ops d := by
  rcases h.st with h1 | h1
  · exact h1
  · have : d.dead = true := h1.1
    rw [hd] at this; cases this

theorem went_append (h : P11 n ⟨i, d, ops⟩) (hi : i < 30) (hl : Live n ops d) (hn : n ≤ 12) (b : UInt8) : Went n ops d (d.append [b]) := by
  have h1 : (d.log.length : Int) ≤ i := h.sl; have h2 : d.snap.length ≤ 2 := h.sn; have h3 := h.s0; have h4 := h.s1
  have hs := spend_stop hl.1 hl.2.1 hl.2.2.1 hl.2.2.2 h.o0 hn
  have e : d.append [b] = ({ d with left := n - ops - 1, dead := decide (ops + 1 = n), done := (if ops + 1 = n then ops else ops + 1), log := d.log ++ [b] }, ans (!decide (ops + 1 = n))) := by
    unfold DSt.append
    rw [h.rmD.left_room (by decide), hl.1, hs, show decide ((50 : Int) - d.log.length - d.snap.length < (([b] : List UInt8).length : Nat)) = false by simp; omega]
    rfl
  rw [e]
  exact ⟨by by_cases hh : ops + 1 = n <;> simp [hh, ans], rfl, rfl, rfl, h.rm, h3, by show d.synced ≤ ((d.log ++ [b]).length : Int); have : d.synced ≤ d.log.length := h4; simp; omega, by simp, h2⟩
theorem went_sync (h : P11 n ⟨i, d, ops⟩) (hl : Live n ops d) (hn : n ≤ 12) : Went n ops d d.sync := by
  have h2 : d.snap.length ≤ 2 := h.sn; have h3 := h.s0; have h4 := h.s1
  have hs := spend_stop hl.1 hl.2.1 hl.2.2.1 hl.2.2.2 h.o0 hn
  unfold DSt.sync
  rw [hl.1, hs]
  by_cases hh : ops + 1 = n
  · simp only [hh, decide_true, Bool.not_true, cond_false, if_true]
    exact ⟨by rw [if_pos hh]; rfl, by simp [hh], by show n - ops - 1 = _; rfl, by rw [if_pos hh], h.rm, h3, h4, Nat.le_succ _, h2⟩
  · simp only [hh, decide_false, Bool.not_false, cond_true, cond_false, if_false]
    exact ⟨by rw [if_neg hh]; rfl, by simp [hh], rfl, by rw [if_neg hh], h.rm, by show (0 : Int) ≤ (d.log.length : Int); omega, Int.le_refl _, Nat.le_succ _, h2⟩
theorem went_swap (h : P11 n ⟨i, d, ops⟩) (hl : Live n ops d) (hn : n ≤ 12) (a b : UInt8) : Went n ops d (d.swap [a, b]) := by
  have h2 : d.snap.length ≤ 2 := h.sn; have h3 := h.s0; have h4 := h.s1
  have hs := spend_stop hl.1 hl.2.1 hl.2.2.1 hl.2.2.2 h.o0 hn
  have hr : d.room = 50 := h.rm
  unfold DSt.swap
  rw [hl.1, hs, hr, show decide ((50 : Int) < (([a, b] : List UInt8).length : Nat)) = false by simp]
  cases hc : (!decide (ops + 1 = n) || d.odd == 0)
  · exact ⟨by by_cases hh : ops + 1 = n <;> simp [hh, ans], rfl, rfl, rfl, rfl, h3, h4, Nat.le_succ _, h2⟩
  · exact ⟨by by_cases hh : ops + 1 = n <;> simp [hh, ans], rfl, rfl, rfl, rfl, Int.le_refl 0, by show (0 : Int) ≤ (([] : List UInt8).length : Nat); simp, Nat.zero_le _, Nat.le_refl 2⟩

theorem Went.e17 {r : DSt × Int} (g : Went n ops d r) : (r.2 == 17) = decide (ops + 1 = n) := by
  rw [g.e]; by_cases hh : ops + 1 = n <;> simp [hh]
theorem Went.e17' {r : DSt × Int} (g : Went n ops d r) (h : (r.2 != 0) = true) : (r.2 != 17) = false := by
  rw [g.e] at h ⊢; by_cases hh : ops + 1 = n <;> simp [hh] at h ⊢

theorem P11.stay (h : P11 n ⟨i, d, ops⟩) (hi : i < 30) : P11 n ⟨i + 1, d, ops⟩ :=
  ⟨h.rm, h.s0, h.s1, by have h1 : (d.log.length : Int) ≤ i := h.sl; show (d.log.length : Int) ≤ i + 1; omega, h.sn, by have h1 : 0 ≤ i := h.i0; show 0 ≤ i + 1; omega, by show i + 1 ≤ 30; omega, h.o0, h.st⟩
theorem P11.next {r : DSt × Int} (h : P11 n ⟨i, d, ops⟩) (hi : i < 30) (hl : Live n ops d) (g : Went n ops d r) : P11 n ⟨i + 1, r.1, ops + 1⟩ := by
  have h1 : (d.log.length : Int) ≤ i := h.sl
  have h2 := g.sl
  refine ⟨g.rm, g.s0, g.s1, by show (r.1.log.length : Int) ≤ i + 1; omega, g.sn, by have h1 : 0 ≤ i := h.i0; show 0 ≤ i + 1; omega, by show i + 1 ≤ 30; omega, by have h1 : 0 ≤ ops := h.o0; show 0 ≤ ops + 1; omega, ?_⟩
  by_cases hh : ops + 1 = n
  · right
    refine ⟨by rw [g.dead]; simpa using hh, by have := g.left; show r.1.left = 0; omega, hh, ?_⟩
    have := g.done
    rw [if_pos hh] at this
    show r.1.done = n - 1
    omega
  · left
    refine ⟨by rw [g.dead]; simpa using hh, by have := g.left; show r.1.left = n - (ops + 1); omega, by have := hl.2.2.1; show ops + 1 < n; omega, ?_⟩
    have := g.done
    rw [if_neg hh] at this
    exact this
end

theorem done_ok {n ops : Int} (h : ops < n) : ((if ops + 1 = n then ops else ops + 1) != if n - 1 < ops + 1 then n - 1 else ops + 1) = false := by
  by_cases hh : ops + 1 = n
  · rw [if_pos hh, if_pos (by omega)]; simp; omega
  · rw [if_neg hh, if_neg (by omega)]; simp

theorem dead_append {d : DSt} (h : d.dead = true) (b : List UInt8) : d.append b = (d, 17) := by unfold DSt.append; rw [h]; rfl
theorem dead_sync {d : DSt} (h : d.dead = true) : d.sync = (d, 17) := by unfold DSt.sync; rw [h]; rfl
theorem dead_swap {d : DSt} (h : d.dead = true) (b : List UInt8) : d.swap b = (d, 17) := by unfold DSt.swap; rw [h]; rfl

theorem full_append {n i ops : Int} {d : DSt} (h : P11 n ⟨i, d, ops⟩) (hd : d.dead = false) (b : List UInt8) (hb : 60 ≤ b.length) : d.append b = (d, 16) := by
  unfold DSt.append
  rw [h.rmD.left_room (by decide), hd, show decide ((50 : Int) - d.log.length - d.snap.length < (b.length : Nat)) = true by simp; omega]
  rfl

theorem ne_dec (a b : Int) : (!(decide (a = b) == (a == b))) = false := by
  by_cases h : a = b <;> simp [h]

theorem stops_ok (n : Int) (kinds : List Int) : ∃ (G : Type) (g : G) (A : _) (L : _) (J : _), awpFun regK Try.prog hd3 1000 A L J g Try.f11 [vi n, .d (.sl 3 kinds)] (fun r => yes r.1) := by
  refine ⟨Option Int, none, fun _ => [], L11 (w64 (1 + wi n 12)) kinds, noJ, ?_⟩
  rw [v11]
  have hw := wi_bd n 12 (by decide) (by decide)
  have en : IntKind.i64.wrap (1 + wi n 12) = 1 + wi n 12 := wrap_id (by omega) (by omega)
  unfold w64
  rw [en]
  obtain ⟨m, hm⟩ : ∃ m, m = 1 + wi n 12 := ⟨_, rfl⟩
  rw [← hm]
  have hm0 : 1 ≤ m := by omega
  have hm1 : m ≤ 12 := by omega
  clear hw en hm
  have hn' : IntKind.i64.wrap (m - 1) = m - 1 := wrap_id (by omega) (by omega)
  refine ⟨⟨⟨⟨0, (newD 50).stop m, 0⟩, ⟨rfl, Int.le_refl 0, by show (0 : Int) ≤ (([] : List UInt8).length : Nat); simp, by show ((([] : List UInt8).length : Nat) : Int) ≤ 0; simp, by show ([] : List UInt8).length ≤ 2; simp, Int.le_refl 0, by show (0 : Int) ≤ 30; decide, Int.le_refl 0, .inl ⟨rfl, by show imax m 0 = m - 0; unfold imax; rw [if_neg (by omega)]; omega, by show (0 : Int) < m; omega, rfl⟩⟩⟩, ⟨rfl, rfl, ⟨rfl, rfl⟩, rfl, rfl, trivial⟩, ⟨⟨⟨rfl, rfl, rfl, rfl, rfl, rfl, rfl, rfl, trivial⟩, trivial⟩, trivial⟩⟩, ?_⟩
  clear n
  revert m
  intro n hm0 hm1 hn'
  rintro ⟨⟨i, d, ops⟩, hP⟩
  have hi0 : 0 ≤ i := hP.i0
  have hi1 : i ≤ 30 := hP.i1
  have ho0 : 0 ≤ ops := hP.o0
  have hrm := hP.rmD
  have hf := hrm.fine (by decide)
  obtain ⟨hUc, _, _⟩ := hrm.crash (by decide) 0
  refine br (fun h1 => ?_) (fun _ => brT hf (brT (hUc.fine (by decide)) rfl))
  have h1 : i < (kinds.length : Int) := of_decide_eq_true h1
  refine br (fun h2 => ?_) (fun _ => brT hf (brT (hUc.fine (by decide)) rfl))
  have h2 : i < 30 := of_decide_eq_true h2
  have hi : IntKind.i64.wrap (i + 1) = i + 1 := inc (by omega) (by omega)
  have hon : ops ≤ n := by
    rcases hP.st with h | h
    · have : ops < n := h.2.2.1; omega
    · have : ops = n := h.2.2.1; omega
  have ho : IntKind.i64.wrap (ops + 1) = ops + 1 := inc (by omega) (by omega)
  have hk := wi_bd (kinds.getD i.toNat 0) 4 (by decide) (by decide)
  have hlp : ∀ (out : DSt → List UInt8 → OK → QO) (b : List UInt8) (c : Cap), b.length ≤ 100 → (S3 pD out).pre (Lv.mk d b 0 b.length c) = true := fun out b c hb => lv_pre hf (by omega) (by omega)
  refine brT (by simp; exact ⟨hi0, h1⟩) (br (fun _ => ?_) (fun k0 => br (fun _ => ?_) (fun k1 => br (fun _ => ?_) (fun k2 => br (fun _ => ?_) (fun k3 => ?_)))))
  · refine brT (hlp _ [UInt8.ofNat 1] _ (by decide)) (br (fun hd => ?_) (fun hd => ?_))
    · rw [dead_append hd]
      exact brF rfl ⟨⟨⟨i + 1, d, ops⟩, hP.stay h2⟩, by show (30 - (i + 1)).toNat < (30 - i).toNat; omega, ⟨rfl, rfl, ⟨rfl, rfl⟩, rfl, hi.symm, trivial⟩, ⟨⟨⟨rfl, rfl, rfl, rfl, rfl, rfl, rfl, rfl, trivial⟩, trivial⟩, trivial⟩⟩
    · have hl := hP.live hd
      have g := went_append hP h2 hl hm1 (UInt8.ofNat 1)
      have hx : ∃ (x' : { x : R11 // P11 n x }), (30 - x'.val.i).toNat < (30 - i).toNat ∧ (n = n ∧ is kinds = is kinds ∧ ((0 : Nat) = (0 : Nat) ∧ (0 : Nat) = (0 : Nat)) ∧ x'.val.ops = IntKind.i64.wrap (ops + 1) ∧ x'.val.i = IntKind.i64.wrap (i + 1) ∧ True) ∧
          ((x'.val.d.left = (d.append [UInt8.ofNat 1]).1.left ∧ x'.val.d.odd = (d.append [UInt8.ofNat 1]).1.odd ∧ x'.val.d.done = (d.append [UInt8.ofNat 1]).1.done ∧ x'.val.d.dead = (d.append [UInt8.ofNat 1]).1.dead ∧ bs x'.val.d.log = bs (d.append [UInt8.ofNat 1]).1.log ∧ x'.val.d.synced = (d.append [UInt8.ofNat 1]).1.synced ∧ bs x'.val.d.snap = bs (d.append [UInt8.ofNat 1]).1.snap ∧ x'.val.d.room = (d.append [UInt8.ofNat 1]).1.room ∧ True) ∧ True) ∧ True :=
        ⟨⟨⟨i + 1, (d.append [UInt8.ofNat 1]).1, ops + 1⟩, hP.next h2 hl g⟩, by show (30 - (i + 1)).toNat < (30 - i).toNat; omega, ⟨rfl, rfl, ⟨rfl, rfl⟩, ho.symm, hi.symm, trivial⟩, ⟨⟨⟨rfl, rfl, rfl, rfl, rfl, rfl, rfl, rfl, trivial⟩, trivial⟩, trivial⟩⟩
      refine brF (by rw [g.e17, ho]; exact ne_dec _ _) (brF (by rw [g.dead, ho]; exact ne_dec _ _) (brF (by rw [g.done, ho, hn']; exact done_ok hl.2.2.1) ?_))
      exact br (fun h0 => brF (g.e17' h0) hx) (fun _ => hx)
  · refine brT hf (br (fun hd => ?_) (fun hd => ?_))
    · rw [dead_sync hd]
      exact brF rfl ⟨⟨⟨i + 1, d, ops⟩, hP.stay h2⟩, by show (30 - (i + 1)).toNat < (30 - i).toNat; omega, ⟨rfl, rfl, ⟨rfl, rfl⟩, rfl, hi.symm, trivial⟩, ⟨⟨⟨rfl, rfl, rfl, rfl, rfl, rfl, rfl, rfl, trivial⟩, trivial⟩, trivial⟩⟩
    · have hl := hP.live hd
      have g := went_sync hP hl hm1
      have hx : ∃ (x' : { x : R11 // P11 n x }), (30 - x'.val.i).toNat < (30 - i).toNat ∧ (n = n ∧ is kinds = is kinds ∧ ((0 : Nat) = (0 : Nat) ∧ (0 : Nat) = (0 : Nat)) ∧ x'.val.ops = IntKind.i64.wrap (ops + 1) ∧ x'.val.i = IntKind.i64.wrap (i + 1) ∧ True) ∧
          ((x'.val.d.left = (d.sync).1.left ∧ x'.val.d.odd = (d.sync).1.odd ∧ x'.val.d.done = (d.sync).1.done ∧ x'.val.d.dead = (d.sync).1.dead ∧ bs x'.val.d.log = bs (d.sync).1.log ∧ x'.val.d.synced = (d.sync).1.synced ∧ bs x'.val.d.snap = bs (d.sync).1.snap ∧ x'.val.d.room = (d.sync).1.room ∧ True) ∧ True) ∧ True :=
        ⟨⟨⟨i + 1, (d.sync).1, ops + 1⟩, hP.next h2 hl g⟩, by show (30 - (i + 1)).toNat < (30 - i).toNat; omega, ⟨rfl, rfl, ⟨rfl, rfl⟩, ho.symm, hi.symm, trivial⟩, ⟨⟨⟨rfl, rfl, rfl, rfl, rfl, rfl, rfl, rfl, trivial⟩, trivial⟩, trivial⟩⟩
      refine brF (by rw [g.e17, ho]; exact ne_dec _ _) (brF (by rw [g.dead, ho]; exact ne_dec _ _) (brF (by rw [g.done, ho, hn']; exact done_ok hl.2.2.1) ?_))
      exact br (fun h0 => brF (g.e17' h0) hx) (fun _ => hx)
  · refine brT (hlp _ [UInt8.ofNat 2, UInt8.ofNat 3] _ (by decide)) (br (fun hd => ?_) (fun hd => ?_))
    · rw [dead_swap hd]
      exact brF rfl ⟨⟨⟨i + 1, d, ops⟩, hP.stay h2⟩, by show (30 - (i + 1)).toNat < (30 - i).toNat; omega, ⟨rfl, rfl, ⟨rfl, rfl⟩, rfl, hi.symm, trivial⟩, ⟨⟨⟨rfl, rfl, rfl, rfl, rfl, rfl, rfl, rfl, trivial⟩, trivial⟩, trivial⟩⟩
    · have hl := hP.live hd
      have g := went_swap hP hl hm1 (UInt8.ofNat 2) (UInt8.ofNat 3)
      have hx : ∃ (x' : { x : R11 // P11 n x }), (30 - x'.val.i).toNat < (30 - i).toNat ∧ (n = n ∧ is kinds = is kinds ∧ ((0 : Nat) = (0 : Nat) ∧ (0 : Nat) = (0 : Nat)) ∧ x'.val.ops = IntKind.i64.wrap (ops + 1) ∧ x'.val.i = IntKind.i64.wrap (i + 1) ∧ True) ∧
          ((x'.val.d.left = (d.swap [UInt8.ofNat 2, UInt8.ofNat 3]).1.left ∧ x'.val.d.odd = (d.swap [UInt8.ofNat 2, UInt8.ofNat 3]).1.odd ∧ x'.val.d.done = (d.swap [UInt8.ofNat 2, UInt8.ofNat 3]).1.done ∧ x'.val.d.dead = (d.swap [UInt8.ofNat 2, UInt8.ofNat 3]).1.dead ∧ bs x'.val.d.log = bs (d.swap [UInt8.ofNat 2, UInt8.ofNat 3]).1.log ∧ x'.val.d.synced = (d.swap [UInt8.ofNat 2, UInt8.ofNat 3]).1.synced ∧ bs x'.val.d.snap = bs (d.swap [UInt8.ofNat 2, UInt8.ofNat 3]).1.snap ∧ x'.val.d.room = (d.swap [UInt8.ofNat 2, UInt8.ofNat 3]).1.room ∧ True) ∧ True) ∧ True :=
        ⟨⟨⟨i + 1, (d.swap [UInt8.ofNat 2, UInt8.ofNat 3]).1, ops + 1⟩, hP.next h2 hl g⟩, by show (30 - (i + 1)).toNat < (30 - i).toNat; omega, ⟨rfl, rfl, ⟨rfl, rfl⟩, ho.symm, hi.symm, trivial⟩, ⟨⟨⟨rfl, rfl, rfl, rfl, rfl, rfl, rfl, rfl, trivial⟩, trivial⟩, trivial⟩⟩
      refine brF (by rw [g.e17, ho]; exact ne_dec _ _) (brF (by rw [g.dead, ho]; exact ne_dec _ _) (brF (by rw [g.done, ho, hn']; exact done_ok hl.2.2.1) ?_))
      exact br (fun h0 => brF (g.e17' h0) hx) (fun _ => hx)
  · refine brT (hlp _ _ _ (by decide)) (br (fun hd => ?_) (fun hd => ?_))
    · have hd : d.dead = false := by simpa using hd
      rw [full_append hP hd _ (by decide)]
      exact brF rfl (brF hd ⟨⟨⟨i + 1, d, ops⟩, hP.stay h2⟩, by show (30 - (i + 1)).toNat < (30 - i).toNat; omega, ⟨rfl, rfl, ⟨rfl, rfl⟩, rfl, hi.symm, trivial⟩, ⟨⟨⟨rfl, rfl, rfl, rfl, rfl, rfl, rfl, rfl, trivial⟩, trivial⟩, trivial⟩⟩)
    · have hd : d.dead = true := by simpa using hd
      rw [dead_append hd]
      exact ⟨⟨⟨i + 1, d, ops⟩, hP.stay h2⟩, by show (30 - (i + 1)).toNat < (30 - i).toNat; omega, ⟨rfl, rfl, ⟨rfl, rfl⟩, rfl, hi.symm, trivial⟩, ⟨⟨⟨rfl, rfl, rfl, rfl, rfl, rfl, rfl, rfl, trivial⟩, trivial⟩, trivial⟩⟩
  · exfalso
    have k0 : ¬ wi (kinds.getD i.toNat 0) 4 = 0 := by simpa using k0
    have k1 : ¬ wi (kinds.getD i.toNat 0) 4 = 1 := by simpa using k1
    have k2 : ¬ wi (kinds.getD i.toNat 0) 4 = 2 := by simpa using k2
    have k3 : ¬ wi (kinds.getD i.toNat 0) 4 = 3 := by simpa using k3
    omega
end Go.Proofs.Ytaencddffbmdeaa
