/- DiskPlays: its function answers true. No conditions. -/
import Derived.Test.YtaencddffbmdeaaDkM
import Derived.Test.YtaencddffbmdeaaDkL12
namespace Go.Proofs.Ytaencddffbmdeaa
open Go Go.W Go.Proofs

structure SG (d : DSt) (x : RSt) : Prop where
  left : d.spend.1.left = x.goes.1.left
  dead : d.spend.1.dead = x.goes.1.dead
  ok : d.spend.2 = !x.goes.1.dead
  went : x.goes.2 = x.goes.1.dead
  done : d.spend.1.done = bif x.goes.1.dead then x.goes.1.done else w64 (x.goes.1.done + 1)
  l0 : 0 ≤ d.spend.1.left
  l1 : d.spend.1.left ≤ 9223372036854775807
  pos : 0 < d.spend.1.left → 0 < d.left
  wpos : x.goes.2 = true → 0 < d.left
theorem Sim.sg {d : DSt} {x : RSt} (h : Sim d x) (hd : d.dead = false) : SG d x := by
  have h0 := h.l0; have h1 := h.l1; have hl := h.left; have hdn := h.done; have hxd : x.dead = false := h.dead ▸ hd
  by_cases hz : d.left = 0
  · have hx : (x.left == 0) = true := by rw [← hl, hz]; rfl
    have es : d.spend = ({ d with done := w64 (d.done + 1) }, true) := by
      unfold DSt.spend; rw [hz, hd]; rfl
    have eg : x.goes = (x, false) := by unfold RSt.goes; rw [hx]; rfl
    rw [hz] at hl
    exact ⟨by rw [es, eg]; exact hz.trans hl, by rw [es, eg]; exact h.dead, by rw [es, eg]; simp [hxd], by rw [eg, hxd], by rw [es, eg]; simp [hxd, hdn], by rw [es]; exact h0, by rw [es]; exact h1, fun hp => by rw [es] at hp; exact hp, fun hp => by rw [eg] at hp; cases hp⟩
  · have hx : (x.left == 0) = false := by rw [← hl]; simpa using hz
    have hw : w64 (d.left - 1) = d.left - 1 := wrap_id (by omega) (by omega)
    have hw' : w64 (x.left - 1) = d.left - 1 := by rw [← hl]; exact hw
    have es : d.spend = ({ d with left := d.left - 1, dead := d.left - 1 == 0, done := bif d.left - 1 == 0 then d.done else w64 (d.done + 1) }, !(d.left - 1 == 0)) := by
      unfold DSt.spend
      rw [show decide (0 < d.left) = true by simp; omega]
      simp only [cond_true, hw]
    have eg : x.goes = ({ x with left := d.left - 1, dead := d.left - 1 == 0 }, d.left - 1 == 0) := by
      unfold RSt.goes; rw [hx]; simp only [cond_false, hw']
    exact ⟨by rw [es, eg], by rw [es, eg], by rw [es, eg], by rw [eg], by rw [es, eg]; simp [hdn], by rw [es]; show 0 ≤ d.left - 1; omega, by rw [es]; show d.left - 1 ≤ _; omega, fun _ => by omega, fun _ => by omega⟩

theorem goes_odd (d : DSt) : d.spend.1.odd = d.odd := rfl
theorem ans_eq (c : Bool) : ans (!c) = bif c then 17 else 0 := by cases c <;> rfl

theorem Sim.append {d : DSt} {x : RSt} (h : Sim d x) {b : List UInt8} (hb : b.length ≤ 500) : (d.append b).2 = (x.append b).2 ∧ Sim (d.append b).1 (x.append b).1 := by
  have h1 := h.s0; have h2 := h.s1; have h3 := h.sz; have h4 := h.r1; have h5 := h.r0
  unfold DSt.append RSt.append
  rw [← h.dead, ← h.rm, ← h.log, ← h.snap]
  cases hd : d.dead
  · have e1 : w64 (w64 (d.room - d.log.length) - d.snap.length) = d.room - d.log.length - d.snap.length := by
      simp only [w64]; rw [wrap_id (n := d.room - d.log.length) (by omega) (by omega), wrap_id (by omega) (by omega)]
    have e2 : w64 (w64 ((d.log.length : Int) + d.snap.length) + b.length) = d.log.length + d.snap.length + b.length := by
      simp only [w64]; rw [wrap_id (n := (d.log.length : Int) + d.snap.length) (by omega) (by omega), wrap_id (by omega) (by omega)]
    rw [e1, e2]
    by_cases hf : d.room - d.log.length - d.snap.length < (b.length : Int)
    · rw [show decide (d.room - d.log.length - d.snap.length < (b.length : Int)) = true by simpa using hf, show decide (d.room < (d.log.length : Int) + d.snap.length + b.length) = true by simp; omega]
      exact ⟨rfl, h⟩
    · rw [show decide (d.room - d.log.length - d.snap.length < (b.length : Int)) = false by simpa using hf, show decide (d.room < (d.log.length : Int) + d.snap.length + b.length) = false by simp; omega]
      have g := h.sg hd
      simp only [cond_false]
      have key : ∀ c, x.goes.1.dead = c → ans d.spend.2 = ({ x.goes.1 with log := d.log ++ b } : RSt).end_.2 ∧ Sim { d.spend.1 with log := d.log ++ b } ({ x.goes.1 with log := d.log ++ b } : RSt).end_.1 := by
        intro c hc
        have hk : ans d.spend.2 = bif c then 17 else 0 := by rw [g.ok, hc, ans_eq]
        have e : ({ x.goes.1 with log := d.log ++ b } : RSt).end_ = ({ x.goes.1 with log := d.log ++ b, done := bif c then x.goes.1.done else w64 (x.goes.1.done + 1) }, bif c then 17 else 0) := by
          unfold RSt.end_
          simp only [hc]
          cases c
          · rfl
          · rfl
        rw [e]
        refine ⟨hk, ⟨?_, h5, h4, rfl, ?_, ?_, g.dead, ?_, g.left, g.l0, g.l1, fun hp => ?_, h1, ?_, ?_⟩⟩
        · exact h.rm.trans (goes_room x).symm
        · exact h.synced.trans (goes_synced x).symm
        · exact h.snap.trans (goes_snap x).symm
        · show d.spend.1.done = _; rw [g.done, hc]
        · show (d.odd == 0) = x.goes.1.even; rw [goes_even]; exact h.even (g.pos hp)
        · show d.synced ≤ ((d.log ++ b).length : Int); simp; omega
        · show ((d.log ++ b).length : Int) + d.snap.length ≤ d.room; simp; omega
      exact key _ rfl
  · exact ⟨rfl, h⟩

theorem Sim.sync {d : DSt} {x : RSt} (h : Sim d x) : d.sync.2 = x.sync.2 ∧ Sim d.sync.1 x.sync.1 := by
  have h1 := h.s0; have h2 := h.s1; have h3 := h.sz; have h4 := h.r1; have h5 := h.r0
  unfold DSt.sync RSt.sync
  rw [← h.dead]
  cases hd : d.dead
  · have g := h.sg hd
    simp only [cond_false]
    rw [g.went, g.ok]
    have key : ∀ c, x.goes.1.dead = c → ans (!c) = (bif c then x.goes.1 else { x.goes.1 with synced := (x.log.length : Int) } : RSt).end_.2 ∧
        Sim (bif !c then { d.spend.1 with synced := (d.log.length : Int) } else d.spend.1) (bif c then x.goes.1 else { x.goes.1 with synced := (x.log.length : Int) } : RSt).end_.1 := by
      intro c hc
      have hdn := g.done
      rw [hc] at hdn
      cases c
      · have e : ({ x.goes.1 with synced := (x.log.length : Int) } : RSt).end_ = ({ x.goes.1 with synced := (x.log.length : Int), done := w64 (x.goes.1.done + 1) }, 0) := by unfold RSt.end_; simp only [hc]; rfl
        simp only [cond_false, Bool.not_false, cond_true]
        rw [e]
        refine ⟨rfl, ⟨h.rm.trans (goes_room x).symm, h5, h4, h.log.trans (goes_log x).symm, ?_, h.snap.trans (goes_snap x).symm, g.dead, hdn, g.left, g.l0, g.l1, fun hp => ?_, ?_, Int.le_refl _, h3⟩⟩
        · show (d.log.length : Int) = x.log.length; rw [h.log]
        · show (d.odd == 0) = x.goes.1.even; rw [goes_even]; exact h.even (g.pos hp)
        · show (0 : Int) ≤ (d.log.length : Int); omega
      · have e : x.goes.1.end_ = (x.goes.1, 17) := by unfold RSt.end_; rw [hc]; rfl
        simp only [cond_true, Bool.not_true, cond_false]
        rw [e]
        refine ⟨rfl, ⟨h.rm.trans (goes_room x).symm, h5, h4, h.log.trans (goes_log x).symm, h.synced.trans (goes_synced x).symm, h.snap.trans (goes_snap x).symm, g.dead, hdn, g.left, g.l0, g.l1, fun hp => ?_, h1, h2, h3⟩⟩
        show (d.odd == 0) = x.goes.1.even; rw [goes_even]; exact h.even (g.pos hp)
    exact key _ rfl
  · exact ⟨rfl, h⟩

theorem Sim.swap {d : DSt} {x : RSt} (h : Sim d x) (b : List UInt8) : (d.swap b).2 = (x.swap b).2 ∧ Sim (d.swap b).1 (x.swap b).1 := by
  have h1 := h.s0; have h2 := h.s1; have h3 := h.sz; have h4 := h.r1; have h5 := h.r0
  unfold DSt.swap RSt.swap
  rw [← h.dead, ← h.rm]
  cases hd : d.dead
  · simp only [cond_false]
    by_cases hf : d.room < (b.length : Int)
    · rw [show decide (d.room < (b.length : Int)) = true by simpa using hf]
      exact ⟨rfl, h⟩
    · rw [show decide (d.room < (b.length : Int)) = false by simpa using hf]
      have g := h.sg hd
      simp only [cond_false]
      rw [g.ok]
      have hev : (!x.goes.1.dead || d.odd == 0) = (!x.goes.2 || x.even) := by
        rw [g.went]
        cases hc : x.goes.1.dead
        · rfl
        · simp only [Bool.not_true, Bool.false_or]
          exact h.even (g.wpos (g.went.trans hc))
      rw [hev]
      have hdn := g.done
      have key : ∀ c s, x.goes.1.dead = c → ans (!c) = (bif s then { x.goes.1 with snap := b, log := [], synced := 0 } else x.goes.1 : RSt).end_.2 ∧
          Sim (bif s then { d.spend.1 with snap := b, log := [], synced := 0 } else d.spend.1) (bif s then { x.goes.1 with snap := b, log := [], synced := 0 } else x.goes.1 : RSt).end_.1 := by
        intro c s hc
        rw [hc] at hdn
        have evp : 0 < d.spend.1.left → (d.odd == 0) = x.goes.1.even := fun hp => by rw [goes_even]; exact h.even (g.pos hp)
        have hlen : (b.length : Int) ≤ d.room := by omega
        cases s
        · simp only [cond_false]
          have e : x.goes.1.end_ = ({ x.goes.1 with done := bif c then x.goes.1.done else w64 (x.goes.1.done + 1) }, bif c then 17 else 0) := by
            generalize x.goes.1 = y at hc
            obtain ⟨a1, a2, a3, a4, a5, a6, a7, a8⟩ := y
            have hc : a7 = c := hc
            subst hc
            cases a7 <;> rfl
          rw [e]
          exact ⟨ans_eq c, ⟨h.rm.trans (goes_room x).symm, h5, h4, h.log.trans (goes_log x).symm, h.synced.trans (goes_synced x).symm, h.snap.trans (goes_snap x).symm, g.dead, hdn, g.left, g.l0, g.l1, evp, h1, h2, h3⟩⟩
        · simp only [cond_true]
          have e : ({ x.goes.1 with snap := b, log := [], synced := 0 } : RSt).end_ = ({ x.goes.1 with snap := b, log := [], synced := 0, done := bif c then x.goes.1.done else w64 (x.goes.1.done + 1) }, bif c then 17 else 0) := by
            unfold RSt.end_; simp only [hc]; cases c
            · rfl
            · rfl
          rw [e]
          exact ⟨ans_eq c, ⟨h.rm.trans (goes_room x).symm, h5, h4, rfl, rfl, rfl, g.dead, hdn, g.left, g.l0, g.l1, evp, Int.le_refl 0, by show (0 : Int) ≤ (([] : List UInt8).length : Int); simp, by show ((([] : List UInt8).length : Nat) : Int) + b.length ≤ d.room; simpa using hlen⟩⟩
      exact key _ _ rfl
  · exact ⟨rfl, h⟩

theorem Sim.stop {d : DSt} {x : RSt} (h : Sim d x) {n : Int} (hn : n ≤ 9223372036854775807) : Sim (d.stop n) (x.stop n) := by
  refine ⟨h.rm, h.r0, h.r1, h.log, h.synced, h.snap, h.dead, h.done, rfl, ?_, ?_, fun hp => ?_, h.s0, h.s1, h.sz⟩
  · show 0 ≤ imax n 0; unfold imax; split <;> omega
  · show imax n 0 ≤ _; unfold imax; split <;> omega
  · have hp : 0 < imax n 0 := hp
    show ((imax n 0).tmod 2 == 0) = (n.tmod 2 == 0)
    have : imax n 0 = n := by unfold imax at hp ⊢; split at hp <;> first | omega | (rw [if_neg (by omega)])
    rw [this]
theorem Sim.dfine {d : DSt} {x : RSt} (h : Sim d x) : DFine d := ⟨h.s0, h.s1, by have := h.r0; omega, h.r1, by have := h.sz; have := h.r1; omega⟩
theorem Sim.rfine {d : DSt} {x : RSt} (h : Sim d x) : RFine x := by
  refine ⟨?_, ?_, ?_, ?_, ?_⟩
  · rw [← h.synced]; exact h.s0
  · rw [← h.synced, ← h.log]; exact h.s1
  · rw [← h.rm]; have := h.r0; omega
  · rw [← h.rm]; exact h.r1
  · rw [← h.log, ← h.snap]; have := h.sz; have := h.r1; omega
theorem Sim.fineD {d : DSt} {x : RSt} (h : Sim d x) : d.fine = true := by
  have g := h.dfine
  simp only [DSt.fine, Bool.and_eq_true, decide_eq_true_eq]
  exact ⟨⟨⟨⟨g.s0, g.s1⟩, g.r0⟩, g.r1⟩, Nat.ble_eq_true_of_le g.sz⟩
theorem Sim.fineR {d : DSt} {x : RSt} (h : Sim d x) : x.fine = true := by
  have g := h.rfine
  simp only [RSt.fine, Bool.and_eq_true, decide_eq_true_eq]
  exact ⟨⟨⟨⟨g.s0, g.s1⟩, g.r0⟩, g.r1⟩, Nat.ble_eq_true_of_le g.sz⟩
theorem Sim.crash {d : DSt} {x : RSt} (h : Sim d x) (n : Int) : d.kept n = x.kept n ∧ Sim (d.crash n) (x.crash n) := by
  have hk : d.kept n = x.kept n := by rw [kept_D h.dfine, kept_R h.rfine, h.log, h.synced]
  refine ⟨hk, ?_⟩
  have g : DRm d.room d := ⟨rfl, h.s0, h.s1, h.sz⟩
  obtain ⟨hU, _, _⟩ := g.crash h.r1 n
  have hl : (d.crash n).log = (x.crash n).log := by
    show d.log.take (w64 (d.synced + d.kept n)).toNat = x.log.take (w64 (x.synced + x.kept n)).toNat
    rw [h.log, h.synced, hk]
  refine ⟨h.rm, h.r0, h.r1, hl, ?_, h.snap, rfl, h.done, rfl, Int.le_refl 0, by show (0 : Int) ≤ 9223372036854775807; decide, fun hp => absurd hp (by show ¬ (0 : Int) < 0; omega), hU.s0, hU.s1, hU.sz⟩
  show ((d.crash n).log.length : Int) = ((x.crash n).log.length : Int)
  rw [hl]
theorem new_sim {room : Int} (h : inR room = true) : Sim (newD room) (newR room) := by
  simp [inR] at h
  exact ⟨rfl, h.1, h.2, rfl, rfl, rfl, rfl, rfl, rfl, Int.le_refl 0, by show (0 : Int) ≤ 9223372036854775807; decide, fun hp => absurd hp (by show ¬ (0 : Int) < 0; omega), Int.le_refl 0, by show (0 : Int) ≤ (([] : List UInt8).length : Int); simp, by show ((([] : List UInt8).length : Nat) : Int) + (([] : List UInt8).length : Nat) ≤ room; simp; omega⟩

theorem plays_ok (room : Int) (calls : List Cl) (hcs : ∀ c ∈ calls, c.n ≤ 9223372036854775807) : ∃ (G : Type) (g : G) (A : _) (L : _) (J : _), awpFun regK Try.prog hd3 1000 A L J g Try.f12 [vi room, .d (.sl 62 calls)] (fun r => yes r.1) := by
  refine ⟨Option Int, none, fun _ => [], L12 calls, J12 calls, ?_⟩
  rw [v12]
  refine br (fun hr => ?_) (fun hr => brF hr rfl)
  refine brT hr ⟨⟨⟨⟨0, newD room, newR room⟩, new_sim hr, Int.le_refl 0, show (0 : Int) ≤ 100 by decide⟩, ⟨rfl, ⟨rfl, rfl⟩, ⟨rfl, rfl⟩, rfl, trivial⟩, ⟨⟨⟨rfl, rfl, rfl, rfl, rfl, rfl, rfl, rfl, trivial⟩, trivial⟩, ⟨⟨rfl, rfl, rfl, rfl, rfl, rfl, rfl, rfl, trivial⟩, trivial⟩, trivial⟩⟩, ?_⟩
  rintro ⟨⟨i, d, x⟩, (hS : Sim d x), (hi0 : 0 ≤ i), (hi1 : i ≤ 100)⟩
  refine br (fun h1 => ?_) (fun _ => rfl)
  have h1 : i < (calls.length : Int) := of_decide_eq_true h1
  refine br (fun h2 => ?_) (fun _ => rfl)
  have h2 : i < 100 := of_decide_eq_true h2
  have hix : (decide ((0 : Int) ≤ i) && decide (i < (↑calls.length : Int)) && true && true) = true := by simp; exact ⟨hi0, h1⟩
  have hi : IntKind.i64.wrap (i + 1) = i + 1 := inc (by omega) (by omega)
  refine brT hix (br (fun _ => ?_) (fun h3 => ?_))
  · exact ⟨⟨⟨i + 1, d, x⟩, hS, by show 0 ≤ i + 1; omega, by show i + 1 ≤ 100; omega⟩, by show (100 - (i + 1)).toNat < (100 - i).toNat; omega, ⟨rfl, ⟨rfl, rfl⟩, ⟨rfl, rfl⟩, hi.symm, trivial⟩, ⟨⟨⟨rfl, rfl, rfl, rfl, rfl, rfl, rfl, rfl, trivial⟩, trivial⟩, ⟨⟨rfl, rfl, rfl, rfl, rfl, rfl, rfl, rfl, trivial⟩, trivial⟩, trivial⟩⟩
  have hmem : calls.getD i.toNat (Cl.mk 0 0 []) ∈ calls := by
    have : i.toNat < calls.length := by omega
    rw [List.getD_eq_getElem?_getD, List.getElem?_eq_getElem this]
    exact List.getElem_mem this
  have hn := hcs _ hmem
  obtain ⟨c, hc⟩ : ∃ c, c = calls.getD i.toNat (Cl.mk 0 0 []) := ⟨_, rfl⟩
  have hdf : regK.dflt (62 : Nat) = Cl.mk 0 0 [] := rfl
  rw [← hc] at h3 hn
  have h3 : c.b.length ≤ 500 := by have := of_decide_eq_false h3; omega
  refine ⟨br (fun h4 => brT h4 ?_) (fun _ => brT (by rw [← hc]; simp; omega) ?_), ?_⟩
  · have h4 : c.b = [] := by
      have h4 : 0 + c.b.length ≤ 0 := by rw [hc]; exact Nat.le_of_ble_eq_true h4
      exact List.length_eq_zero_iff.1 (by omega)
    rw [← hc]
    exact ⟨⟨⟨i, d, x, c⟩, rfl, hS, hi0, h2, h1, h3, hn⟩, ⟨rfl, ⟨rfl, rfl⟩, ⟨rfl, rfl⟩, rfl, ⟨rfl, rfl⟩, ⟨rfl, (Nat.zero_add _).symm, Nat.zero_le _⟩, trivial⟩, ⟨⟨⟨rfl, rfl, rfl, rfl, rfl, rfl, rfl, rfl, trivial⟩, trivial⟩, ⟨⟨rfl, rfl, rfl, rfl, rfl, rfl, rfl, rfl, trivial⟩, trivial⟩, ⟨⟨rfl, rfl, rfl, trivial⟩, trivial⟩, by simp [setRange, h4], trivial⟩⟩
  · rw [← hc]
    exact ⟨⟨⟨i, d, x, c⟩, rfl, hS, hi0, h2, h1, h3, hn⟩, ⟨rfl, ⟨rfl, rfl⟩, ⟨rfl, rfl⟩, rfl, ⟨rfl, rfl⟩, ⟨rfl, (Nat.zero_add _).symm, Nat.zero_le _⟩, trivial⟩, ⟨⟨⟨rfl, rfl, rfl, rfl, rfl, rfl, rfl, rfl, trivial⟩, trivial⟩, ⟨⟨rfl, rfl, rfl, rfl, rfl, rfl, rfl, rfl, trivial⟩, trivial⟩, ⟨⟨rfl, rfl, rfl, trivial⟩, trivial⟩, rfl, trivial⟩⟩
  rintro ⟨⟨i2, d, x, c⟩, (hg : some i = some i2), (hS : Sim d x), (hi0 : 0 ≤ i2), (hi1 : i2 < 100), (hi2 : i2 < (calls.length : Int)), (hb : c.b.length ≤ 500), (hn : c.n ≤ 9223372036854775807)⟩
  have hg : i = i2 := by cases hg; rfl
  subst hg
  have hk0 : (0 : Int) ≤ (c.b.length : Nat) := by omega
  refine ⟨?_, ?_⟩
  · refine br (fun _ => ?_) (fun _ => br (fun _ => ?_) (fun _ => br (fun _ => ?_) (fun _ => br (fun _ => ?_) (fun _ => br (fun _ => ?_) (fun _ => br (fun _ => ?_) (fun _ => ?_))))))
    · refine brT (lv_pre hS.fineD (show c.b.length ≤ 16777216 by omega) (show 0 + c.b.length ≤ c.b.length by omega)) (brT (pR_ok hS.fineR (show c.b.length ≤ 16777216 by omega)) ?_)
      rw [lv_all]
      obtain ⟨e1, e2⟩ := hS.append hb
      refine brF (by rw [e1]; simp) ?_
      exact ⟨⟨⟨i, (d.append c.b).1, (x.append c.b).1, c.b, c.b.length, 0⟩, rfl, e2, hi0, hi1, Nat.le_refl _, hb, Int.le_refl 0, hk0⟩, ⟨rfl, ⟨rfl, rfl⟩, ⟨rfl, rfl⟩, rfl, ⟨rfl, rfl, Nat.le_refl 0⟩, trivial⟩, ⟨⟨⟨rfl, rfl, rfl, rfl, rfl, rfl, rfl, rfl, trivial⟩, trivial⟩, ⟨⟨rfl, rfl, rfl, rfl, rfl, rfl, rfl, rfl, trivial⟩, trivial⟩, rfl, trivial⟩⟩
    · refine brT (lv_pre hS.fineD (show c.b.length ≤ 16777216 by omega) (show 0 + c.b.length ≤ c.b.length by omega)) (brT (pR_ok hS.fineR (show c.b.length ≤ 16777216 by omega)) ?_)
      rw [lv_all]
      obtain ⟨e1, e2⟩ := hS.append hb
      refine brF (by rw [e1]; simp) ?_
      exact ⟨⟨⟨i, (d.append c.b).1, (x.append c.b).1, c.b, c.b.length, 0⟩, rfl, e2, hi0, hi1, Nat.le_refl _, hb, Int.le_refl 0, hk0⟩, ⟨rfl, ⟨rfl, rfl⟩, ⟨rfl, rfl⟩, rfl, ⟨rfl, rfl, Nat.le_refl 0⟩, trivial⟩, ⟨⟨⟨rfl, rfl, rfl, rfl, rfl, rfl, rfl, rfl, trivial⟩, trivial⟩, ⟨⟨rfl, rfl, rfl, rfl, rfl, rfl, rfl, rfl, trivial⟩, trivial⟩, rfl, trivial⟩⟩
    · refine brT hS.fineD (brT hS.fineR ?_)
      obtain ⟨e1, e2⟩ := hS.sync
      refine brF (by rw [e1]; simp) ?_
      exact ⟨⟨⟨i, d.sync.1, x.sync.1, c.b, c.b.length, 0⟩, rfl, e2, hi0, hi1, Nat.le_refl _, hb, Int.le_refl 0, hk0⟩, ⟨rfl, ⟨rfl, rfl⟩, ⟨rfl, rfl⟩, rfl, ⟨rfl, rfl, Nat.le_refl 0⟩, trivial⟩, ⟨⟨⟨rfl, rfl, rfl, rfl, rfl, rfl, rfl, rfl, trivial⟩, trivial⟩, ⟨⟨rfl, rfl, rfl, rfl, rfl, rfl, rfl, rfl, trivial⟩, trivial⟩, rfl, trivial⟩⟩
    · exact ⟨⟨⟨i, d.stop c.n, x.stop c.n, c.b, c.b.length, 0⟩, rfl, hS.stop hn, hi0, hi1, Nat.le_refl _, hb, Int.le_refl 0, hk0⟩, ⟨rfl, ⟨rfl, rfl⟩, ⟨rfl, rfl⟩, rfl, ⟨rfl, rfl, Nat.le_refl 0⟩, trivial⟩, ⟨⟨⟨rfl, rfl, rfl, rfl, rfl, rfl, rfl, rfl, trivial⟩, trivial⟩, ⟨⟨rfl, rfl, rfl, rfl, rfl, rfl, rfl, rfl, trivial⟩, trivial⟩, rfl, trivial⟩⟩
    · refine brT hS.fineD (brT hS.fineR ?_)
      obtain ⟨e1, e2⟩ := hS.crash c.n
      refine brF (by rw [e1]; simp) ?_
      exact ⟨⟨⟨i, d.crash c.n, x.crash c.n, c.b, c.b.length, 0⟩, rfl, e2, hi0, hi1, Nat.le_refl _, hb, Int.le_refl 0, hk0⟩, ⟨rfl, ⟨rfl, rfl⟩, ⟨rfl, rfl⟩, rfl, ⟨rfl, rfl, Nat.le_refl 0⟩, trivial⟩, ⟨⟨⟨rfl, rfl, rfl, rfl, rfl, rfl, rfl, rfl, trivial⟩, trivial⟩, ⟨⟨rfl, rfl, rfl, rfl, rfl, rfl, rfl, rfl, trivial⟩, trivial⟩, rfl, trivial⟩⟩
    · refine brT (lv_pre hS.fineD (show c.b.length ≤ 16777216 by omega) (show 0 + c.b.length ≤ c.b.length by omega)) (brT (pR_ok hS.fineR (show c.b.length ≤ 16777216 by omega)) ?_)
      rw [lv_all]
      obtain ⟨e1, e2⟩ := hS.swap c.b
      refine brF (by rw [e1]; simp) ?_
      exact ⟨⟨⟨i, (d.swap c.b).1, (x.swap c.b).1, c.b, c.b.length, 0⟩, rfl, e2, hi0, hi1, Nat.le_refl _, hb, Int.le_refl 0, hk0⟩, ⟨rfl, ⟨rfl, rfl⟩, ⟨rfl, rfl⟩, rfl, ⟨rfl, rfl, Nat.le_refl 0⟩, trivial⟩, ⟨⟨⟨rfl, rfl, rfl, rfl, rfl, rfl, rfl, rfl, trivial⟩, trivial⟩, ⟨⟨rfl, rfl, rfl, rfl, rfl, rfl, rfl, rfl, trivial⟩, trivial⟩, rfl, trivial⟩⟩
    · exact ⟨⟨⟨i, d, x, c.b, c.b.length, 0⟩, rfl, hS, hi0, hi1, Nat.le_refl _, hb, Int.le_refl 0, hk0⟩, ⟨rfl, ⟨rfl, rfl⟩, ⟨rfl, rfl⟩, rfl, ⟨rfl, rfl, Nat.le_refl 0⟩, trivial⟩, ⟨⟨⟨rfl, rfl, rfl, rfl, rfl, rfl, rfl, rfl, trivial⟩, trivial⟩, ⟨⟨rfl, rfl, rfl, rfl, rfl, rfl, rfl, rfl, trivial⟩, trivial⟩, rfl, trivial⟩⟩
  rintro ⟨⟨i2, d, x, ys, n, k⟩, (hg : some i = some i2), (hS : Sim d x), (hi0 : 0 ≤ i2), (hi1 : i2 < 100), (hny : n ≤ ys.length), (hn : n ≤ 500), _, _⟩
  have hg : i = i2 := by cases hg; rfl
  subst hg
  refine ⟨⟨⟨⟨i, d, x, ys, n, 0⟩, rfl, hS, hi0, hi1, hny, hn, Int.le_refl 0, show (0 : Int) ≤ (n : Nat) by omega⟩, ⟨rfl, ⟨rfl, rfl⟩, ⟨rfl, rfl⟩, rfl, ⟨rfl, rfl, Nat.le_refl 0⟩, rfl, trivial⟩, ⟨⟨⟨rfl, rfl, rfl, rfl, rfl, rfl, rfl, rfl, trivial⟩, trivial⟩, ⟨⟨rfl, rfl, rfl, rfl, rfl, rfl, rfl, rfl, trivial⟩, trivial⟩, rfl, trivial⟩⟩, ?_⟩
  rintro ⟨⟨i2, d, x, ys, n, k⟩, (hg : some i = some i2), (hS : Sim d x), (hi0 : 0 ≤ i2), (hi1 : i2 < 100), (hny : n ≤ ys.length), (hn : n ≤ 500), (hk0 : 0 ≤ k), (hk1 : k ≤ (n : Int))⟩
  have hg : i = i2 := by cases hg; rfl
  subst hg
  have hi : IntKind.i64.wrap (i + 1) = i + 1 := inc (by omega) (by omega)
  have hk : IntKind.i64.wrap (k + 1) = k + 1 := inc (by omega) (by omega)
  refine br (fun h5 => ?_) (fun _ => ?_)
  · have h5 : k < (n : Int) := of_decide_eq_true h5
    refine brT (by simp; exact ⟨hk0, h5⟩) (brT (by simp; omega) ?_)
    exact ⟨⟨⟨i, d, x, ys.set (0 + k.toNat) (UInt8.ofNat 238), n, k + 1⟩, rfl, hS, hi0, hi1, by show n ≤ (ys.set (0 + k.toNat) (UInt8.ofNat 238)).length; simpa using hny, hn, show 0 ≤ k + 1 by omega, show k + 1 ≤ (n : Int) by omega⟩, by show (500 - (k + 1)).toNat < (500 - k).toNat; omega, ⟨rfl, ⟨rfl, rfl⟩, ⟨rfl, rfl⟩, rfl, ⟨rfl, rfl, Nat.le_refl 0⟩, hk.symm, trivial⟩, ⟨⟨⟨rfl, rfl, rfl, rfl, rfl, rfl, rfl, rfl, trivial⟩, trivial⟩, ⟨⟨rfl, rfl, rfl, rfl, rfl, rfl, rfl, rfl, trivial⟩, trivial⟩, rfl, trivial⟩⟩
  · refine brT hS.fineD (brF (by rw [hS.log]; simp) (brT hS.fineD (brF (by rw [hS.snap]; simp) (brF (by rw [hS.dead]; simp) (brF (by rw [hS.done]; simp) ?_)))))
    exact ⟨⟨⟨i + 1, d, x⟩, hS, by show 0 ≤ i + 1; omega, by show i + 1 ≤ 100; omega⟩, by show (100 - (i + 1)).toNat < (100 - i).toNat; omega, ⟨rfl, ⟨rfl, rfl⟩, ⟨rfl, rfl⟩, hi.symm, trivial⟩, ⟨⟨⟨rfl, rfl, rfl, rfl, rfl, rfl, rfl, rfl, trivial⟩, trivial⟩, ⟨⟨rfl, rfl, rfl, rfl, rfl, rfl, rfl, rfl, trivial⟩, trivial⟩, trivial⟩⟩
end Go.Proofs.Ytaencddffbmdeaa
