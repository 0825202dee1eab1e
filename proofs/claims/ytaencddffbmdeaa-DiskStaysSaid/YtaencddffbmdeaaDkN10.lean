/- DiskStays: its function answers true. No conditions. -/
import Derived.Test.YtaencddffbmdeaaDkM
import Derived.Test.YtaencddffbmdeaaDkL10
namespace Go.Proofs.Ytaencddffbmdeaa
open Go Go.W Go.Proofs

theorem take_front {l a : List UInt8} {m : Nat} (h : l.take a.length = a) (hm : a.length ≤ m) : (l.take m).take a.length = a := by
  rw [List.take_take, Nat.min_eq_left hm, h]
theorem stays_ok (a : List UInt8) (rows : List (List UInt8)) (picks : List Int) (snap : List UInt8) (stop : Int) :
    ∃ (G : Type) (g : G) (A : _) (L : _) (J : _), awpFun regK Try.prog hd3 1000 A L J g Try.f10 [.d (.sl 5 a), .d (.sl 43 rows), .d (.sl 3 picks), .d (.sl 5 snap), vi stop] (fun r => yes r.1) := by
  refine ⟨Option Int, none, fun _ => [], L10 a rows picks snap stop, noJ, ?_⟩
  rw [v10]
  refine br (fun _ => rfl) (fun ha => ?_)
  have ha : a.length ≤ 300 := by have := of_decide_eq_false ha; omega
  refine br (fun _ => rfl) (fun hs => ?_)
  have hs : snap.length ≤ 300 := by have := of_decide_eq_false hs; omega
  have hU0 : DUp 100000 (newD 100000) := newD_up (by decide)
  have hU1 := hU0.appended (b := a) (by show ((([] : List UInt8).length : Nat) : Int) + (([] : List UInt8).length : Nat) + a.length ≤ 100000; simp; omega) (w64 ((newD 100000).done + 1))
  have h1 : (newD 100000).append a = ({ newD 100000 with done := w64 ((newD 100000).done + 1), log := [] ++ a }, 0) := hU0.append_yes (by decide) (by show ((([] : List UInt8).length : Nat) : Int) + (([] : List UInt8).length : Nat) + a.length ≤ 100000; simp; omega)
  have h2 := hU1.sync
  refine brT (pD_ok (hU0.fine (by decide)) (show a.length ≤ 16777216 by omega)) ?_
  rw [show (DSt.mk (0 : Int) (0 : Int) (0 : Int) false [] (0 : Int) [] (100000 : Int)) = newD 100000 from rfl, h1]
  refine brF rfl (brT (hU1.fine (by decide)) ?_)
  have h2 : (({ newD 100000 with done := w64 ((newD 100000).done + 1), log := [] ++ a } : DSt), (0 : Int)).fst.sync = ({ newD 100000 with done := w64 (w64 ((newD 100000).done + 1) + 1), log := [] ++ a, synced := ([] ++ a : List UInt8).length }, 0) := h2
  rw [h2]
  have hU2 : DUp 100000 { newD 100000 with done := w64 (w64 ((newD 100000).done + 1) + 1), log := [] ++ a, synced := ([] ++ a : List UInt8).length } := ⟨rfl, rfl, rfl, by show (0 : Int) ≤ (([] ++ a : List UInt8).length : Int); omega, Int.le_refl _, by show ((([] ++ a : List UInt8).length : Nat) : Int) + (([] : List UInt8).length : Nat) ≤ 100000; simp; omega⟩
  refine brF rfl ⟨⟨⟨⟨0, _⟩, hU2, rfl, by show ([] ++ a : List UInt8).take a.length = a; simp, by show (a.length : Int) ≤ (([] ++ a : List UInt8).length : Int); simp, by show (([] ++ a : List UInt8).length : Int) ≤ 300 + 300 * 0; simp; omega, Int.le_refl 0, show (0 : Int) ≤ 20 by decide⟩,
    ⟨rfl, rfl, rfl, rfl, rfl, ⟨rfl, rfl⟩, rfl, trivial⟩, ⟨⟨rfl, rfl, rfl, rfl, rfl, rfl, rfl, rfl, trivial⟩, trivial⟩, trivial⟩, ?_⟩
  rintro ⟨⟨i, d⟩, (hU : DUp 100000 d), (hsn : d.snap = []), (htk : d.log.take a.length = a), (hsy : (a.length : Int) ≤ d.synced), (hln : (d.log.length : Int) ≤ 300 + 300 * i), (hi0 : 0 ≤ i), (hi1 : i ≤ 20)⟩
  -- what comes behind the loop
  have tail : branch ((S0 DSt.fine s25).pre d)
      (branch ((S2 pD s24).pre (d.stop (IntKind.i64.wrap ((1 : Int) + wi stop (4 : Int))), snap))
       (branch (decide (IntKind.i64.wrap ((1 : Int) + wi stop (4 : Int)) > (1 : Int)))
        (branch (((d.stop (IntKind.i64.wrap ((1 : Int) + wi stop (4 : Int)))).swap snap).snd == (0 : Int))
         (branch ((S0 DSt.fine s25).pre ((d.stop (IntKind.i64.wrap ((1 : Int) + wi stop (4 : Int)))).swap snap).fst)
          (branch ((↑((d.stop (IntKind.i64.wrap ((1 : Int) + wi stop (4 : Int)))).swap snap).fst.log.length : Int) == (0 : Int))
           (branch ((S0 DSt.fine s26).pre ((d.stop (IntKind.i64.wrap ((1 : Int) + wi stop (4 : Int)))).swap snap).fst)
            ((((d.stop (IntKind.i64.wrap ((1 : Int) + wi stop (4 : Int)))).swap snap).fst.snap == snap) = true) False)
           (false = true)) False)
         (false = true))
        (branch (((d.stop (IntKind.i64.wrap ((1 : Int) + wi stop (4 : Int)))).swap snap).snd == (17 : Int))
         (branch ((d.stop (IntKind.i64.wrap ((1 : Int) + wi stop (4 : Int)))).swap snap).fst.dead
          (branch ((S0 DSt.fine s25).pre ((d.stop (IntKind.i64.wrap ((1 : Int) + wi stop (4 : Int)))).swap snap).fst)
           (branch (((d.stop (IntKind.i64.wrap ((1 : Int) + wi stop (4 : Int)))).swap snap).fst.log == d.log)
            (branch ((S0 DSt.fine s26).pre ((d.stop (IntKind.i64.wrap ((1 : Int) + wi stop (4 : Int)))).swap snap).fst)
             (((↑((d.stop (IntKind.i64.wrap ((1 : Int) + wi stop (4 : Int)))).swap snap).fst.snap.length : Int) == (0 : Int)) = true) False)
            (false = true)) False)
          (false = true))
         (false = true))) False) False := by
    have hw := wi_bd stop 4 (by decide) (by decide)
    rw [wrap_id (n := 1 + wi stop 4) (by omega) (by omega)]
    obtain ⟨s, hs'⟩ : ∃ s, s = 1 + wi stop 4 := ⟨_, rfl⟩
    rw [← hs']
    refine brT (hU.fine (by decide)) (brT (pD_ok ((hU.toRm.stop s).fine (by decide)) (show snap.length ≤ 16777216 by omega)) ?_)
    by_cases h1 : 1 < s
    · rw [stop_swap_go hU h1 (by omega) (b := snap) (by omega)]
      have hr : DRm 100000 (⟨s - 1, s.tmod 2, w64 (d.done + 1), false, [], 0, snap, d.room⟩ : DSt) := ⟨hU.rm, Int.le_refl 0, by simp, by simp; omega⟩
      refine brT (by simpa using h1) (brT rfl (brT (hr.fine (by decide)) (brT rfl (brT (hr.fine (by decide)) ?_))))
      simp
    · have : s = 1 := by omega
      subst this
      rw [stop_swap_1 hU (b := snap) (by omega)]
      have hr : DRm 100000 (⟨0, 1, d.done, true, d.log, d.synced, d.snap, d.room⟩ : DSt) := ⟨hU.rm, hU.s0, hU.s1, hU.sz⟩
      refine brF (by simp) (brT rfl (brT rfl (brT (hr.fine (by decide)) (brT (by simp) (brT (hr.fine (by decide)) ?_)))))
      simp [hsn]
  refine br (fun h1 => ?_) (fun _ => tail)
  have h1 : i < (rows.length : Int) := by simpa using h1
  refine br (fun h2 => ?_) (fun _ => tail)
  have h2 : i < 20 := by simpa using h2
  have hix : (decide ((0 : Int) ≤ i) && decide (i < (↑rows.length : Int)) && true && true) = true := by simp; exact ⟨hi0, h1⟩
  have hi : IntKind.i64.wrap (i + 1) = i + 1 := inc (by omega) (by omega)
  refine brT hix ?_
  rw [hi]
  refine br (fun _ => ?_) (fun h3 => ?_)
  · exact ⟨⟨⟨i + 1, d⟩, hU, hsn, htk, hsy, by show (d.log.length : Int) ≤ 300 + 300 * (i + 1); omega, by show 0 ≤ i + 1; omega, by show i + 1 ≤ 20; omega⟩, by show (20 - (i + 1)).toNat < (20 - i).toNat; omega, ⟨rfl, rfl, rfl, rfl, rfl, ⟨rfl, rfl⟩, rfl, trivial⟩, ⟨⟨rfl, rfl, rfl, rfl, rfl, rfl, rfl, rfl, trivial⟩, trivial⟩, trivial⟩
  obtain ⟨row, hrow⟩ : ∃ row, row = rows.getD i.toNat [] := ⟨_, rfl⟩
  rw [← hrow] at h3 ⊢
  have h3 : row.length ≤ 300 := by have := of_decide_eq_false h3; omega
  refine brT hix (brT (pD_ok (hU.fine (by decide)) (show row.length ≤ 16777216 by omega)) ?_)
  have hsz : (d.log.length : Int) + d.snap.length + row.length ≤ 100000 := by rw [hsn]; simp; omega
  have hap := hU.append_yes (b := row) (by decide) hsz
  have hUa := hU.appended (b := row) hsz (w64 (d.done + 1))
  rw [hap]
  obtain ⟨e, he⟩ : ∃ e, e = ({ d with done := w64 (d.done + 1), log := d.log ++ row } : DSt) := ⟨_, rfl⟩
  rw [← he] at hUa ⊢
  have hae : a.length ≤ d.log.length := by have := hU.s1; omega
  have hlog : e.log = d.log ++ row := by rw [he]
  have hel : e.log.take a.length = a := by rw [hlog, List.take_append_of_le_length hae, htk]
  have hes : e.snap = [] := by rw [he]; exact hsn
  have hey : (a.length : Int) ≤ e.synced := by rw [he]; exact hsy
  have hen : (e.log.length : Int) ≤ 300 + 300 * (i + 1) := by rw [hlog]; simp; omega
  have next : ∀ d' : DSt, DUp 100000 d' → d'.log.take a.length = a → d'.snap = [] → (a.length : Int) ≤ d'.synced → (d'.log.length : Int) ≤ 300 + 300 * (i + 1) →
      ∃ (x' : { x : R8 // P10 a x }), ((20 : Int) - x'.val.i).toNat < ((20 : Int) - i).toNat ∧
        (bs a = bs a ∧ ls rows = ls rows ∧ is picks = is picks ∧ bs snap = bs snap ∧ stop = stop ∧ ((0 : Nat) = (0 : Nat) ∧ (0 : Nat) = (0 : Nat)) ∧ x'.val.i = i + 1 ∧ True) ∧
        ((x'.val.d.left = d'.left ∧ x'.val.d.odd = d'.odd ∧ x'.val.d.done = d'.done ∧ x'.val.d.dead = d'.dead ∧ bs x'.val.d.log = bs d'.log ∧ x'.val.d.synced = d'.synced ∧ bs x'.val.d.snap = bs d'.snap ∧ x'.val.d.room = d'.room ∧ True) ∧ True) ∧ True := by
    intro d' g1 g2 g3 g4 g5
    exact ⟨⟨⟨i + 1, d'⟩, g1, g3, g2, g4, g5, by show 0 ≤ i + 1; omega, by show i + 1 ≤ 20; omega⟩, by show (20 - (i + 1)).toNat < (20 - i).toNat; omega, ⟨rfl, rfl, rfl, rfl, rfl, ⟨rfl, rfl⟩, rfl, trivial⟩, ⟨⟨rfl, rfl, rfl, rfl, rfl, rfl, rfl, rfl, trivial⟩, trivial⟩, trivial⟩
  have front : ∀ d' : DSt, d'.log.take a.length = a → a.length ≤ d'.log.length ∧ (!List.drop (0 : Nat) (List.take (↑a.length : Int).toNat d'.log) == a) = false := by
    intro d' g
    refine ⟨?_, by simp [g]⟩
    have := congrArg List.length g
    simp at this
    omega
  refine brF rfl ?_
  have plain : branch ((S0 DSt.fine s25).pre e) (branch (decide ((↑e.log.length : Int) < (↑a.length : Int))) (false = true) (branch (decide ((↑a.length : Int) ≤ (↑e.log.length : Int)) && true && true)
      (branch (!List.drop (0 : Nat) (List.take (↑a.length : Int).toNat e.log) == a) (false = true) (∃ (x' : { x : R8 // P10 a x }), ((20 : Int) - x'.val.i).toNat < ((20 : Int) - i).toNat ∧
        (bs a = bs a ∧ ls rows = ls rows ∧ is picks = is picks ∧ bs snap = bs snap ∧ stop = stop ∧ ((0 : Nat) = (0 : Nat) ∧ (0 : Nat) = (0 : Nat)) ∧ x'.val.i = i + 1 ∧ True) ∧
        ((x'.val.d.left = e.left ∧ x'.val.d.odd = e.odd ∧ x'.val.d.done = e.done ∧ x'.val.d.dead = e.dead ∧ bs x'.val.d.log = bs e.log ∧ x'.val.d.synced = e.synced ∧ bs x'.val.d.snap = bs e.snap ∧ x'.val.d.room = e.room ∧ True) ∧ True) ∧ True)) False)) False := by
    obtain ⟨f1, f2⟩ := front e hel
    exact brT (hUa.fine (by decide)) (brF (by simp; omega) (brT (by simp; omega) (brF f2 (next e hUa hel hes hey hen))))
  refine br (fun h4 => ?_) (fun _ => plain)
  have h4 : i < (picks.length : Int) := by simpa using h4
  have hpx : (decide ((0 : Int) ≤ i) && decide (i < (↑picks.length : Int)) && true && true) = true := by simp; exact ⟨hi0, h4⟩
  refine brT hpx (br (fun _ => ?_) (fun _ => plain))
  refine brT hpx (brT (hUa.fine (by decide)) ?_)
  generalize IntKind.i64.wrap (Int.tdiv (picks.getD i.toNat (0 : Int)) (2 : Int)) = q
  obtain ⟨hUc, hcs, m, m1, m2, m3, m4⟩ := hUa.toRm.crash (by decide) q
  have hcl : (e.crash q).log.take a.length = a := by rw [m3]; exact take_front hel (by omega)
  obtain ⟨f1, f2⟩ := front _ hcl
  refine brT (hUc.fine (by decide)) (brF (by simp; omega) (brT (by simp; omega) (brF f2 (next _ hUc hcl (hcs.trans hes) (by rw [m4]; omega) ?_))))
  rw [m3, List.length_take]; omega
end Go.Proofs.Ytaencddffbmdeaa
