/- DiskSwaps: its function answers true. No conditions. -/
import Derived.Test.YtaencddffbmdeaaDkM
import Derived.Test.YtaencddffbmdeaaDkL9
namespace Go.Proofs.Ytaencddffbmdeaa
open Go Go.W Go.Proofs

theorem append_up {d : DSt} (h : DUp 100000 d) (b : List UInt8) : DUp 100000 (d.append b).1 ∧ (d.append b).1.snap = d.snap := by
  by_cases hb : (d.log.length : Int) + d.snap.length + b.length ≤ 100000
  · rw [h.append_yes (by decide) hb]; exact ⟨h.appended hb _, rfl⟩
  · rw [h.append_no (by decide) (by omega)]; exact ⟨h, rfl⟩

/-- What comes behind the swap. -/
theorem swaps_rest {snaps : List (List UInt8)} {picks : List Int} {i cp : Int} {E : DSt} {L : List UInt8} (hE : DRm 100000 E) (hL : E.snap = L) (hi0 : 0 ≤ i) (hi1 : i < 15) (b : List UInt8) :
    (S1 DSt.fine s28).pre ((E.append b).1, cp) = true ∧ (S0 DSt.fine s26).pre ((E.append b).1.crash cp) = true ∧ (!((E.append b).1.crash cp).snap == L) = false ∧
    (∃ (x' : { x : R9 // P9 x }), (15 - x'.val.i).toNat < (15 - i).toNat ∧ (ls snaps = ls snaps ∧ is picks = is picks ∧ ((0 : Nat) = (0 : Nat) ∧ (0 : Nat) = (0 : Nat)) ∧ x'.val.last = L ∧ x'.val.i = IntKind.i64.wrap (i + 1) ∧ True) ∧
      ((x'.val.d.left = ((E.append b).1.crash cp).left ∧ x'.val.d.odd = ((E.append b).1.crash cp).odd ∧ x'.val.d.done = ((E.append b).1.crash cp).done ∧ x'.val.d.dead = ((E.append b).1.crash cp).dead ∧ bs x'.val.d.log = bs ((E.append b).1.crash cp).log ∧ x'.val.d.synced = ((E.append b).1.crash cp).synced ∧ bs x'.val.d.snap = bs ((E.append b).1.crash cp).snap ∧ x'.val.d.room = ((E.append b).1.crash cp).room ∧ True) ∧ True) ∧ True) := by
  obtain ⟨hA, hs⟩ := hE.append (by decide) b
  obtain ⟨hC, hs2, _⟩ := hA.crash (by decide) cp
  have hsn : ((E.append b).1.crash cp).snap = L := hs2.trans (hs.trans hL)
  have hi : IntKind.i64.wrap (i + 1) = i + 1 := inc (by omega) (by omega)
  refine ⟨hA.fine (by decide), hC.fine (by decide), by rw [hsn]; simp, ?_⟩
  exact ⟨⟨⟨i + 1, _, L⟩, hC, hsn, show 0 ≤ i + 1 by omega, show i + 1 ≤ 15 by omega⟩, by show (15 - (i + 1)).toNat < (15 - i).toNat; omega, ⟨rfl, rfl, ⟨rfl, rfl⟩, rfl, hi.symm, trivial⟩, ⟨⟨⟨rfl, rfl, rfl, rfl, rfl, rfl, rfl, rfl, trivial⟩, trivial⟩, trivial⟩⟩

theorem swaps_ok (snaps : List (List UInt8)) (picks : List Int) : ∃ (G : Type) (g : G) (A : _) (L : _) (J : _), awpFun regK Try.prog hd3 1000 A L J g Try.f9 [.d (.sl 43 snaps), .d (.sl 3 picks)] (fun r => yes r.1) := by
  refine ⟨Option Int, none, fun _ => [], L9 snaps picks, J9 snaps picks, ?_⟩
  rw [v9]
  refine ⟨⟨⟨⟨0, newD 100000, []⟩, newD_up (by decide), rfl, Int.le_refl 0, show (0 : Int) ≤ 15 by decide⟩, ⟨rfl, rfl, ⟨rfl, rfl⟩, rfl, rfl, trivial⟩, ⟨⟨⟨rfl, rfl, rfl, rfl, rfl, rfl, rfl, rfl, trivial⟩, trivial⟩, trivial⟩⟩, ?_⟩
  rintro ⟨⟨i, d, last⟩, (hU : DUp 100000 d), (hs : d.snap = last), (hi0 : 0 ≤ i), (hi1 : i ≤ 15)⟩
  refine br (fun h1 => ?_) (fun _ => rfl)
  have h1 : i < (snaps.length : Int) := of_decide_eq_true h1
  refine br (fun h2 => ?_) (fun _ => rfl)
  have h2 : i < 15 := of_decide_eq_true h2
  have hix : (decide ((0 : Int) ≤ i) && decide (i < (↑snaps.length : Int)) && true && true) = true := by simp; exact ⟨hi0, h1⟩
  refine brT hix (br (fun _ => rfl) (fun h3 => ?_))
  have h3 : (snaps.getD i.toNat []).length ≤ 200 := by have := of_decide_eq_false h3; have : ¬ ((snaps.getD i.toNat []).length : Int) > 200 := this; omega
  refine ⟨br (fun h4 => brT (by simp; exact ⟨hi0, of_decide_eq_true h4⟩) ?_) (fun _ => ?_), ?_⟩
  · exact ⟨⟨⟨⟨i, d, last⟩, _⟩, rfl, ⟨hU, hs, hi0, hi1⟩, h2, h1, h3⟩, ⟨rfl, rfl, ⟨rfl, rfl⟩, rfl, rfl, rfl, trivial⟩, ⟨⟨⟨rfl, rfl, rfl, rfl, rfl, rfl, rfl, rfl, trivial⟩, trivial⟩, trivial⟩⟩
  · exact ⟨⟨⟨⟨i, d, last⟩, 0⟩, rfl, ⟨hU, hs, hi0, hi1⟩, h2, h1, h3⟩, ⟨rfl, rfl, ⟨rfl, rfl⟩, rfl, rfl, rfl, trivial⟩, ⟨⟨⟨rfl, rfl, rfl, rfl, rfl, rfl, rfl, rfl, trivial⟩, trivial⟩, trivial⟩⟩
  rintro ⟨⟨⟨i2, d, last⟩, p⟩, (hg : some i = some i2), ⟨(hU : DUp 100000 d), (hs : d.snap = last), (hi0 : 0 ≤ i2), (hi1 : i2 ≤ 15)⟩, (h2 : i2 < 15), (h1 : i2 < (snaps.length : Int)), (h3 : (snaps.getD i2.toNat []).length ≤ 200)⟩
  have hg : i = i2 := by cases hg; rfl
  subst hg
  have hix : (decide ((0 : Int) ≤ i) && decide (i < (↑snaps.length : Int)) && true && true) = true := by simp; exact ⟨hi0, h1⟩
  have hw := wi_bd p 3 (by decide) (by decide)
  obtain ⟨hA, hAs⟩ := append_up hU (snaps.getD i.toNat [])
  refine brT hix (brT (pD_ok (hU.fine (by decide)) (show (snaps.getD i.toNat []).length ≤ 16777216 by omega)) (brT hix (brT (pD_ok ((hA.toRm.stop _).fine (by decide)) (show (snaps.getD i.toNat []).length ≤ 16777216 by omega)) ?_)))
  have hb : ((snaps.getD i.toNat []).length : Int) ≤ 100000 := by omega
  have hq : wi p 3 = 0 ∨ wi p 3 = 1 ∨ wi p 3 = 2 := by omega
  have lv : ∀ {E : DSt} {b : List UInt8} {c : Cap}, DRm 100000 E → b.length = 4 → (S3 pD s23l).pre (Lv.mk E b 0 4 c) = true := fun hE hb => lv_pre (hE.fine (by decide)) (by decide) (by omega)
  rcases hq with hq | hq | hq
  · rw [hq, stop_swap_0 hA hb]
    have hE : DRm 100000 (⟨0, 0, w64 ((d.append (snaps.getD i.toNat [])).1.done + 1), false, [], 0, (snaps.getD i.toNat []), (d.append (snaps.getD i.toNat [])).1.room⟩ : DSt) := ⟨hA.rm, Int.le_refl 0, by show (0 : Int) ≤ (([] : List UInt8).length : Nat); rw [List.length_nil]; omega, by show ((([] : List UInt8).length : Nat) : Int) + ((snaps.getD i.toNat []).length : Nat) ≤ 100000; rw [List.length_nil]; omega⟩
    obtain ⟨g1, g2, g3, g4⟩ := swaps_rest (snaps := snaps) (picks := picks) (cp := IntKind.i64.wrap (p.tdiv 3)) hE rfl hi0 h2 [UInt8.ofNat 109, UInt8.ofNat 111, UInt8.ofNat 114, UInt8.ofNat 101]
    refine brT rfl (brT hix (brF rfl (brT rfl (brF rfl (brT (lv hE rfl) (brT g1 (brT g2 (brF g3 g4))))))))
  · rw [hq, stop_swap_1 hA hb]
    have hE : DRm 100000 (⟨0, 1, (d.append (snaps.getD i.toNat [])).1.done, true, (d.append (snaps.getD i.toNat [])).1.log, (d.append (snaps.getD i.toNat [])).1.synced, (d.append (snaps.getD i.toNat [])).1.snap, (d.append (snaps.getD i.toNat [])).1.room⟩ : DSt) := ⟨hA.rm, hA.s0, hA.s1, hA.sz⟩
    obtain ⟨g1, g2, g3, g4⟩ := swaps_rest (snaps := snaps) (picks := picks) (cp := IntKind.i64.wrap (p.tdiv 3)) (L := last) hE (hAs.trans hs) hi0 h2 [UInt8.ofNat 109, UInt8.ofNat 111, UInt8.ofNat 114, UInt8.ofNat 101]
    refine brF rfl (brF rfl (brT rfl (brF rfl (brF rfl (brT (lv hE rfl) (brT g1 (brT g2 (brF g3 g4))))))))
  · rw [hq, stop_swap_go hA (by decide) (by decide) hb]
    have hE : DRm 100000 (⟨2 - 1, (2 : Int).tmod 2, w64 ((d.append (snaps.getD i.toNat [])).1.done + 1), false, [], 0, (snaps.getD i.toNat []), (d.append (snaps.getD i.toNat [])).1.room⟩ : DSt) := ⟨hA.rm, Int.le_refl 0, by show (0 : Int) ≤ (([] : List UInt8).length : Nat); rw [List.length_nil]; omega, by show ((([] : List UInt8).length : Nat) : Int) + ((snaps.getD i.toNat []).length : Nat) ≤ 100000; rw [List.length_nil]; omega⟩
    obtain ⟨g1, g2, g3, g4⟩ := swaps_rest (snaps := snaps) (picks := picks) (cp := IntKind.i64.wrap (p.tdiv 3)) hE rfl hi0 h2 [UInt8.ofNat 109, UInt8.ofNat 111, UInt8.ofNat 114, UInt8.ofNat 101]
    refine brT rfl (brT hix (brF rfl (brT rfl (brF rfl (brT (lv hE rfl) (brT g1 (brT g2 (brF g3 g4))))))))
end Go.Proofs.Ytaencddffbmdeaa
