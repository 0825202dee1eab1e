/- DiskRoom: its function answers true. No conditions. -/
import Derived.Test.YtaencddffbmdeaaDkM
import Derived.Test.YtaencddffbmdeaaDkL8
namespace Go.Proofs.Ytaencddffbmdeaa
open Go Go.W Go.Proofs

theorem made_ok {y : Int} (h0 : 0 ≤ y) (h1 : y ≤ 100000) : (decide ((0 : Int) ≤ y) && decide (y ≤ y) && decide (y ≤ (9223372036854775807 : Int)) && decide ((↑(Try.prog.bytesOf (5 : Nat)) : Int) * y ≤ (140737488355328 : Int)) && true && true) = true := by
  rw [b5]; simp; omega
theorem lv_pre {d : DSt} {xs : List UInt8} {off len : Nat} {cap : Cap} {out : DSt → List UInt8 → OK → QO} (h1 : d.fine = true) (h2 : len ≤ 16777216) (h3 : off + len ≤ xs.length) : (S3 pD out).pre (Lv.mk d xs off len cap) = true := by
  have e1 : Nat.ble len 16777216 = true := Nat.ble_eq_true_of_le h2
  have e2 : Nat.ble (off + len) xs.length = true := Nat.ble_eq_true_of_le h3
  simp [S3, pD, small, h1, e1, e2]

theorem room_ok (room : Int) (sizes : List Int) : ∃ A L J, awpFun regK Try.prog hd3 1000 A L J Try.f8 [vi room, V.d (D.sl (3 : Nat) sizes)] (fun r => yes r.1) := by
  refine ⟨A8, L8 (w64 (1 + wi room 200)) sizes, noJ, ?_⟩
  rw [v8]
  have hw := wi_bd room 200 (by decide) (by decide)
  have er : IntKind.i64.wrap (1 + wi room 200) = 1 + wi room 200 := wrap_id (by omega) (by omega)
  unfold w64
  rw [er]
  obtain ⟨R, hR⟩ : ∃ R, R = 1 + wi room 200 := ⟨_, rfl⟩
  rw [← hR]
  have hR0 : 1 ≤ R := by omega
  have hR1 : R ≤ 200 := by omega
  refine brT (by simp [inR]; omega) ⟨⟨⟨⟨0, newD R⟩, newD_up (by omega), Int.le_refl 0, show (0 : Int) ≤ 30 by decide⟩, ⟨rfl, rfl, ⟨rfl, rfl⟩, rfl, rfl, rfl, trivial⟩, ⟨⟨rfl, rfl, rfl, rfl, rfl, rfl, rfl, rfl, trivial⟩, trivial⟩, trivial⟩, ?_⟩
  rintro ⟨⟨i, d⟩, (hU : DUp R d), (hi0 : 0 ≤ i), (hi1 : i ≤ 30)⟩
  refine br (fun h1 => ?_) (fun _ => rfl)
  refine br (fun h2 => ?_) (fun _ => rfl)
  have h2 : i < 30 := by simpa using h2
  have hix : (decide ((0 : Int) ≤ i) && decide (i < (↑sizes.length : Int)) && true && true) = true := by
    have h1 : i < (sizes.length : Int) := by simpa using h1
    simp; exact ⟨hi0, h1⟩
  refine brT hix ?_
  intro k hk
  have hkb := wi_bd (IntKind.i64.wrap (Int.tdiv (sizes.getD i.toNat (regK.dflt (3 : Nat))) (2 : Int))) 60 (by decide) (by decide)
  rw [← hk] at hkb
  clear hk
  refine brT hix ?_
  have hm := made_ok hkb.1 (by omega)
  have hi : IntKind.i64.wrap (i + 1) = i + 1 := inc (by omega) (by omega)
  have hsz := hU.sz
  have es : IntKind.i64.wrap (IntKind.i64.wrap ((↑d.log.length : Int) + (↑d.snap.length : Int)) + k) = d.log.length + d.snap.length + k := by
    rw [wrap_id (n := (↑d.log.length : Int) + (↑d.snap.length : Int)) (by omega) (by omega), wrap_id (by omega) (by omega)]
  have ek : IntKind.i64.wrap ((↑d.log.length : Int) + k) = d.log.length + k := wrap_id (by omega) (by omega)
  have hf := hU.fine (by omega)
  have hp : ∀ out, (S3 pD out).pre (Lv.mk d (List.replicate k.toNat (UInt8.ofNat (nat_lit 0))) 0 k.toNat (Cap.exact k.toNat)) = true := fun out => lv_pre hf (by omega) (by simp)
  have hbl : (Lv.mk d (List.replicate k.toNat (UInt8.ofNat (nat_lit 0))) 0 k.toNat (Cap.exact k.toNat)).bytes.length = k.toNat := by simp [Lv.bytes]
  generalize (Lv.mk d (List.replicate k.toNat (UInt8.ofNat (nat_lit 0))) 0 k.toNat (Cap.exact k.toNat)).bytes = bb at hbl
  rw [es, ek, hi]
  refine br (fun _ => ?_) (fun _ => ?_)
  · refine br (fun h3 => ?_) (fun h3 => ?_)
    · have h3 : R < d.log.length + d.snap.length + k := by simpa using h3
      refine brT hm (brT (hp _) ?_)
      have ha := hU.append_no (b := bb) (by omega) (by omega)
      rw [ha]
      rintro _ rfl _ rfl _ rfl _ rfl _ rfl _ rfl _ rfl _ rfl _ rfl
      refine brF rfl (brT hf (brF (by simp) (brT hf (brF (by simp) ?_))))
      exact ⟨⟨⟨i + 1, d⟩, hU, by show 0 ≤ i + 1; omega, by show i + 1 ≤ 30; omega⟩, by show (30 - (i + 1)).toNat < (30 - i).toNat; omega, ⟨rfl, rfl, ⟨rfl, rfl⟩, rfl, rfl, rfl, trivial⟩, ⟨⟨rfl, rfl, rfl, rfl, rfl, rfl, rfl, rfl, trivial⟩, trivial⟩, trivial⟩
    · have h3 : ¬ R < d.log.length + d.snap.length + k := by simpa using h3
      rintro _ rfl
      refine brT hm (brT (hp _) ?_)
      have ha := hU.append_yes (b := bb) (by omega) (by omega)
      have hU' := hU.appended (b := bb) (by omega) (w64 (d.done + 1))
      rw [ha]
      rintro _ rfl _ rfl _ rfl _ rfl _ rfl _ rfl _ rfl _ rfl _ rfl
      have hlen : ((d.log ++ bb).length : Int) = d.log.length + k := by simp; omega
      refine brF rfl (brT (hU'.fine (by omega)) (brF (by simp; omega) (brT (hU'.fine (by omega)) (brF (by simp) ?_))))
      exact ⟨⟨⟨i + 1, _⟩, hU', by show 0 ≤ i + 1; omega, by show i + 1 ≤ 30; omega⟩, by show (30 - (i + 1)).toNat < (30 - i).toNat; omega, ⟨rfl, rfl, ⟨rfl, rfl⟩, hlen, rfl, rfl, trivial⟩, ⟨⟨rfl, rfl, rfl, rfl, rfl, rfl, rfl, rfl, trivial⟩, trivial⟩, trivial⟩
  · refine br (fun h3 => ?_) (fun h3 => ?_)
    · have h3 : R < k := by simpa using h3
      refine brT hm (brT (hp _) ?_)
      have ha := hU.swap_no (b := bb) (by omega)
      rw [ha]
      rintro _ rfl _ rfl _ rfl _ rfl _ rfl _ rfl _ rfl _ rfl _ rfl
      refine brF rfl (brT hf (brF (by simp) (brT hf (brF (by simp) ?_))))
      exact ⟨⟨⟨i + 1, d⟩, hU, by show 0 ≤ i + 1; omega, by show i + 1 ≤ 30; omega⟩, by show (30 - (i + 1)).toNat < (30 - i).toNat; omega, ⟨rfl, rfl, ⟨rfl, rfl⟩, rfl, rfl, rfl, trivial⟩, ⟨⟨rfl, rfl, rfl, rfl, rfl, rfl, rfl, rfl, trivial⟩, trivial⟩, trivial⟩
    · have h3 : ¬ R < k := by simpa using h3
      refine brT hm (brT (hp _) ?_)
      have ha := hU.swap_yes (b := bb) (by omega)
      have hU' := hU.swapped (b := bb) (by omega) (w64 (d.done + 1))
      rw [ha]
      have hlen : (bb.length : Int) = k := by omega
      rintro _ rfl _ rfl _ rfl _ rfl _ rfl _ rfl _ rfl _ rfl _ rfl
      refine brF rfl (brT (hU'.fine (by omega)) (brF (by simp) (brT (hU'.fine (by omega)) (brF (by simp [hlen]) ?_))))
      exact ⟨⟨⟨i + 1, _⟩, hU', by show 0 ≤ i + 1; omega, by show i + 1 ≤ 30; omega⟩, by show (30 - (i + 1)).toNat < (30 - i).toNat; omega, ⟨rfl, rfl, ⟨rfl, rfl⟩, rfl, hlen, rfl, trivial⟩, ⟨⟨rfl, rfl, rfl, rfl, rfl, rfl, rfl, rfl, trivial⟩, trivial⟩, trivial⟩
end Go.Proofs.Ytaencddffbmdeaa
