/- ConfOrder: its function answers yes. No conditions. -/
import Derived.Test.YtaonjbojhikndaaDoorGd
namespace Go.Proofs.YtaonjbojhikndaaDoor
open Go Go.W
set_option maxRecDepth 100000
structure YesOF (xs : List Int) (tw : Bool) : Prop where
  go : YesO xs tw
theorem any_p {cs : List Nat} {c : Nat} (h8 : ∀ d ∈ cs, d < 8) (hc : c < 8) (h : (cs.any fun d => pOf d == pOf c) = false) : ∀ d ∈ cs, d ≠ c := by
  intro d hd e
  subst e
  have := List.any_eq_false.1 h d hd
  simp at this
theorem order_yes (xs : List Int) (tw : Bool) : YesOF xs tw := by
  refine YesOF.mk ?_
  rw [v4o]
  refine ⟨⟨⟨⟨0, [], 0⟩, Nat.zero_le _, Nat.le_refl _, (fun _ h => by cases h), List.Pairwise.nil⟩, ⟨rfl, rfl, ⟨rfl, rfl, Nat.le_refl _⟩, rfl, trivial⟩, rfl, trivial⟩, fun x => ?_⟩
  have hx := x.2
  have xi := hx.i
  have xl := hx.l
  have x8 := hx.lt
  have xn := hx.ne
  refine br (fun hlt => br (fun h12 => ?body) (fun _ => ?t1)) (fun _ => ?t2)
  case body =>
    have hlt : x.1.i < xs.length := by simpa using hlt
    have h12 : x.1.i < 12 := by have := of_decide_eq_true h12; omega
    have w1 : IntKind.i64.wrap ((x.1.i : Int) + 1) = ((x.1.i + 1 : Nat) : Int) := by rw [wrap_id] <;> omega
    have hb := wi_ofK (xs.getD ((x.1.i : Int)).toNat 0) (n := 8) (by decide) (by decide)
    refine ⟨brT (by simp; omega) ?_, fun c => ?_⟩
    · refine br (fun _ => ⟨⟨0, by decide⟩, ⟨rfl, rfl, ⟨rfl, rfl, Nat.le_refl _⟩, rfl, rfl, trivial⟩, rfl, trivial⟩) (fun n0 => ?_)
      refine br (fun _ => ⟨⟨1, by decide⟩, ⟨rfl, rfl, ⟨rfl, rfl, Nat.le_refl _⟩, rfl, rfl, trivial⟩, rfl, trivial⟩) (fun n1 => ?_)
      refine br (fun _ => ⟨⟨2, by decide⟩, ⟨rfl, rfl, ⟨rfl, rfl, Nat.le_refl _⟩, rfl, rfl, trivial⟩, rfl, trivial⟩) (fun n2 => ?_)
      refine br (fun _ => ⟨⟨3, by decide⟩, ⟨rfl, rfl, ⟨rfl, rfl, Nat.le_refl _⟩, rfl, rfl, trivial⟩, rfl, trivial⟩) (fun n3 => ?_)
      refine br (fun _ => ⟨⟨4, by decide⟩, ⟨rfl, rfl, ⟨rfl, rfl, Nat.le_refl _⟩, rfl, rfl, trivial⟩, rfl, trivial⟩) (fun n4 => ?_)
      refine br (fun _ => ⟨⟨5, by decide⟩, ⟨rfl, rfl, ⟨rfl, rfl, Nat.le_refl _⟩, rfl, rfl, trivial⟩, rfl, trivial⟩) (fun n5 => ?_)
      refine br (fun _ => ⟨⟨6, by decide⟩, ⟨rfl, rfl, ⟨rfl, rfl, Nat.le_refl _⟩, rfl, rfl, trivial⟩, rfl, trivial⟩) (fun n6 => ?_)
      have n0 := of_decide_eq_false n0
      have n1 := of_decide_eq_false n1
      have n2 := of_decide_eq_false n2
      have n3 := of_decide_eq_false n3
      have n4 := of_decide_eq_false n4
      have n5 := of_decide_eq_false n5
      have n6 := of_decide_eq_false n6
      exact brT (dT (by omega)) ⟨⟨7, by decide⟩, ⟨rfl, rfl, ⟨rfl, rfl, Nat.le_refl _⟩, rfl, rfl, trivial⟩, rfl, trivial⟩
    · have hc := c.2
      refine ⟨⟨⟨0, Nat.zero_le _⟩, ⟨rfl, rfl, ⟨rfl, rfl, Nat.le_refl _⟩, rfl, rfl, rfl, rfl, trivial⟩, rfl, trivial⟩, fun k => ?_⟩
      have hk := k.2
      refine br (fun hlt => ?_) (fun hge => ?_)
      · have hlt : k.1 < x.1.cs.length := by simpa using hlt
        have w2 : IntKind.i64.wrap ((k.1 : Int) + 1) = ((k.1 + 1 : Nat) : Int) := by rw [wrap_id] <;> omega
        have e1 : 0 + ((k.1 : Int)).toNat = k.1 := by omega
        have ht : x.1.cs.take (k.1 + 1) = x.1.cs.take k.1 ++ [x.1.cs.getD k.1 0] := take_snoc' 0 hlt
        have hg : (x.1.cs.map pOf).getD k.1 [] = pOf (x.1.cs.getD k.1 0) := by simp [List.getD, hlt]
        refine br (fun ha => ?_) (fun ha => ?_)
        · refine ⟨⟨k.1 + 1, hlt⟩, ?_, ⟨rfl, rfl, ⟨rfl, rfl, Nat.le_refl _⟩, rfl, rfl, ?_, w2.symm, trivial⟩, rfl, trivial⟩
          · show x.1.cs.length - (k.1 + 1) < _; omega
          · show ((x.1.cs.take (k.1 + 1)).any _) = true
            rw [ht, List.any_append, ha]; rfl
        · refine brT (by simp; omega) (brT (Nat.ble_eq_true_of_le (by simp; omega)) ?_)
          refine ⟨⟨k.1 + 1, hlt⟩, ?_, ⟨rfl, rfl, ⟨rfl, rfl, Nat.le_refl _⟩, rfl, rfl, ?_, w2.symm, trivial⟩, rfl, trivial⟩
          · show x.1.cs.length - (k.1 + 1) < _; omega
          · show ((x.1.cs.take (k.1 + 1)).any _) = _
            rw [ht, List.any_append, ha, e1, hg, Bool.false_or]
            simp only [List.any_cons, List.any_nil, Bool.or_false]
            rfl
      · have hge : ¬ k.1 < x.1.cs.length := by simpa using hge
        have htk : x.1.cs.take k.1 = x.1.cs := List.take_of_length_le (by omega)
        rw [htk]
        refine br (fun ha => ?_) (fun ha => ?_)
        · have ha : (x.1.cs.any fun d => pOf d == pOf c.1) = false := by simpa using ha
          have hne := any_p x8 hc ha
          have b1 : Nat.beq (0 + x.1.cs.length) (x.1.cs.map pOf).length = true := by rw [Nat.zero_add, List.length_map]; exact Nat.beq_refl _
          refine brT b1 (brT ?_ ?_)
          · simp only [Bool.and_eq_true]
            exact ⟨⟨⟨⟨Nat.ble_eq_true_of_le (by omega), Nat.ble_eq_true_of_le (by omega)⟩, trivial⟩, trivial⟩, Nat.ble_eq_true_of_le (by simp)⟩
          · refine ⟨⟨⟨x.1.i + 1, x.1.cs ++ [c.1], 0⟩, by show x.1.i + 1 ≤ 12; omega, by show (x.1.cs ++ [c.1]).length ≤ x.1.i + 1; simp; omega, ?_, ?_⟩, ?_, ⟨rfl, rfl, ⟨rfl, by simp, Nat.zero_le _⟩, w1.symm, trivial⟩, ?_, trivial⟩
            · intro d hd
              rcases List.mem_append.1 hd with hd | hd
              · exact x8 d hd
              · rw [List.mem_singleton.1 hd]; exact hc
            · refine List.pairwise_append.2 ⟨xn, List.pairwise_singleton _ _, fun a ha b hb => ?_⟩
              rw [List.mem_singleton.1 hb]; exact hne a ha
            · show 12 - (x.1.i + 1) < _; omega
            · show o9 ((x.1.cs ++ [c.1]).map pOf) = _
              rw [List.drop_zero, List.map_append]
              congr 1
              rw [List.take_of_length_le (by simp)]
              rfl
        · refine ⟨⟨⟨x.1.i + 1, x.1.cs, 0⟩, by show x.1.i + 1 ≤ 12; omega, by show x.1.cs.length ≤ x.1.i + 1; omega, x8, xn⟩, ?_, ⟨rfl, rfl, ⟨rfl, rfl, Nat.le_refl _⟩, w1.symm, trivial⟩, rfl, trivial⟩
          show 12 - (x.1.i + 1) < _; omega
  all_goals
    refine br (fun _ => rfl) (fun h0 => ?_)
    have h0 : 0 < x.1.cs.length := by
      rcases Nat.eq_zero_or_pos x.1.cs.length with h | h
      · rw [h] at h0; exact absurd h0 (by simp)
      · exact h
    refine ⟨⟨⟨⟨0, x.1.cs⟩, ⟨Nat.le_refl _, by show x.1.cs.length ≤ 12; omega, x8, xn⟩, Nat.zero_le _, h0⟩, ⟨rfl, ⟨rfl, rfl, Nat.le_refl _⟩, rfl, rfl, trivial⟩, rfl, trivial⟩, fun y => ?_⟩
    have y8 : ∀ c ∈ y.1.cs, c < 8 := y.2.1.lt
    have yn : y.1.cs.Pairwise (· ≠ ·) := y.2.1.ne
    have y12 : y.1.cs.length ≤ 12 := y.2.1.l
    have yk := y.2.2.1
    have y0 := y.2.2.2
    have hl := txt_len y.1.cs y.1.k yk
    refine br (fun hlt => ?_) (fun hge => ?_)
    · have hlt : y.1.k < y.1.cs.length := by simpa using hlt
      have e1 : 0 + ((y.1.k : Int)).toNat = y.1.k := by omega
      have wk : IntKind.i64.wrap ((y.1.k : Int) + 1) = ((y.1.k + 1 : Nat) : Int) := by rw [wrap_id] <;> omega
      have hg : (y.1.cs.map pOf).getD y.1.k [] = pOf (y.1.cs.getD y.1.k 0) := by simp [List.getD, hlt]
      rw [e1, hg]
      refine brT (Nat.ble_eq_true_of_le (by omega)) (brT (dT (by omega)) (brT (Nat.ble_eq_true_of_le (by simp; omega)) (brT (Nat.ble_eq_true_of_le ?_) (brT (Nat.ble_eq_true_of_le ?_) ?_))))
      · rw [List.length_append, hl]; show 10 + 22 * y.1.k + 8 + 6 ≤ _; omega
      · rw [List.length_append, List.length_append, hl]; show 10 + 22 * y.1.k + 8 + 6 + 8 ≤ _; omega
      · refine ⟨⟨⟨y.1.k + 1, y.1.cs⟩, y.2.1, hlt, y0⟩, ?_, ⟨rfl, ⟨rfl, rfl, Nat.le_refl _⟩, ?_, wk.symm, trivial⟩, rfl, trivial⟩
        · show y.1.cs.length - (y.1.k + 1) < _; omega
        · show txtM (y.1.cs.map pOf) y.1.k ++ (qLine ((y.1.cs.map pOf).getD y.1.k []) ++ [10, 10]) = _
          rw [hg]; unfold qLine; simp
    · have hk : y.1.k = y.1.cs.length := by
        have : ¬ y.1.k < y.1.cs.length := by simpa using hge
        omega
      rw [hk] at hl ⊢
      have hg : (y.1.cs.map pOf).getD 0 [] = pOf (y.1.cs.getD 0 0) := by simp [List.getD, y0]
      have hm : y.1.cs.getD 0 0 ∈ y.1.cs := by simp [List.getD, y0]
      rw [hg]
      refine br (fun ht => ?_) (fun ht => ?_)
      · refine brT (Nat.ble_eq_true_of_le (by omega)) (brT (dT (by omega)) (brT (Nat.ble_eq_true_of_le (by simp; omega)) (brT (Nat.ble_eq_true_of_le ?_) (brT (Nat.ble_eq_true_of_le ?_) ?_))))
        · rw [List.length_append, hl]; show 10 + 22 * y.1.cs.length + 6 + 6 ≤ _; omega
        · rw [List.length_append, List.length_append, hl]; show 10 + 22 * y.1.cs.length + 6 + 6 + 6 ≤ _; omega
        · have hq : ∀ a : B, a ++ [113, 117, 101, 117, 101, 32] ++ pOf (y.1.cs.getD 0 0) ++ [32, 52, 32, 53, 47, 54] = a ++ qLast (pOf (y.1.cs.getD 0 0)) := by
            intro a; unfold qLast; simp
          rw [hq, parse_twice y8 yn y12 hm]
          refine brT (Nat.ble_eq_true_of_le ?_) (brT ht (brT rfl rfl))
          show ((txtM (y.1.cs.map pOf) y.1.cs.length ++ [113, 117, 101, 117, 101, 32] ++ pOf (y.1.cs.getD 0 0) ++ [32, 52, 32, 53, 47, 54] : B)).length + 1 ≤ 1000000
          rw [List.length_append, List.length_append, List.length_append, hl]; show 10 + 22 * y.1.cs.length + 6 + 6 + 6 + 1 ≤ _; omega
      · rw [parse_once y8 yn y12]
        refine brT (Nat.ble_eq_true_of_le (by omega)) (brF ht (brF rfl (brF (by rw [ys_len]; simp) ?_)))
        refine ⟨⟨⟨⟨1, y.1.cs⟩, y.2.1, Nat.le_refl _, y0, y0⟩, ⟨⟨rfl, rfl⟩, rfl, trivial⟩, ⟨⟨rfl, rfl, trivial⟩, trivial⟩, trivial⟩, fun z => ?_⟩
        have z8 : ∀ c ∈ z.1.cs, c < 8 := z.2.1.lt
        have zn : z.1.cs.Pairwise (· ≠ ·) := z.2.1.ne
        have z12 : z.1.cs.length ≤ 12 := z.2.1.l
        have z1 := z.2.2.1
        have zk := z.2.2.2.1
        have z0 := z.2.2.2.2
        have hyl := ys_len z.1.cs
        refine br (fun hlt => ?_) (fun hge => ?_)
        · have hlt : z.1.k < z.1.cs.length := by rw [hyl] at hlt; simpa using hlt
          obtain ⟨j, hj⟩ : ∃ j, z.1.k = j + 1 := ⟨z.1.k - 1, by omega⟩
          have w1 : IntKind.i64.wrap ((z.1.k : Int) - 1) = ((j : Nat) : Int) := by rw [wrap_id] <;> omega
          have w2 : IntKind.i64.wrap ((z.1.k : Int) + 1) = ((z.1.k + 1 : Nat) : Int) := by rw [wrap_id] <;> omega
          have e2 : (((j : Nat) : Int)).toNat = j := by simp
          have e3 : ((z.1.k : Int)).toNat = j + 1 := by omega
          have ha := (ys_asc z8 zn (j := j) (by omega)).1
          rw [w1, e2, e3]
          refine brT (by rw [hyl]; simp; omega) (brT (by rw [hyl]; simp; omega) (brF (congrArg (!·) ha) ?_))
          refine ⟨⟨⟨z.1.k + 1, z.1.cs⟩, z.2.1, by show 1 ≤ z.1.k + 1; omega, hlt, z0⟩, ?_, ⟨⟨rfl, rfl⟩, w2.symm, trivial⟩, ⟨⟨rfl, rfl, trivial⟩, trivial⟩, trivial⟩
          show z.1.cs.length - (z.1.k + 1) < _; omega
        · have hc : ((ysOf z.1.cs).getD 0 (Qu.mk [] [] 0)).caps = [⟨2, 3⟩] := ys_caps z8 zn z0
          rw [hc]
          exact brT (by rw [hyl]; simp; omega) (brT rfl rfl)
end Go.Proofs.YtaonjbojhikndaaDoor
