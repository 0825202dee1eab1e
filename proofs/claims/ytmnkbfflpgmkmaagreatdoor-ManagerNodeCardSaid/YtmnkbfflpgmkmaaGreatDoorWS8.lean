/- That conversions and literals do to the machine what the evaluator says. No conditions. -/
import Derived.Test.YtmnkbfflpgmkmaaGreatDoorWS7
namespace Go.W
open Go Go.RowKit

section
variable {reg : Reg} {P : Program} {N F : Nat → Prop} {φ : Phi} {h : Hp reg.T} {w : World}

theorem bytesOf_spec : ∀ {xs : List (List (V reg.T))} {s : List UInt8}, bytesOf xs = some s → s.length = xs.length ∧ ∀ r, r < xs.length → ∃ n : Int, xs.getD r [] = [.d (.int .u8 n)] ∧ s.getD r 0 = UInt8.ofNat n.toNat
  | [], s, h => by simp only [bytesOf, Option.some.injEq] at h; subst h; exact ⟨rfl, fun r hr => by simp at hr⟩
  | x :: xs, s, h => by
    unfold bytesOf at h
    split at h
    · rename_i heq; cases heq
    · rename_i n l heq
      cases heq
      split at h
      · rename_i r hr
        simp only [Option.some.injEq] at h
        subst h
        obtain ⟨h1, h2⟩ := bytesOf_spec hr
        refine ⟨by simp [h1], fun q hq => ?_⟩
        cases q with
        | zero => exact ⟨n, rfl, rfl⟩
        | succ q => simpa using h2 q (by simpa using hq)
      · cases h
    · cases h

theorem rwBytes_spec {rs : Rw reg.T} {s : List UInt8} (h : rwBytes rs = some s) : s.length = rs.len ∧ ∀ r, r < rs.len → ∃ n : Int, rs.row reg r = [.d (.int .u8 n)] ∧ s.getD r 0 = UInt8.ofNat n.toNat := by
  cases rs with
  | u xs => exact bytesOf_spec h
  | t e xs =>
    simp only [rwBytes] at h
    split at h
    · rename_i hb
      simp only [Option.some.injEq] at h
      subst h
      refine ⟨reg.toS_len e xs hb, fun r hr => ?_⟩
      obtain ⟨n, h1, h2⟩ := reg.toS_get e xs r hb hr
      exact ⟨n, by simp only [Rw.row]; rw [h1]; rfl, h2⟩
    · cases h

theorem foldl_push : ∀ (ns : List Int) (r : ByteArray), ns.foldl (fun r n => r.push (UInt8.ofNat n.toNat)) r = ⟨r.data ++ (ns.map fun n => UInt8.ofNat n.toNat).toArray⟩
  | [], r => by simp
  | n :: l, r => by
    simp only [List.foldl_cons, List.map_cons]
    rw [foldl_push l]
    simp [ByteArray.push]

theorem slv_form {k n : Nat} {x : V reg.T} {cx : Value} {rs : Rw reg.T} (hsl : slv k x h = some (n, rs)) (hx : VRel reg F w φ x cx) : ∃ base cap', cx = .slice base n cap' := by
  cases x with
  | d x =>
    cases hx with | d _ _ hd' =>
    have hl : x.len? reg = some n := by
      simp only [slv] at hsl
      split at hsl
      · rename_i m hm _; cases hsl; exact hm
      · cases hsl
    cases hd' <;> (try (simp only [D.len?, reduceCtorEq] at hl; done))
    case nils => simp only [D.len?, Option.some.injEq] at hl; subst hl; exact ⟨none, 0, rfl⟩
    case emp base cap hx1 hx2 => rw [hx2] at hl; cases hl; exact ⟨base, cap, rfl⟩
    case sl n' a cap C t' fz hF hb hs hc hm hx1 hx2 hz hkr hr => rw [hx2] at hl; cases hl; exact ⟨_, cap, rfl⟩
  | sl i off len cap =>
    have hl : len = n := by
      simp only [slv] at hsl
      split at hsl
      · split at hsl
        · cases hsl; rfl
        · cases hsl
      · cases hsl
    subst hl
    cases hx with
    | sl _ _ _ _ b s k z cap' hp hcr hlc hm hzz => exact ⟨_, cap', rfl⟩
    | slz _ _ _ base hcr => exact ⟨base, 0, rfl⟩
  | _ => simp [slv] at hsl

theorem convertG_ok {src dst : TypeId} {x : V reg.T} {cx : Value} {Q : V reg.T × Hp reg.T → Prop} (hH : HR N F φ h w) (hfr : ∀ r, Q r → Fresh N h.nx r.2.nx) (hq : (convertG P src dst x h).K Q) (hx : VRel reg F w φ x cx) : OpOk P N F φ h w (convert src dst cx) Q := by
  unfold convertG at hq
  split at hq
  · rename_i ds k k' n hs hd
    rw [hx.int_inv]
    exact ⟨_, w, by simp [convert, run_underlying hs, run_underlying hd, Conv.intToInt], .pure hH hq (.d _ _ (.int _ _))⟩
  · rename_i ds s hs hd
    rw [hx.str_inv]
    exact ⟨_, w, by simp [convert, run_underlying hs, run_underlying hd], .pure hH hq (.d _ _ (.str _))⟩
  · -- text to bytes
    rename_i ds e s hs hd
    rw [hx.str_inv]
    split at hq
    · rename_i o hu hk1 ho
      have hu := u8T_eq hu
      have hk1 := Nat.eq_of_beq_eq_true hk1
      obtain ⟨hb, hq⟩ := Out.K_need.1 hq
      have hb : s.length ≤ 140737488355328 := Nat.le_of_ble_eq_true hb
      obtain ⟨hok, hq⟩ := K_newO hq
      obtain ⟨g1, g2, g3, g4⟩ := mkRows_spec ho
      obtain ⟨s1, s2⟩ := strRw_spec (reg := reg) e s
      have hsz : (ByteArray.mk s.toArray).size = s.length := by simp [ByteArray.size]
      have hrun := Lib.run_convert_string_bytes (P := P) w src dst e (ByteArray.mk s.toArray) hs hd hu
      rw [hsz] at hrun
      have hcap1 := grownCap_ge w s.length 0 e
      have hcap2 := grownCap_le_maxLen w s.length 0 e (by simp [maxLen]; omega)
      have hC : (Lib.bytesCells w e (ByteArray.mk s.toArray)).size = grownCap w s.length 0 e := by
        simp [Lib.bytesCells, hsz]; omega
      have z0 : (Rw.u [] : Rw reg.T).len = 0 := rfl
      rw [z0, s1, Nat.zero_add] at g3
      rw [z0, s1, Nat.zero_add] at g4
      refine ⟨_, _, hrun, alloc_ok hH hq (fresh_new hfr hq) hok rfl rfl rfl (by rw [Lib.bytesWorld_size]; omega) (fun b hb => Lib.bytesWorld_at_old w e _ b hb) (Lib.bytesWorld_at_new w e _) (.inr (Nat.le_refl _)) g1 (by rw [g3, g2, hk1, hC]; omega) (by rw [g3]; omega) ?_ ?_⟩
      · rw [g3, g2, hk1]
        have hrow : ∀ r, r < s.length → o.row reg r = [.d (.int .u8 (s.getD r 0).toNat)] := fun r hr => by rw [g4 r hr, if_neg (by omega), Nat.sub_zero, s2 r hr]
        refine ⟨fun r hr => by rw [hrow r hr]; rfl, fun r j hr hj => ?_, fun r j hr hj => ?_⟩
        · obtain rfl : j = 0 := by omega
          rw [hrow r hr]; rfl
        · obtain rfl : j = 0 := by omega
          rw [hrow r hr, Nat.mul_one, Nat.add_zero]
          have e1 : (Lib.bytesCells w e (ByteArray.mk s.toArray)).getD r undef = .int .u8 (s.getD r 0).toNat := by
            simp only [Lib.bytesCells, Array.getD_eq_getD_getElem?]
            rw [Array.getElem?_append_left (by simp; exact hr)]
            simp [List.getD, hr]
          rw [e1]
          exact .d _ _ (.int _ _)
      · intro φ' e1 e2
        rw [g2, hk1, hC] at e1
        have := VRel.sl (reg := reg) (F := F) (w := Lib.bytesWorld w e (ByteArray.mk s.toArray)) (φ := φ') h.nx 0 s.length (.least s.length) _ _ _ _ (grownCap w s.length 0 e) e1 hcap1 hcap1 (by simpa [maxLen] using hcap2) (by omega)
        simpa using this
    · exact hq.elim
  · -- bytes to bytes
    rename_i es e i off len cap hs hd
    split at hq
    · rename_i o hc ho
      simp only [Bool.and_eq_true] at hc
      have hsd := Nat.eq_of_beq_eq_true hc.1
      have hu := u8T_eq hc.2
      subst hsd
      rw [hs] at hd
      cases hd
      obtain ⟨hrow, hq⟩ := Out.K_ask.1 hq
      obtain ⟨hpos, hq⟩ := Out.K_need.1 hq
      have hpos : 0 < len := Nat.le_of_ble_eq_true hpos
      · cases hx with
        | sl _ _ _ _ b s k z cap' hp hcr hlc hm hzz =>
          obtain ⟨h0, rfl, _, _, C, ct, fz, h1, h3, h2, hCz⟩ := row_at hH ho hp hrow
          obtain ⟨lo, hi⟩ := fz
          have hnew : (w.freeze ⟨b, C.size, none⟩ 1).heap[b]? = some (.cells C ct (if lo == hi then (C.size, C.size + 1) else (min lo C.size, max hi (C.size + 1)))) := by
            simp [World.freeze, Array.getElem?_modify, h1]
          have hold : ∀ b', b' ≠ b → (w.freeze ⟨b, C.size, none⟩ 1).heap[b']? = w.heap[b']? := by
            intro b' hb'
            simp [World.freeze, Array.getElem?_modify, Ne.symm hb']
          have hrun : (convert src src (.slice (some ⟨b, s + off * o.k reg, none⟩) len cap')).run P w = .ok (.slice (some ⟨b, s + off * o.k reg, none⟩) len cap') (w.freeze ⟨b, C.size, none⟩ 1) := by
            have hsh : w.shape? b = some (ct, C.size) := by simp [World.shape?, h1]
            simp [convert, run_underlying hs, run_underlying hu, markStringish, hsh, Result.andThen]
          have hfree : free C (if lo == hi then (C.size, C.size + 1) else (min lo C.size, max hi (C.size + 1))) := by
            unfold free at *
            by_cases he : lo = hi
            · right; simp [he]
            · have h4 : (lo == hi) = false := by simpa using he
              rw [h4]
              simp only [Bool.false_eq_true, if_false]
              simp only at h3
              right
              omega
          exact ⟨_, _, hrun, write_ok hH ho hp hCz hq (by simp [World.freeze]) (by simp [World.freeze]) (by simp [World.freeze]) (by simp [World.freeze]) hold hnew hfree h0 rfl h2 (.sl _ _ _ _ b s _ z cap' hp hcr hlc hm hzz)⟩
        | slz _ _ _ base hcr => omega
    · exact hq.elim
  · -- bytes to text
    rename_i e hs hd hno
    split at hq
    · rename_i p0 n rs hc hsl0
      have hp0 := (Out.K_need.1 hq).1
      replace hq := (Out.K_need.1 hq).2
      have hsl := slvX_to hsl0 hp0
      simp only [Bool.and_eq_true] at hc
      have hu := u8T_eq hc.1
      split at hq
      · rename_i s hb
        obtain ⟨news, hy⟩ := slv_ok (P := P) (tx := src) hH (.inl ⟨e, hs⟩) hsl hx
        obtain ⟨b1, b2⟩ := rwBytes_spec hb
        rw [hy.len] at b1 b2
        have hform := slv_form hsl hx
        obtain ⟨base, cap', rfl⟩ := hform
        have hnl := hy.src.newsLen
        rw [Nat.mul_one] at hnl
        -- the cells are bytes
        have hcells : ∀ r, r < n → ∃ m : Int, news.getD r undef = .int .u8 m ∧ s.getD r 0 = UInt8.ofNat m.toNat := by
          intro r hr
          obtain ⟨m, e1, e2⟩ := b2 r hr
          have := hy.at_.rel r 0 hr (by omega)
          rw [e1, Nat.mul_one, Nat.add_zero] at this
          exact ⟨m, this.int_inv, e2⟩
        have hns : ∃ ns : List Int, news = ns.map (Value.int .u8) ∧ s = ns.map fun m => UInt8.ofNat m.toNat := by
          have key : ∀ (news : List Value) (s : List UInt8), s.length = news.length → (∀ r, r < news.length → ∃ m : Int, news.getD r undef = .int .u8 m ∧ s.getD r 0 = UInt8.ofNat m.toNat) → ∃ ns : List Int, news = ns.map (Value.int .u8) ∧ s = ns.map fun m => UInt8.ofNat m.toNat := by
            intro news
            induction news with
            | nil => intro s hl _; exact ⟨[], rfl, by simpa using hl⟩
            | cons v news ih =>
              intro s hl hc
              cases s with
              | nil => simp at hl
              | cons b s =>
                obtain ⟨m, e1, e2⟩ := hc 0 (by simp)
                obtain ⟨ns, e3, e4⟩ := ih s (by simpa using hl) (fun r hr => by simpa using hc (r + 1) (by simpa using hr))
                exact ⟨m :: ns, by simp at e1; simp [e1, ← e3], by simp at e2; simp [e2, ← e4]⟩
          exact key news s (by omega) (fun r hr => hcells r (by omega))
        obtain ⟨ns, rfl, rfl⟩ := hns
        refine ⟨.string ⟨(ns.map fun m => UInt8.ofNat m.toNat).toArray⟩, w, ?_, .pure hH hq (.d _ _ (.str _))⟩
        rw [run_convert_bytes_string w src dst e base n cap' hs hu hd]
        cases base with
        | none =>
          have hn0 : ns = [] := by
            have := hy.src.cells
            simp [Builtin.firstCells] at this
            exact this
          subst hn0
          simp [Conv.bytesToString, ByteArray.empty, ByteArray.emptyWithCapacity]
          rfl
        | some a =>
          have hl := hy.src.cells
          simp only [Builtin.firstCells, Nat.mul_one] at hl
          rw [run_bytesToString w a n cap' ns hl, foldl_push]
          have e0 : ByteArray.empty.data = #[] := rfl
          rw [e0, Array.empty_append]
      · exact hq.elim
    · exact hq.elim
  · exact hq.elim
end
end Go.W
