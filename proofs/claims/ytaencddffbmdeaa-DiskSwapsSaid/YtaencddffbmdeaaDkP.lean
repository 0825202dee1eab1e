/- The contracts of disk hold. No conditions. -/
import Derived.Test.YtaencddffbmdeaaDkV
namespace Go.Proofs.Ytaencddffbmdeaa
open Go Go.W Go.Proofs

theorem mixed : Try.prog.follows .mixedOrders = true := by kernel_rfl
theorem noNum : (Try.prog.funcs.toList.all fun fn => fn.body.isNone || !(fn.name == "runtime.NumGoroutine")) = true := by kernel_rfl
theorem hno : ∀ (f : FuncId) fn, Try.prog.funcs[f]? = some fn → fn.body.isNone = false → (fn.name == "runtime.NumGoroutine") = false := by
  intro f fn h hb
  have := List.all_eq_true.1 noNum fn (by rw [Array.mem_toList_iff]; exact Array.mem_of_getElem? h)
  rw [hb] at this
  simpa using this
theorem b5 : Try.prog.bytesOf 5 = 1 := by kernel_rfl

theorem h0_sound : HdSound Try.prog h0 := hdT_sound mixed hno (fun f S h => by cases h) _ _ _

theorem small_le {n : Nat} (h : small n = true) : n ≤ 16777216 := Nat.le_of_ble_eq_true h

theorem setRange_len {α : Type} {vs cs : List α} {o : Nat} (h : o + cs.length ≤ vs.length) : (setRange vs o cs).length = vs.length := by
  unfold setRange; simp; omega
theorem setRange_all {α : Type} (z : α) (b : List α) (n : Nat) (h : n = b.length) : setRange (List.replicate n z) 0 b = b := by
  unfold setRange; simp; omega

theorem wrap_id {n : Int} (h1 : -9223372036854775808 ≤ n) (h2 : n ≤ 9223372036854775807) : IntKind.i64.wrap n = n := IntWalk.i64_in _ ⟨h1, h2⟩

theorem ok39 (d : List UInt8) (h : SB.pre d = true) : Meets h0 39 SB d := by
  refine Meets.mk ?_
  rw [v39]
  have h : d.length ≤ 16777216 := Nat.le_of_ble_eq_true h
  simp only [branch_iff, b5]
  simp [bs, setRange_len, setRange_all]
  omega
theorem list_app (a b : List UInt8) (z : UInt8) (n : Nat) (h : n = a.length + b.length) : setRange (setRange (List.replicate n z) 0 a) a.length b = a ++ b := by
  unfold setRange; simp; omega

theorem ok39l (d : Bv) (h : SC.pre d = true) : Meets h0 39 SC d := by
  refine Meets.mk ?_
  rw [v39l]
  simp only [SC, Bool.and_eq_true] at h
  have h1 : d.off + d.len ≤ d.xs.length := Nat.le_of_ble_eq_true h.1
  have h2 : d.len ≤ 16777216 := Nat.le_of_ble_eq_true h.2
  have hl : d.bytes.length = d.len := by simp [Bv.bytes]; omega
  simp only [branch_iff, b5, show List.take d.len (List.drop d.off d.xs) = d.bytes from rfl]
  simp [bs, setRange_all, hl, h1, List.take_of_length_le]
  omega

theorem ok38 (d : DSt) : Meets h0 38 (S0 tt s38) d := by
  refine Meets.mk ?_
  rw [v38]
  simp only [branch_iff]
  by_cases h : 0 < d.left <;> cases h2 : (w64 (d.left - 1) == 0) <;> cases h3 : d.dead <;> simp [DSt.spend, h, h2, h3]
theorem ok40 (d : RSt) : Meets h0 40 (R0 tt s40) d := by
  refine Meets.mk ?_
  rw [v40]
  simp only [branch_iff]
  cases h : (d.left == 0) <;> cases h2 : (w64 (d.left - 1) == 0) <;> simp [RSt.goes, h, h2]
theorem ok41 (d : RSt) : Meets h0 41 (R0 tt s41) d := by
  refine Meets.mk ?_
  rw [v41]
  simp only [branch_iff]
  cases h3 : d.dead <;> simp [RSt.end_, h3]

theorem there (f : Nat) (h : (match Try.prog.funcs[f]? with | some fn => !fn.body.isNone | none => false) = true) : There Try.prog f := by
  split at h
  · rename_i fn hfn
    have hb : fn.body.isNone = false := by simpa using h
    exact ⟨fn, hfn, hno f fn hfn hb, hb⟩
  · cases h

theorem spec_of {n : Nat} {f : FuncId} {S : Go.W.Spec regK.T} {C : Con regK.T} (hC : ConOk Try.prog C) (ht : (match Try.prog.funcs[f]? with | some fn => !fn.body.isNone | none => false) = true) (h : ∀ a, S.pre a = true → Meets (hdT regK Try.prog C (fun _ => false) 1000 n) f S a) : SpecOk Try.prog f S :=
  specOk_of_leaf mixed (hdT_sound mixed hno hC _ _ _) hno (there f ht) (fun a ha => (h a ha).go)

/-- What a table's row owes. -/
def RowOk (f : FuncId) (S : List VK → Hp regK.T → Out (VK × Hp regK.T)) : Prop := ∀ args h Q, (S args h).K Q → There Try.prog f ∧ ∀ N F φ w cargs, (∀ r, Q r → Fresh N h.nx r.2.nx) → HR N F φ h w → LRel F w φ args cargs → Calls Try.prog f cargs w (CallPost N F φ h w Q)
theorem RowOk.or {f : FuncId} {x y : List VK → Hp regK.T → Out (VK × Hp regK.T)} {p} (hx : RowOk f x) (hy : RowOk f y) : RowOk f (Con.or p x y) := by
  intro args h Q hq
  unfold Con.or at hq
  split at hq
  · exact hx args h Q hq
  · exact hy args h Q hq
theorem conOk_cons {f : FuncId} {S} {l : List (Nat × (List VK → Hp regK.T → Out (VK × Hp regK.T)))} (h : RowOk f S) (hl : ConOk Try.prog (fun g => lookN l g)) : ConOk Try.prog (fun g => lookN ((f, S) :: l) g) := by
  intro g S' hg
  simp only [lookN] at hg
  split at hg
  · rename_i hb
    cases hg
    rw [← Nat.eq_of_beq_eq_true hb]
    exact h
  · exact hl g S' hg
theorem conOk_nil : ConOk (reg := regK) Try.prog (fun g => lookN [] g) := fun f S h => by cases h
theorem sz1 {a : Nat} (h : a = 1) : a ≤ 1000000 := by omega

theorem c0 : ConOk (reg := regK) Try.prog (fun _ => none) := fun f S h => by cases h
theorem k38 : SpecOk Try.prog 38 (S0 tt s38) := spec_of (n := 1) c0 (by kernel_rfl) (fun a _ => ok38 a)
theorem k39 : SpecOk Try.prog 39 SB := spec_of (n := 1) c0 (by kernel_rfl) ok39
theorem k39l : SpecOk Try.prog 39 SC := spec_of (n := 1) c0 (by kernel_rfl) ok39l
theorem k40 : SpecOk Try.prog 40 (R0 tt s40) := spec_of (n := 1) c0 (by kernel_rfl) (fun a _ => ok40 a)
theorem k41 : SpecOk Try.prog 41 (R0 tt s41) := spec_of (n := 1) c0 (by kernel_rfl) (fun a _ => ok41 a)
theorem C1_ok : ConOk Try.prog C1 :=
  conOk_cons (Spec.con_ok k38 _ (fun a => Nat.le_of_ble_eq_true rfl)) <|
  conOk_cons (RowOk.or (Spec.con_ok k39l _ (fun a => Nat.le_of_ble_eq_true rfl)) (Spec.con_ok k39 _ (fun a => Nat.le_of_ble_eq_true rfl))) <|
  conOk_cons (Spec.con_ok k40 _ (fun a => Nat.le_of_ble_eq_true rfl)) <|
  conOk_cons (Spec.con_ok k41 _ (fun a => Nat.le_of_ble_eq_true rfl)) conOk_nil

structure DFine (d : DSt) : Prop where
  s0 : 0 ≤ d.synced
  s1 : d.synced ≤ d.log.length
  r0 : 0 ≤ d.room
  r1 : d.room ≤ 16777216
  sz : d.log.length + d.snap.length ≤ 16777216
theorem fine_D {d : DSt} (h : d.fine = true) : DFine d := by
  simp only [DSt.fine, Bool.and_eq_true, decide_eq_true_eq] at h
  exact ⟨h.1.1.1.1, h.1.1.1.2, h.1.1.2, h.1.2, Nat.le_of_ble_eq_true h.2⟩
structure RFine (d : RSt) : Prop where
  s0 : 0 ≤ d.synced
  s1 : d.synced ≤ d.log.length
  r0 : 0 ≤ d.room
  r1 : d.room ≤ 16777216
  sz : d.log.length + d.snap.length ≤ 16777216
theorem fine_R {d : RSt} (h : d.fine = true) : RFine d := by
  simp only [RSt.fine, Bool.and_eq_true, decide_eq_true_eq] at h
  exact ⟨h.1.1.1.1, h.1.1.1.2, h.1.1.2, h.1.2, Nat.le_of_ble_eq_true h.2⟩

theorem spend_log (d : DSt) : d.spend.1.log = d.log := rfl
theorem spend_snap (d : DSt) : d.spend.1.snap = d.snap := rfl

theorem len1 (a : List UInt8) (n : Nat) (z : UInt8) (h : a.length ≤ n) : (setRange (List.replicate n z) 0 a).length = n := by unfold setRange; simp; omega
theorem len2 (a b : List UInt8) (n : Nat) (z : UInt8) (h : n = a.length + b.length) : (setRange (setRange (List.replicate n z) 0 a) a.length b).length = n := by rw [list_app a b z n h]; simp; omega

theorem ok23 (d : DSt) (b : List UInt8) (h : pD d b.length = true) : Meets h1 23 (S2 pD s23) (d, b) := by
  refine Meets.mk ?_
  rw [v23]
  simp only [pD, Bool.and_eq_true] at h
  have hf := fine_D h.1
  have hb := small_le h.2
  have h1 := hf.sz
  obtain ⟨n, hn⟩ : ∃ n, n = d.log.length + b.length := ⟨_, rfl⟩
  have e1 : IntKind.i64.wrap ((d.log.length : Int) + (b.length : Int)) = (n : Int) := by rw [wrap_id] <;> omega
  have e2 : d.log.length.min n = d.log.length := Nat.min_eq_left (by omega)
  have e3 : b.length.min (n - d.log.length) = b.length := Nat.min_eq_left (by omega)
  have e4 := list_app d.log b 0 n hn
  have e5 := len1 d.log n 0 (by omega)
  have e8 : List.take n (d.log ++ b) = d.log ++ b := List.take_of_length_le (by simp; omega)
  simp only [branch_iff, b5, spend_log, e1]
  cases h2 : d.dead <;> by_cases h3 : w64 (w64 (d.room - d.log.length) - d.snap.length) < b.length <;> cases h4 : d.spend.2 <;>
    simp [DSt.append, h2, h3, h4, bs, e2, e3, e4, e5, e8, capMin, ans, spend_snap] <;> omega

theorem ok23l (d : Lv) (h : (S3 pD s23l).pre d = true) : Meets h1 23 (S3 pD s23l) d := by
  refine Meets.mk ?_
  rw [v23l]
  simp only [S3, pD, Bool.and_eq_true] at h
  have hf := fine_D h.1.1
  have hb := small_le h.1.2
  have h0 : d.off + d.len ≤ d.xs.length := Nat.le_of_ble_eq_true h.2
  have h1 := hf.sz
  have hl : d.bytes.length = d.len := by simp [Lv.bytes]; omega
  obtain ⟨n, hn⟩ : ∃ n, n = d.d.log.length + d.len := ⟨_, rfl⟩
  have e1 : IntKind.i64.wrap ((d.d.log.length : Int) + (d.len : Int)) = (n : Int) := by rw [wrap_id] <;> omega
  have e2 : d.d.log.length.min n = d.d.log.length := Nat.min_eq_left (by omega)
  have e3 : d.len.min (n - d.d.log.length) = d.len := Nat.min_eq_left (by omega)
  have e4 := list_app d.d.log d.bytes 0 n (by omega)
  have e5 := len1 d.d.log n 0 (by omega)
  have e6 : List.take d.len d.bytes = d.bytes := List.take_of_length_le (by omega)
  have e7 := hl
  have e8 : List.take n (d.d.log ++ d.bytes) = d.d.log ++ d.bytes := List.take_of_length_le (by simp; omega)
  simp only [branch_iff, b5, spend_log, e1, show List.take d.len (List.drop d.off d.xs) = d.bytes from rfl]
  cases h2 : d.d.dead <;> by_cases h3 : w64 (w64 (d.d.room - d.d.log.length) - d.d.snap.length) < d.len <;> cases h4 : d.d.spend.2 <;>
    simp [DSt.append, h2, h3, h4, bs, e2, e3, e4, e5, e6, e7, e8, h0, capMin, ans, spend_snap] <;> omega

theorem ok24 (d : DSt) (b : List UInt8) (h : pD d b.length = true) : Meets h1 24 (S2 pD s24) (d, b) := by
  refine Meets.mk ?_
  rw [v24]
  simp only [pD, Bool.and_eq_true] at h
  have hb' : Nat.ble b.length 16777216 = true := h.2
  have ho : d.spend.1.odd = d.odd := rfl
  simp only [branch_iff, b5, ho]
  cases h2 : d.dead <;> cases h3 : decide (d.room < b.length) <;> cases h4 : d.spend.2 <;> cases h5 : (d.odd == 0) <;>
    simp [DSt.swap, h2, h3, h4, h5, hb', bs, ans, spend_snap, spend_log, SB] <;> simp_all

theorem ok24l (d : Lv) (h : (S3 pD s24l).pre d = true) : Meets h1 24 (S3 pD s24l) d := by
  refine Meets.mk ?_
  rw [v24l]
  simp only [S3, pD, Bool.and_eq_true] at h
  have hb' : Nat.ble d.len 16777216 = true := h.1.2
  have h0 : Nat.ble (d.off + d.len) d.xs.length = true := h.2
  have h0' : d.off + d.len ≤ d.xs.length := Nat.le_of_ble_eq_true h.2
  have hl : d.bytes.length = d.len := by simp [Lv.bytes]; omega
  have ho : d.d.spend.1.odd = d.d.odd := rfl
  have hbb : Bv.bytes ⟨d.xs, d.off, d.len, d.cap⟩ = d.bytes := rfl
  simp only [branch_iff, b5, ho]
  cases h2 : d.d.dead <;> cases h3 : decide (d.d.room < d.len) <;> cases h4 : d.d.spend.2 <;> cases h5 : (d.d.odd == 0) <;>
    simp [DSt.swap, h2, h3, h4, h5, hl, hb', h0, bs, ans, spend_snap, spend_log, SC, hbb] <;> simp_all

theorem ok25 (d : DSt) (h : d.fine = true) : Meets h1 25 (S0 DSt.fine s25) d := by
  refine Meets.mk ?_
  rw [v25]
  have hf := (fine_D h).sz
  have h1 : Nat.ble d.log.length 16777216 = true := Nat.ble_eq_true_of_le (by omega)
  simp [branch_iff, SB, h1]
theorem ok26 (d : DSt) (h : d.fine = true) : Meets h1 26 (S0 DSt.fine s26) d := by
  refine Meets.mk ?_
  rw [v26]
  have hf := (fine_D h).sz
  have h1 : Nat.ble d.snap.length 16777216 = true := Nat.ble_eq_true_of_le (by omega)
  simp [branch_iff, SB, h1]
theorem ok27 (d : DSt) (n : Int) : Meets h1 27 (S1 tt s27) (d, n) := by
  refine Meets.mk ?_
  rw [v27]
  simp [branch_iff, DSt.stop, imax]

/-- The rest of a division, made a number from 0 on. -/
theorem rest_of (n m : Int) (h0 : 1 ≤ m) (h1 : m ≤ 16777217) : -m < n.tmod m ∧ n.tmod m < m ∧ IntKind.i64.wrap (n.tmod m + m) = n.tmod m + m ∧ (n.tmod m + m).tmod m = (if n.tmod m < 0 then n.tmod m + m else n.tmod m) := by
  have a1 : n.tmod m < m := Int.tmod_lt_of_pos n (by omega)
  have a2 : -m < n.tmod m := by
    have := Int.lt_tmod_of_pos n (show 0 < m by omega)
    exact this
  refine ⟨a2, a1, wrap_id (by omega) (by omega), ?_⟩
  rw [Int.tmod_eq_emod_of_nonneg (by omega), Int.add_emod_right]
  by_cases h : n.tmod m < 0
  · rw [if_pos h]
    rw [← Int.add_emod_right, Int.emod_eq_of_lt (by omega) (by omega)]
  · rw [if_neg h, Int.emod_eq_of_lt (by omega) (by omega)]

theorem span_of {l : Nat} {s : Int} (h0 : 0 ≤ s) (h1 : s ≤ l) (h2 : l ≤ 16777216) : IntKind.i64.wrap (IntKind.i64.wrap ((l : Int) - s) + 1) = l - s + 1 := by
  rw [wrap_id (n := (l : Int) - s) (by omega) (by omega), wrap_id (by omega) (by omega)]

theorem kept_D {d : DSt} (hf : DFine d) (n : Int) : d.kept n = (if n.tmod (d.log.length - d.synced + 1) < 0 then n.tmod (d.log.length - d.synced + 1) + (d.log.length - d.synced + 1) else n.tmod (d.log.length - d.synced + 1)) := by
  have h1 := hf.s0; have h2 := hf.s1; have h3 := hf.sz
  unfold DSt.kept
  simp only [w64, span_of h1 h2 (by omega)]
  obtain ⟨a1, a2, a3, a4⟩ := rest_of n (d.log.length - d.synced + 1) (by omega) (by omega)
  rw [a3, a4]
theorem kept_R {d : RSt} (hf : RFine d) (n : Int) : d.kept n = (if n.tmod (d.log.length - d.synced + 1) < 0 then n.tmod (d.log.length - d.synced + 1) + (d.log.length - d.synced + 1) else n.tmod (d.log.length - d.synced + 1)) := by
  have h1 := hf.s0; have h2 := hf.s1; have h3 := hf.sz
  unfold RSt.kept
  simp only [w64, span_of h1 h2 (by omega)]
  obtain ⟨a1, a2, a3, a4⟩ := rest_of n (d.log.length - d.synced + 1) (by omega) (by omega)
  rw [a3]
  by_cases h : n.tmod (d.log.length - d.synced + 1) < 0 <;> simp [h]
theorem kept_bd {l : Nat} {s : Int} (h0 : 0 ≤ s) (h1 : s ≤ l) (h2 : l ≤ 16777216) (n : Int) {k : Int} (hk : k = (if n.tmod (l - s + 1) < 0 then n.tmod (l - s + 1) + (l - s + 1) else n.tmod (l - s + 1))) : 0 ≤ k ∧ s + k ≤ l ∧ IntKind.i64.wrap (s + k) = s + k := by
  obtain ⟨a1, a2, _, _⟩ := rest_of n (l - s + 1) (by omega) (by omega)
  have : 0 ≤ k ∧ k < l - s + 1 := by rw [hk]; split <;> omega
  exact ⟨this.1, by omega, wrap_id (by omega) (by omega)⟩

theorem ok28 (d : DSt) (n : Int) (h : d.fine = true) : Meets h1 28 (S1 DSt.fine s28) (d, n) := by
  refine Meets.mk ?_
  rw [v28]
  have hf := fine_D h
  have h1 := hf.s0; have h2 := hf.s1; have h3 := hf.sz
  have hs := span_of h1 h2 (by omega)
  obtain ⟨k0, k1, k2⟩ := kept_bd h1 h2 (by omega) n (kept_D hf n)
  have hk : (IntKind.i64.wrap (n.tmod (IntKind.i64.wrap (IntKind.i64.wrap ((d.log.length : Int) - d.synced) + 1)) + IntKind.i64.wrap (IntKind.i64.wrap ((d.log.length : Int) - d.synced) + 1))).tmod (IntKind.i64.wrap (IntKind.i64.wrap ((d.log.length : Int) - d.synced) + 1)) = d.kept n := rfl
  simp only [branch_iff]
  simp only [hk]
  simp only [hs]
  have e1 : Nat.ble (List.take (IntKind.i64.wrap (d.synced + d.kept n)).toNat d.log).length 16777216 = true := Nat.ble_eq_true_of_le (by simp; omega)
  have e2 : ¬ ((d.log.length : Int) - d.synced + 1 = 0) := by omega
  simp only [DSt.crash, k2] at e1 ⊢
  have e4 : SB.pre (List.take (d.synced + d.kept n).toNat d.log) = true := by simpa [SB] using e1
  simp [e2, e4]
  omega

theorem ok29 (d : DSt) (h : d.fine = true) : Meets h1 29 (S0 DSt.fine s29) d := by
  refine Meets.mk ?_
  rw [v29]
  simp only [branch_iff]
  cases h2 : d.dead <;> cases h4 : d.spend.2 <;> simp [DSt.sync, h2, h4, ans, spend_log, spend_snap]

theorem ok36 (d : RSt) (n : Int) (h : d.fine = true) : Meets h1 36 (R1 RSt.fine s36) (d, n) := by
  refine Meets.mk ?_
  rw [v36]
  have hf := fine_R h
  have h1 := hf.s0; have h2 := hf.s1; have h3 := hf.sz
  have hs := span_of h1 h2 (by omega)
  have hk := kept_R hf n
  obtain ⟨k0, k1, k2⟩ := kept_bd h1 h2 (by omega) n hk
  obtain ⟨a1, a2, a3, _⟩ := rest_of n (d.log.length - d.synced + 1) (by omega) (by omega)
  have e2 : ¬ ((d.log.length : Int) - d.synced + 1 = 0) := by omega
  simp only [branch_iff, hs, a3]
  by_cases h4 : n.tmod (d.log.length - d.synced + 1) < 0
  · rw [if_pos h4] at hk
    rw [hk] at k0 k1 k2
    simp [RSt.crash, hk, k2, bs, e2, h4]
    omega
  · rw [if_neg h4] at hk
    rw [hk] at k0 k1 k2
    simp [RSt.crash, hk, k2, bs, e2, h4]
    omega

theorem goes_log (d : RSt) : d.goes.1.log = d.log := by unfold RSt.goes; cases (d.left == 0) <;> rfl
theorem goes_snap (d : RSt) : d.goes.1.snap = d.snap := by unfold RSt.goes; cases (d.left == 0) <;> rfl
theorem goes_even (d : RSt) : d.goes.1.even = d.even := by unfold RSt.goes; cases (d.left == 0) <;> rfl
theorem goes_room (d : RSt) : d.goes.1.room = d.room := by unfold RSt.goes; cases (d.left == 0) <;> rfl
theorem goes_synced (d : RSt) : d.goes.1.synced = d.synced := by unfold RSt.goes; cases (d.left == 0) <;> rfl

theorem ok34 (d : RSt) (h : d.fine = true) : Meets h1 34 (R0 RSt.fine s34) d := by
  refine Meets.mk ?_
  rw [v34]
  simp only [branch_iff]
  cases h2 : d.dead <;> cases h4 : d.goes.2 <;> simp [RSt.sync, h2, h4, goes_log, goes_snap]
theorem ok35 (d : RSt) (n : Int) : Meets h1 35 (R1 tt s35) (d, n) := by
  refine Meets.mk ?_
  rw [v35]
  simp [branch_iff, RSt.stop, imax]

theorem bleF {a b : Nat} : Nat.ble a b = false ↔ b < a := by
  cases h : Nat.ble a b with
  | true => have := Nat.le_of_ble_eq_true h; simp; omega
  | false => simp; exact Nat.lt_of_not_le (fun h' => by rw [Nat.ble_eq_true_of_le h'] at h; cases h)
theorem take_ap (x y : UInt8) (s t : List UInt8) : List.take (s.length + 1 + (t.length + 1)) (x :: (s ++ y :: t)) = x :: (s ++ y :: t) := List.take_of_length_le (by simp; omega)
theorem ok33 (d : RSt) (b : List UInt8) (h : pR d b.length = true) : Meets h1r 33 (R2 pR s33) (d, b) := by
  refine Meets.mk ?_
  rw [v33]
  simp only [pR, Bool.and_eq_true] at h
  have hf := fine_R h.1
  have hb := small_le h.2
  have h1 := hf.sz
  obtain ⟨l, hl⟩ : ∃ l, l = d.log := ⟨_, rfl⟩
  have hm : ∀ x, d.dead = false → decide (d.room < w64 (w64 (d.log.length + d.snap.length) + b.length)) = false → d.goes.1.dead = x → d.append b = ({ d.goes.1 with log := l ++ b, done := bif x then d.goes.1.done else w64 (d.goes.1.done + 1) }, ans (!x)) := by
    intro x h2 h3 h4
    unfold RSt.append RSt.end_
    rw [h2, h3, hl]
    cases x <;> simp [h4, ans]
  have hm1 : d.dead = true → d.append b = (d, 17) := fun h => by simp [RSt.append, h]
  have hm2 : d.dead = false → decide (d.room < w64 (w64 (d.log.length + d.snap.length) + b.length)) = true → d.append b = (d, 16) := fun h h' => by unfold RSt.append; rw [h, h']; rfl
  simp only [branch_iff, goes_log, goes_snap, goes_room, goes_even, goes_synced, gt_iff_lt]
  have hsz : l.length ≤ 16777216 := by rw [hl]; omega
  cases h2 : d.dead
  · cases h3 : decide (d.room < w64 (w64 (d.log.length + d.snap.length) + b.length))
    · cases h4 : d.goes.1.dead <;> rw [hm _ h2 h3 h4] <;> rw [← hl] <;> cases l <;> cases b <;> simp [ans, setRange, goes_snap, goes_room, goes_even, goes_synced, h4, bleF, take_ap] <;> simp at hsz hb <;> omega
    · rw [hm2 h2 h3]; simp [h2]
  · rw [hm1 h2]; simp [h2]

theorem ok37 (d : RSt) (b : List UInt8) (h : pR d b.length = true) : Meets h1r 37 (R2 pR s37) (d, b) := by
  refine Meets.mk ?_
  rw [v37]
  simp only [pR, Bool.and_eq_true] at h
  have hb := small_le h.2
  have hm : ∀ x y, d.dead = false → decide (d.room < b.length) = false → d.goes.1.dead = x → (!d.goes.2 || d.even) = y →
      d.swap b = ((if y then { d.goes.1 with snap := b, log := [], synced := 0, done := bif x then d.goes.1.done else w64 (d.goes.1.done + 1) } else { d.goes.1 with done := bif x then d.goes.1.done else w64 (d.goes.1.done + 1) }), ans (!x)) := by
    intro x y h2 h3 h4 h5
    unfold RSt.swap RSt.end_
    rw [h2, h3, h5]
    rcases hg : d.goes with ⟨⟨r, l, s, sn, le, ev, de, dn⟩, g⟩
    simp [hg] at h4
    subst h4
    cases de <;> cases y <;> simp [ans]
  have hm1 : d.dead = true → d.swap b = (d, 17) := fun h => by simp [RSt.swap, h]
  have hm2 : d.dead = false → decide (d.room < b.length) = true → d.swap b = (d, 16) := fun h h' => by unfold RSt.swap; rw [h, h']; rfl
  simp only [branch_iff, goes_log, goes_snap, goes_room, goes_even, goes_synced, gt_iff_lt]
  cases h2 : d.dead
  · cases h3 : decide (d.room < b.length)
    · cases h4 : d.goes.1.dead <;> cases h5 : d.goes.2 <;> cases h6 : d.even <;> rw [hm _ _ h2 h3 h4 rfl] <;> cases b <;> simp [ans, setRange, goes_log, goes_snap, goes_room, goes_even, goes_synced, h4, h5, h6] <;> simp at hb <;> omega
    · rw [hm2 h2 h3]; simp [h2]
  · rw [hm1 h2]; simp [h2]
end Go.Proofs.Ytaencddffbmdeaa
