/- What disk's functions do: models, and contracts' forms. No conditions. -/
import Derived.Test.YtaencddffbmdeaaDk
import Derived.Test.YtaencddffbmdeaaWK
namespace Go.Proofs.Ytaencddffbmdeaa
open Go Go.W

abbrev VK := V regK.T
abbrev OK := O regK.T
def vi (n : Int) : VK := .d (.int .i64 n)
def vs (xs : List UInt8) : VK := .d (.sl 5 xs)
def vb (b : Bool) : VK := .d (.bool b)
def bs (xs : List UInt8) : D TK := .sl 5 xs
def ob (xs : List UInt8) : OK := .trows 5 xs
def ls (xs : List (List UInt8)) : D TK := .sl 43 xs
def is (xs : List Int) : D TK := .sl 3 xs
def nilB : List UInt8 := []
def nilI : List Int := []
def nilBs : List (List UInt8) := []
def nilpD : D TK := .nilp
def nilsD : D TK := .nils
def cls (xs : List Cl) : D TK := .sl 62 xs
abbrev w64 (n : Int) : Int := IntKind.i64.wrap n

/-! ### Reading -/
def iV : VK → Option Int
  | .d (.int .i64 n) => some n
  | _ => none
def bV : VK → Option Bool
  | .d (.bool b) => some b
  | _ => none
def sD : D TK → Option (List UInt8)
  | .sl 5 xs => some xs
  | .nils => some []
  | _ => none
def sV : VK → Option (List UInt8)
  | .d x => sD x
  | _ => none
def pV : VK → Option Nat
  | .ptr i r o => (match Nat.beq r 0, Nat.beq o 0 with | true, true => some i | _, _ => none)
  | _ => none
structure Slv where
  i : Nat
  off : Nat
  len : Nat
  cap : Cap
def lV : VK → Option Slv
  | .sl i off len cap => some ⟨i, off, len, cap⟩
  | _ => none
def rO : OK → Option (List UInt8)
  | .trows 5 xs => some xs
  | _ => none

theorem iV_eq {v : VK} {n : Int} (h : iV v = some n) : v = vi n := by
  unfold iV at h; split at h
  · cases h; rfl
  · cases h
theorem bV_eq {v : VK} {b : Bool} (h : bV v = some b) : v = vb b := by
  unfold bV at h; split at h
  · cases h; rfl
  · cases h
theorem sD_cov {x : D TK} {xs : List UInt8} (h : sD x = some xs) : covD (.sl 5 xs) x := by
  unfold sD at h; split at h
  · cases h; exact rfl
  · cases h; exact rfl
  · cases h
theorem sV_cov {v : VK} {xs : List UInt8} (h : sV v = some xs) (ρ : List (Nat × Nat)) : covV ρ (vs xs) v := by
  cases v <;> first | exact sD_cov h | cases h
theorem pV_eq {v : VK} {i : Nat} (h : pV v = some i) : v = .ptr i 0 0 := by
  unfold pV at h; split at h
  · split at h
    · rename_i i r o h1 h2
      cases h
      rw [Nat.eq_of_beq_eq_true h1, Nat.eq_of_beq_eq_true h2]
    · cases h
  · cases h
theorem lV_eq {v : VK} {s : Slv} (h : lV v = some s) : v = .sl s.i s.off s.len s.cap := by
  unfold lV at h; split at h
  · cases h; rfl
  · cases h
theorem rO_eq {o : OK} {xs : List UInt8} (h : rO o = some xs) : o = .trows 5 xs := by
  unfold rO at h; split at h
  · cases h; rfl
  · cases h

/-! ### The program's disk -/
structure DSt where
  left : Int
  odd : Int
  done : Int
  dead : Bool
  log : List UInt8
  synced : Int
  snap : List UInt8
  room : Int

def DSt.o (d : DSt) : OK := .rows 8 [[vi d.left, vi d.odd, vi d.done, vb d.dead, vs d.log, vi d.synced, vs d.snap, vi d.room]]

def readD8 : List VK → Option DSt
  | [a, b, c, d, e, f, g, h] => (iV a).bind fun a => (iV b).bind fun b => (iV c).bind fun c => (bV d).bind fun d => (sV e).bind fun e => (iV f).bind fun f => (sV g).bind fun g => (iV h).bind fun h => some ⟨a, b, c, d, e, f, g, h⟩
  | _ => none
def readD : OK → Option DSt
  | .rows k [r] => (match Nat.beq k 8 with | true => readD8 r | false => none)
  | _ => none

theorem cov_i (ρ : List (Nat × Nat)) (n : Int) : covV ρ (vi n) (vi n) := (must_iff _ _).2 ⟨rfl, rfl⟩
theorem cov_b (ρ : List (Nat × Nat)) (b : Bool) : covV ρ (vb b) (vb b) := by cases b <;> rfl

theorem readD_cov {o : OK} {d : DSt} (h : readD o = some d) (ρ : List (Nat × Nat)) : covO ρ d.o o := by
  unfold readD at h; split at h
  · rename_i k r
    split at h
    · rename_i hk
      have := Nat.eq_of_beq_eq_true hk
      subst this
      unfold readD8 at h; split at h
      · simp only [Option.bind_eq_some_iff] at h
        obtain ⟨_, h1, _, h2, _, h3, _, h4, _, h5, _, h6, _, h7, _, h8, h⟩ := h
        cases h
        rw [iV_eq h1, iV_eq h2, iV_eq h3, bV_eq h4, iV_eq h6, iV_eq h8]
        exact (must_iff _ _).2 ⟨rfl, ⟨cov_i _ _, cov_i _ _, cov_i _ _, cov_b _ _, sV_cov h5 _, cov_i _ _, sV_cov h7 _, cov_i _ _, trivial⟩, trivial⟩
      · cases h
    · cases h
  · cases h

/-! ### The document's disk -/
structure RSt where
  room : Int
  log : List UInt8
  synced : Int
  snap : List UInt8
  left : Int
  even : Bool
  dead : Bool
  done : Int
def RSt.o (d : RSt) : OK := .rows 8 [[vi d.room, vs d.log, vi d.synced, vs d.snap, vi d.left, vb d.even, vb d.dead, vi d.done]]
def readR8 : List VK → Option RSt
  | [a, b, c, d, e, f, g, h] => (iV a).bind fun a => (sV b).bind fun b => (iV c).bind fun c => (sV d).bind fun d => (iV e).bind fun e => (bV f).bind fun f => (bV g).bind fun g => (iV h).bind fun h => some ⟨a, b, c, d, e, f, g, h⟩
  | _ => none
def readR : OK → Option RSt
  | .rows k [r] => (match Nat.beq k 8 with | true => readR8 r | false => none)
  | _ => none
theorem readR_cov {o : OK} {d : RSt} (h : readR o = some d) (ρ : List (Nat × Nat)) : covO ρ d.o o := by
  unfold readR at h; split at h
  · rename_i k r
    split at h
    · rename_i hk
      have := Nat.eq_of_beq_eq_true hk
      subst this
      unfold readR8 at h; split at h
      · simp only [Option.bind_eq_some_iff] at h
        obtain ⟨_, h1, _, h2, _, h3, _, h4, _, h5, _, h6, _, h7, _, h8, h⟩ := h
        cases h
        rw [iV_eq h1, iV_eq h3, iV_eq h5, bV_eq h6, bV_eq h7, iV_eq h8]
        exact (must_iff _ _).2 ⟨rfl, ⟨cov_i _ _, sV_cov h2 _, cov_i _ _, sV_cov h4 _, cov_i _ _, cov_b _ _, cov_b _ _, cov_i _ _, trivial⟩, trivial⟩
      · cases h
    · cases h
  · cases h

/-! ### What they do -/
def DSt.spend (d : DSt) : DSt × Bool :=
  let left := bif decide (0 < d.left) then w64 (d.left - 1) else d.left
  let dead := bif decide (0 < d.left) then left == 0 else d.dead
  ({ d with left := left, dead := dead, done := bif dead then d.done else w64 (d.done + 1) }, !dead)
def ans (ok : Bool) : Int := bif ok then 0 else 17
def DSt.append (d : DSt) (b : List UInt8) : DSt × Int :=
  bif d.dead then (d, 17) else bif decide (w64 (w64 (d.room - d.log.length) - d.snap.length) < b.length) then (d, 16) else ({ d.spend.1 with log := d.log ++ b }, ans d.spend.2)
def DSt.sync (d : DSt) : DSt × Int :=
  bif d.dead then (d, 17) else (bif d.spend.2 then { d.spend.1 with synced := d.log.length } else d.spend.1, ans d.spend.2)
def DSt.swap (d : DSt) (b : List UInt8) : DSt × Int :=
  bif d.dead then (d, 17) else bif decide (d.room < b.length) then (d, 16) else (bif d.spend.2 || d.odd == 0 then { d.spend.1 with snap := b, log := [], synced := 0 } else d.spend.1, ans d.spend.2)
def imax (a b : Int) : Int := if b > a then b else a
def DSt.stop (d : DSt) (n : Int) : DSt := { d with left := imax n 0, odd := (imax n 0).tmod 2 }
def DSt.kept (d : DSt) (pick : Int) : Int :=
  let n := w64 (w64 (d.log.length - d.synced) + 1)
  (w64 (pick.tmod n + n)).tmod n
def DSt.crash (d : DSt) (pick : Int) : DSt :=
  let l := d.log.take (w64 (d.synced + d.kept pick)).toNat
  ⟨0, 0, d.done, false, l, l.length, d.snap, d.room⟩
def DSt.fine (d : DSt) : Bool := decide (0 ≤ d.synced) && decide (d.synced ≤ d.log.length) && decide (0 ≤ d.room) && decide (d.room ≤ 16777216) && Nat.ble (d.log.length + d.snap.length) 16777216

def RSt.goes (d : RSt) : RSt × Bool :=
  bif d.left == 0 then (d, false) else let left := w64 (d.left - 1); ({ d with left := left, dead := left == 0 }, left == 0)
def RSt.end_ (d : RSt) : RSt × Int := bif d.dead then (d, 17) else ({ d with done := w64 (d.done + 1) }, 0)
def RSt.append (d : RSt) (b : List UInt8) : RSt × Int :=
  bif d.dead then (d, 17) else bif decide (d.room < w64 (w64 (d.log.length + d.snap.length) + b.length)) then (d, 16) else { d.goes.1 with log := d.log ++ b }.end_
def RSt.sync (d : RSt) : RSt × Int :=
  bif d.dead then (d, 17) else (bif d.goes.2 then d.goes.1 else { d.goes.1 with synced := d.log.length }).end_
def RSt.swap (d : RSt) (b : List UInt8) : RSt × Int :=
  bif d.dead then (d, 17) else bif decide (d.room < b.length) then (d, 16) else (bif !d.goes.2 || d.even then { d.goes.1 with snap := b, log := [], synced := 0 } else d.goes.1).end_
def RSt.stop (d : RSt) (n : Int) : RSt := { d with left := imax n 0, even := n.tmod 2 == 0 }
def RSt.kept (d : RSt) (pick : Int) : Int :=
  let n := w64 (w64 (d.log.length - d.synced) + 1)
  bif decide (pick.tmod n < 0) then w64 (pick.tmod n + n) else pick.tmod n
def RSt.crash (d : RSt) (pick : Int) : RSt :=
  let l := d.log.take (w64 (d.synced + d.kept pick)).toNat
  { d with log := l, synced := l.length, dead := false, left := 0 }
def RSt.fine (d : RSt) : Bool := decide (0 ≤ d.synced) && decide (d.synced ≤ d.log.length) && decide (0 ≤ d.room) && decide (d.room ≤ 16777216) && Nat.ble (d.log.length + d.snap.length) 16777216

/-! ### Contracts -/
/-- A receiver, data. -/
def findD (args : List VK) (g : Nat → Option OK) : Option ((DSt × List VK) × List Nat) := match args with
  | p :: rest => (match pV p with
    | some i => (match g i with
      | some o => (match readD o with | some d => some ((d, rest), [i]) | none => none)
      | none => none)
    | none => none)
  | _ => none
def findR (args : List VK) (g : Nat → Option OK) : Option ((RSt × List VK) × List Nat) := match args with
  | p :: rest => (match pV p with
    | some i => (match g i with
      | some o => (match readR o with | some d => some ((d, rest), [i]) | none => none)
      | none => none)
    | none => none)
  | _ => none

theorem findD_ok {args : List VK} {g : Nat → Option OK} {d : DSt} {rest : List VK} {ρ : List Nat} (h : findD args g = some ((d, rest), ρ)) : ∃ i o, args = .ptr i 0 0 :: rest ∧ g i = some o ∧ readD o = some d ∧ ρ = [i] := by
  unfold findD at h
  split at h
  · split at h
    · rename_i i hp
      split at h
      · rename_i o ho
        split at h
        · rename_i d' hd
          cases h
          exact ⟨i, o, by rw [pV_eq hp], ho, hd, rfl⟩
        · cases h
      · cases h
    · cases h
  · cases h
theorem findR_ok {args : List VK} {g : Nat → Option OK} {d : RSt} {rest : List VK} {ρ : List Nat} (h : findR args g = some ((d, rest), ρ)) : ∃ i o, args = .ptr i 0 0 :: rest ∧ g i = some o ∧ readR o = some d ∧ ρ = [i] := by
  unfold findR at h
  split at h
  · split at h
    · rename_i i hp
      split at h
      · rename_i o ho
        split at h
        · rename_i d' hd
          cases h
          exact ⟨i, o, by rw [pV_eq hp], ho, hd, rfl⟩
        · cases h
      · cases h
    · cases h
  · cases h

theorem cov_p (i : Nat) (l : List Nat) : covV (T := regK.T) (at0 0 (i :: l)) (.ptr 0 0 0) (.ptr i 0 0) := (must_iff _ _).2 ⟨Nat.beq_refl i, rfl, rfl⟩

/-- Methods without arguments. -/
def S0 (pre : DSt → Bool) (out : DSt → Out (VK × List (Option OK))) : Go.W.Spec regK.T := ⟨DSt, fun _ => [.ptr 0 0 0], fun d => [d.o], pre, out⟩
def M0 (pre : DSt → Bool) (out : DSt → Out (VK × List (Option OK))) : Meet (S0 pre out) where
  find args g := match findD args g with | some ((d, []), ρ) => some (d, ρ) | _ => none
  ok args g a ρ h := by
    split at h
    · rename_i d ρ' hf
      cases h
      obtain ⟨i, o, rfl, h2, h3, rfl⟩ := findD_ok hf
      refine ⟨⟨cov_p i [], trivial⟩, rfl, fun j o' hj => ?_⟩
      cases j with
      | zero => simp only [S0, List.getElem?_cons_zero, Option.some.injEq] at hj; subst hj; exact ⟨i, o, rfl, h2, readD_cov h3 _⟩
      | succ j => simp [S0] at hj
    · cases h
/-- Methods of a number. -/
def S1 (pre : DSt → Bool) (out : DSt → Int → Out (VK × List (Option OK))) : Go.W.Spec regK.T := ⟨DSt × Int, fun a => [.ptr 0 0 0, vi a.2], fun a => [a.1.o], fun a => pre a.1, fun a => out a.1 a.2⟩
def M1 (pre : DSt → Bool) (out : DSt → Int → Out (VK × List (Option OK))) : Meet (S1 pre out) where
  find args g := match findD args g with | some ((d, [x]), ρ) => (match iV x with | some n => some ((d, n), ρ) | none => none) | _ => none
  ok args g a ρ h := by
    split at h
    · rename_i d x ρ' hf
      split at h
      · rename_i n hn
        cases h
        obtain ⟨i, o, rfl, h2, h3, rfl⟩ := findD_ok hf
        rw [iV_eq hn]
        refine ⟨⟨cov_p i [], cov_i _ _, trivial⟩, rfl, fun j o' hj => ?_⟩
        cases j with
        | zero => simp only [S1, List.getElem?_cons_zero, Option.some.injEq] at hj; subst hj; exact ⟨i, o, rfl, h2, readD_cov h3 _⟩
        | succ j => simp [S1] at hj
      · cases h
    · cases h
/-- Methods of bytes: data. -/
def S2 (pre : DSt → Nat → Bool) (out : DSt → List UInt8 → Out (VK × List (Option OK))) : Go.W.Spec regK.T := ⟨DSt × List UInt8, fun a => [.ptr 0 0 0, vs a.2], fun a => [a.1.o], fun a => pre a.1 a.2.length, fun a => out a.1 a.2⟩
def M2 (pre : DSt → Nat → Bool) (out : DSt → List UInt8 → Out (VK × List (Option OK))) : Meet (S2 pre out) where
  find args g := match findD args g with | some ((d, [x]), ρ) => (match sV x with | some n => some ((d, n), ρ) | none => none) | _ => none
  ok args g a ρ h := by
    split at h
    · rename_i d x ρ' hf
      split at h
      · rename_i n hn
        cases h
        obtain ⟨i, o, rfl, h2, h3, rfl⟩ := findD_ok hf
        refine ⟨⟨cov_p i [], sV_cov hn _, trivial⟩, rfl, fun j o' hj => ?_⟩
        cases j with
        | zero => simp only [S2, List.getElem?_cons_zero, Option.some.injEq] at hj; subst hj; exact ⟨i, o, rfl, h2, readD_cov h3 _⟩
        | succ j => simp [S2] at hj
      · cases h
    · cases h
/-- Methods of bytes: a slice that may be written. -/
structure Lv where
  d : DSt
  xs : List UInt8
  off : Nat
  len : Nat
  cap : Cap
def Lv.bytes (a : Lv) : List UInt8 := (a.xs.drop a.off).take a.len
def S3 (pre : DSt → Nat → Bool) (out : DSt → List UInt8 → OK → Out (VK × List (Option OK))) : Go.W.Spec regK.T :=
  ⟨Lv, fun a => [.ptr 0 0 0, .sl 1 a.off a.len a.cap], fun a => [a.d.o, .trows 5 a.xs], fun a => pre a.d a.len && Nat.ble (a.off + a.len) a.xs.length, fun a => out a.d a.bytes (.trows 5 a.xs)⟩
theorem cov_l (i j off len : Nat) (cap : Cap) (l : List Nat) : covV (T := regK.T) (at0 0 (i :: j :: l)) (.sl 1 off len cap) (.sl j off len cap) :=
  (must_iff _ _).2 ⟨Nat.beq_refl j, rfl, rfl, by cases cap <;> simp [covCap]⟩
def M3 (pre : DSt → Nat → Bool) (out : DSt → List UInt8 → OK → Out (VK × List (Option OK))) : Meet (S3 pre out) where
  find args g := match findD args g with
    | some ((d, [x]), ρ) => (match lV x with
      | some s => (match g s.i with
        | some o => (match rO o with | some xs => some (⟨d, xs, s.off, s.len, s.cap⟩, ρ ++ [s.i]) | none => none)
        | none => none)
      | none => none)
    | _ => none
  ok args g a ρ h := by
    split at h
    · rename_i d x ρ' hf
      split at h
      · rename_i s hs
        split at h
        · rename_i ob hob
          split at h
          · rename_i xs hxs
            cases h
            obtain ⟨i, o, rfl, h2, h3, rfl⟩ := findD_ok hf
            rw [lV_eq hs]
            refine ⟨⟨cov_p i _, cov_l i s.i s.off s.len s.cap [], trivial⟩, rfl, fun j o' hj => ?_⟩
            match j, hj with
            | 0, hj => simp only [S3, List.getElem?_cons_zero, Option.some.injEq] at hj; subst hj; exact ⟨i, o, rfl, h2, readD_cov h3 _⟩
            | 1, hj =>
              simp only [S3, List.getElem?_cons_succ, List.getElem?_cons_zero, Option.some.injEq] at hj; subst hj
              exact ⟨s.i, ob, rfl, hob, by rw [rO_eq hxs]; rfl⟩
            | j + 2, hj => simp [S3] at hj
          · cases h
        · cases h
      · cases h
    · cases h
def isLive (args : List VK) (_ : Nat → Option OK) : Bool := match args with
  | [_, x] => (match lV x with | some _ => true | none => false)
  | _ => false

/-- The document's. -/
def R0 (pre : RSt → Bool) (out : RSt → Out (VK × List (Option OK))) : Go.W.Spec regK.T := ⟨RSt, fun _ => [.ptr 0 0 0], fun d => [d.o], pre, out⟩
def N0 (pre : RSt → Bool) (out : RSt → Out (VK × List (Option OK))) : Meet (R0 pre out) where
  find args g := match findR args g with | some ((d, []), ρ) => some (d, ρ) | _ => none
  ok args g a ρ h := by
    split at h
    · rename_i d ρ' hf
      cases h
      obtain ⟨i, o, rfl, h2, h3, rfl⟩ := findR_ok hf
      refine ⟨⟨cov_p i [], trivial⟩, rfl, fun j o' hj => ?_⟩
      cases j with
      | zero => simp only [R0, List.getElem?_cons_zero, Option.some.injEq] at hj; subst hj; exact ⟨i, o, rfl, h2, readR_cov h3 _⟩
      | succ j => simp [R0] at hj
    · cases h
def R1 (pre : RSt → Bool) (out : RSt → Int → Out (VK × List (Option OK))) : Go.W.Spec regK.T := ⟨RSt × Int, fun a => [.ptr 0 0 0, vi a.2], fun a => [a.1.o], fun a => pre a.1, fun a => out a.1 a.2⟩
def N1 (pre : RSt → Bool) (out : RSt → Int → Out (VK × List (Option OK))) : Meet (R1 pre out) where
  find args g := match findR args g with | some ((d, [x]), ρ) => (match iV x with | some n => some ((d, n), ρ) | none => none) | _ => none
  ok args g a ρ h := by
    split at h
    · rename_i d x ρ' hf
      split at h
      · rename_i n hn
        cases h
        obtain ⟨i, o, rfl, h2, h3, rfl⟩ := findR_ok hf
        rw [iV_eq hn]
        refine ⟨⟨cov_p i [], cov_i _ _, trivial⟩, rfl, fun j o' hj => ?_⟩
        cases j with
        | zero => simp only [R1, List.getElem?_cons_zero, Option.some.injEq] at hj; subst hj; exact ⟨i, o, rfl, h2, readR_cov h3 _⟩
        | succ j => simp [R1] at hj
      · cases h
    · cases h
def R2 (pre : RSt → Nat → Bool) (out : RSt → List UInt8 → Out (VK × List (Option OK))) : Go.W.Spec regK.T := ⟨RSt × List UInt8, fun a => [.ptr 0 0 0, vs a.2], fun a => [a.1.o], fun a => pre a.1 a.2.length, fun a => out a.1 a.2⟩
def N2 (pre : RSt → Nat → Bool) (out : RSt → List UInt8 → Out (VK × List (Option OK))) : Meet (R2 pre out) where
  find args g := match findR args g with | some ((d, [x]), ρ) => (match sV x with | some n => some ((d, n), ρ) | none => none) | _ => none
  ok args g a ρ h := by
    split at h
    · rename_i d x ρ' hf
      split at h
      · rename_i n hn
        cases h
        obtain ⟨i, o, rfl, h2, h3, rfl⟩ := findR_ok hf
        refine ⟨⟨cov_p i [], sV_cov hn _, trivial⟩, rfl, fun j o' hj => ?_⟩
        cases j with
        | zero => simp only [R2, List.getElem?_cons_zero, Option.some.injEq] at hj; subst hj; exact ⟨i, o, rfl, h2, readR_cov h3 _⟩
        | succ j => simp [R2] at hj
      · cases h
    · cases h

/-! ### Bytes of their own -/
def SB : Go.W.Spec regK.T := ⟨List UInt8, fun b => [vs b], fun _ => [], fun b => Nat.ble b.length 16777216, fun b => .ret (vs b, [])⟩
def MB : Meet SB where
  find args _ := match args with | [x] => (match sV x with | some b => some (b, []) | none => none) | _ => none
  ok args g a ρ h := by
    split at h
    · split at h
      · rename_i x b hb
        cases h
        exact ⟨⟨sV_cov hb _, trivial⟩, rfl, fun j o' hj => by simp [SB] at hj⟩
      · cases h
    · cases h
structure Bv where
  xs : List UInt8
  off : Nat
  len : Nat
  cap : Cap
def Bv.bytes (a : Bv) : List UInt8 := (a.xs.drop a.off).take a.len
def SC : Go.W.Spec regK.T := ⟨Bv, fun a => [.sl 0 a.off a.len a.cap], fun a => [.trows 5 a.xs], fun a => Nat.ble (a.off + a.len) a.xs.length && Nat.ble a.len 16777216, fun a => .ret (vs a.bytes, [some (.trows 5 a.xs)])⟩
def MC : Meet SC where
  find args g := match args with
    | [x] => (match lV x with
      | some s => (match g s.i with
        | some o => (match rO o with | some xs => some (⟨xs, s.off, s.len, s.cap⟩, [s.i]) | none => none)
        | none => none)
      | none => none)
    | _ => none
  ok args g a ρ h := by
    split at h
    · rename_i x
      split at h
      · rename_i s hs
        split at h
        · rename_i ob hob
          split at h
          · rename_i xs hxs
            cases h
            rw [lV_eq hs]
            refine ⟨⟨(must_iff _ _).2 ⟨Nat.beq_refl s.i, rfl, rfl, by cases s.cap <;> simp [covCap]⟩, trivial⟩, rfl, fun j o' hj => ?_⟩
            match j, hj with
            | 0, hj => simp only [SC, List.getElem?_cons_zero, Option.some.injEq] at hj; subst hj; exact ⟨s.i, ob, rfl, hob, by rw [rO_eq hxs]; rfl⟩
            | j + 1, hj => simp [SC] at hj
          · cases h
        · cases h
      · cases h
    · cases h
def isLive1 (args : List VK) (_ : Nat → Option OK) : Bool := match args with
  | [x] => (match lV x with | some _ => true | none => false)
  | _ => false

/-! ### Which contracts -/
abbrev QO := Out (VK × List (Option OK))
def s38 : DSt → QO := fun d => .ret (vb d.spend.2, [some d.spend.1.o])
def small (n : Nat) : Bool := Nat.ble n 16777216
def pD (d : DSt) (n : Nat) : Bool := d.fine && small n
def pR (d : RSt) (n : Nat) : Bool := d.fine && small n
def s23 : DSt → List UInt8 → QO := fun d b => .ret (vi (d.append b).2, [some (d.append b).1.o])
def s23l : DSt → List UInt8 → OK → QO := fun d b o => .ret (vi (d.append b).2, [some (d.append b).1.o, some o])
def s24 : DSt → List UInt8 → QO := fun d b => .ret (vi (d.swap b).2, [some (d.swap b).1.o])
def s24l : DSt → List UInt8 → OK → QO := fun d b o => .ret (vi (d.swap b).2, [some (d.swap b).1.o, some o])
def s25 : DSt → QO := fun d => .ret (vs d.log, [some d.o])
def s26 : DSt → QO := fun d => .ret (vs d.snap, [some d.o])
def s27 : DSt → Int → QO := fun d n => .ret (.tup [], [some (d.stop n).o])
def s28 : DSt → Int → QO := fun d n => .ret (vi (d.kept n), [some (d.crash n).o])
def s29 : DSt → QO := fun d => .ret (vi d.sync.2, [some d.sync.1.o])
def s33 : RSt → List UInt8 → QO := fun d b => .ret (vi (d.append b).2, [some (d.append b).1.o])
def s34 : RSt → QO := fun d => .ret (vi d.sync.2, [some d.sync.1.o])
def s35 : RSt → Int → QO := fun d n => .ret (.tup [], [some (d.stop n).o])
def s36 : RSt → Int → QO := fun d n => .ret (vi (d.kept n), [some (d.crash n).o])
def s37 : RSt → List UInt8 → QO := fun d b => .ret (vi (d.swap b).2, [some (d.swap b).1.o])
def s40 : RSt → QO := fun d => .ret (vb d.goes.2, [some d.goes.1.o])
def s41 : RSt → QO := fun d => .ret (vi d.end_.2, [some d.end_.1.o])
abbrev tt {α : Type} : α → Bool := fun _ => true

/-- The inner ones. -/
def C1 : Con regK.T := fun f => lookN [(38, (S0 tt s38).con (M0 tt s38)), (39, Con.or isLive1 (SC.con MC) (SB.con MB)), (40, (R0 tt s40).con (N0 tt s40)), (41, (R0 tt s41).con (N0 tt s41))] f
noncomputable def h0 : Hd regK.T := hdT regK Try.prog (fun _ => none) (fun _ => false) 1000 1
noncomputable def h1 : Hd regK.T := hdT regK Try.prog C1 (fun _ => false) 1000 1
def C1r : Con regK.T := fun f => lookN [(40, (R0 tt s40).con (N0 tt s40))] f
noncomputable def h1r : Hd regK.T := hdT regK Try.prog C1r (fun _ => false) 1000 1
noncomputable def run (hd : Hd regK.T) (f : Nat) (args : List VK) (os : List OK) : Out (VK × Hp regK.T) := (exFun Try.prog hd 1000 f args (canH os)).bind (tidyLeaf regK (canH os))
/-- What is to be shown. -/
def MeetsD (hd : Hd regK.T) (f : Nat) (S : Go.W.Spec regK.T) (a : S.α) : Prop := (run hd f (S.args a) (S.objs a)).K fun r => (S.out a).All fun q => CovR (S.objs a).length r q.1 q.2
structure Meets (hd : Hd regK.T) (f : Nat) (S : Go.W.Spec regK.T) (a : S.α) : Prop where
  go : MeetsD hd f S a
end Go.Proofs.Ytaencddffbmdeaa
