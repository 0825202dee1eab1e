/- Conf's library: types, a text that is parted. No conditions. -/
import Derived.Test.YtaonjbojhikndaaDoorCf
import Derived.Test.YtaonjbojhikndaaDoorRows
import Derived.Lib.LaidTab
import Derived.Lib.ItoaNum
import Derived.Lib.Bytealg
namespace Go.Proofs.YtaonjbojhikndaaDoor
open Go Go.W

abbrev B := List UInt8
structure Cp where
  least : Int
  most : Int
structure Qu where
  path : B
  caps : List Cp
  user : Int
structure Rq where
  names : List Int
  caps : List Cp
  user : Int

structure RowT where
  T : Type
  dflt : T
  has : Bool
def rowK : Nat → RowT
  | 3 => ⟨Int, 0, true⟩
  | 5 => ⟨UInt8, 0, true⟩
  | 9 => ⟨B, [], true⟩
  | 46 => ⟨Qu, ⟨[], [], 0⟩, true⟩
  | 48 => ⟨Cp, ⟨0, 0⟩, true⟩
  | 58 => ⟨Rq, ⟨[], [], 0⟩, true⟩
  | _ => ⟨Unit, (), false⟩
def TK (e : Nat) : Type := (rowK e).T

def enc3 (x : Int) : List (D TK) := [.int .i64 x]
def enc5 (x : UInt8) : List (D TK) := [.int .u8 (UInt8.toNat x)]
def enc9 (x : B) : List (D TK) := [.str x]
def enc46 (x : Qu) : List (D TK) := [.str x.path, .sl 48 x.caps, .int .i64 x.user]
def enc48 (x : Cp) : List (D TK) := [.int .i64 x.least, .int .i64 x.most]
def enc58 (x : Rq) : List (D TK) := [.sl 3 x.names, .sl 48 x.caps, .int .i64 x.user]

def dec3 : List (D TK) → Option Int
  | [.int .i64 x] => some x
  | _ => none
def dec5 : List (D TK) → Option UInt8
  | [.int .u8 (.ofNat m)] => (match Nat.blt m 256 with | true => some (UInt8.ofNat m) | false => none)
  | _ => none
def dec9 : List (D TK) → Option B
  | [.str x] => some x
  | _ => none
def dec46 : List (D TK) → Option Qu
  | [.str p, .sl 48 c, .int .i64 u] => some ⟨p, c, u⟩
  | _ => none
def dec48 : List (D TK) → Option Cp
  | [.int .i64 x, .int .i64 y] => some ⟨x, y⟩
  | _ => none
def dec58 : List (D TK) → Option Rq
  | [.sl 3 n, .sl 48 c, .int .i64 u] => some ⟨n, c, u⟩
  | _ => none

theorem law3 (l : List (D TK)) (x : Int) (h : dec3 l = some x) : enc3 x = l := by
  unfold dec3 at h
  split at h
  · cases h; rfl
  · cases h
theorem law5 (l : List (D TK)) (x : UInt8) (h : dec5 l = some x) : enc5 x = l := by
  unfold dec5 at h
  split at h
  · rename_i m
    split at h
    · rename_i hm
      cases h
      have hm : m < 256 := by simpa using hm
      show [D.int IntKind.u8 ((UInt8.ofNat m).toNat : Int)] = _
      rw [UInt8.toNat_ofNat_of_lt' hm]
      rfl
    · cases h
  · cases h
theorem law9 (l : List (D TK)) (x : B) (h : dec9 l = some x) : enc9 x = l := by
  unfold dec9 at h
  split at h
  · cases h; rfl
  · cases h
theorem law46 (l : List (D TK)) (x : Qu) (h : dec46 l = some x) : enc46 x = l := by
  unfold dec46 at h
  split at h
  · cases h; rfl
  · cases h
theorem law48 (l : List (D TK)) (x : Cp) (h : dec48 l = some x) : enc48 x = l := by
  unfold dec48 at h
  split at h
  · cases h; rfl
  · cases h
theorem law58 (l : List (D TK)) (x : Rq) (h : dec58 l = some x) : enc58 x = l := by
  unfold dec58 at h
  split at h
  · cases h; rfl
  · cases h

structure RowE (e : Nat) where
  k : Nat
  enc : TK e → List (D TK)
  dec : List (D TK) → Option (TK e)
  law : ∀ l x, dec l = some x → enc x = l
  len : ∀ x, (enc x).length = k
def rowE : (e : Nat) → RowE e
  | 3 => ⟨1, enc3, dec3, law3, fun _ => rfl⟩
  | 5 => ⟨1, enc5, dec5, law5, fun _ => rfl⟩
  | 9 => ⟨1, enc9, dec9, law9, fun _ => rfl⟩
  | 46 => ⟨3, enc46, dec46, law46, fun _ => rfl⟩
  | 48 => ⟨2, enc48, dec48, law48, fun _ => rfl⟩
  | 58 => ⟨3, enc58, dec58, law58, fun _ => rfl⟩
  | _ => ⟨0, fun _ => [], fun _ => none, fun _ _ h => (by cases h), fun _ => rfl⟩

def isBK (e : Nat) : Bool := Nat.beq e 5
structure ByteE (e : Nat) where
  toS : List (TK e) → List UInt8
  ofS : List UInt8 → List (TK e)
def byteE : (e : Nat) → ByteE e
  | 5 => ⟨fun (xs : List UInt8) => xs, fun s => (s : List UInt8)⟩
  | _ => ⟨fun _ => [], fun _ => []⟩
theorem isBK_eq {e : Nat} (h : isBK e = true) : e = 5 := Nat.eq_of_beq_eq_true h

/-- The library's table of powers of ten stands as it is laid. -/
def tabN : String := Rows.confAgainRow.named.getD 4 ""
def tabK (w : World) : Prop := Lib.TabIs Tryd.prog w tabN .u64 Lib.pow10Tab
def regK : Reg where
  T := TK
  has e := (rowK e).has
  k e := (rowE e).k
  dflt e := (rowK e).dflt
  enc e := (rowE e).enc
  dec e := (rowE e).dec
  isB := isBK
  toS e := (byteE e).toS
  ofS e := (byteE e).ofS
  law e := (rowE e).law
  len e := (rowE e).len
  toS_len e xs h := by have := isBK_eq h; subst this; rfl
  toS_get e xs r h hr := by have := isBK_eq h; subst this; rfl
  ofS_len e s h := by have := isBK_eq h; subst this; rfl
  ofS_get e s r h hr := by have := isBK_eq h; subst this; rfl
  Tab := tabK

abbrev VK := V regK.T
abbrev OK := O regK.T
abbrev TB := List VK → Hp regK.T → Out (VK × Hp regK.T)
abbrev QO := Out (VK × List (Option OK))
def ki (n : Int) : VK := .d (.int .i64 n)
def ks (s : B) : VK := .d (.str s)
def kb (b : Bool) : VK := .d (.bool b)
abbrev w64 (n : Int) : Int := IntKind.i64.wrap n
theorem wrap_id {n : Int} (h1 : -9223372036854775808 ≤ n) (h2 : n ≤ 9223372036854775807) : IntKind.i64.wrap n = n := IntWalk.i64_in _ ⟨h1, h2⟩

/-! ### Names for what is printed -/
def d3 (xs : List Int) : D TK := .sl 3 xs
def d5 (xs : List UInt8) : D TK := .sl 5 xs
def d9 (xs : List B) : D TK := .sl 9 xs
def d46 (xs : List Qu) : D TK := .sl 46 xs
def d48 (xs : List Cp) : D TK := .sl 48 xs
def d58 (xs : List Rq) : D TK := .sl 58 xs
def o3 (xs : List Int) : OK := .trows 3 xs
def o5 (xs : List UInt8) : OK := .trows 5 xs
def o9 (xs : List B) : OK := .trows 9 xs
def o46 (xs : List Qu) : OK := .trows 46 xs
def o48 (xs : List Cp) : OK := .trows 48 xs
def o58 (xs : List Rq) : OK := .trows 58 xs
def nilB : List UInt8 := []
def nilI : List Int := []
def nilBs : List (List UInt8) := []
def nilpD : D TK := .nilp
def nilsD : D TK := .nils

/-! ### Tables -/
def RowOK (f : FuncId) (S : TB) : Prop := ∀ args h Q, (S args h).K Q → There Tryd.prog f ∧ ∀ N F φ w cargs, (∀ r, Q r → Fresh N h.nx r.2.nx) → HR N F φ h w → LRel F w φ args cargs → Calls Tryd.prog f cargs w (CallPost N F φ h w Q)
theorem con_cons {f : FuncId} {S} {l : List (Nat × TB)} (h : RowOK f S) (hl : ConOk Tryd.prog (fun g => lookN l g)) : ConOk Tryd.prog (fun g => lookN ((f, S) :: l) g) := by
  intro g S' hg
  simp only [lookN] at hg
  split at hg
  · rename_i hb
    cases hg
    rw [← Nat.eq_of_beq_eq_true hb]
    exact h
  · exact hl g S' hg
theorem con_nil : ConOk (reg := regK) Tryd.prog (fun g => lookN [] g) := fun f S h => by cases h

theorem args2 {F : Nat → Prop} {w : World} {φ : Phi} {v u : VK} {cs : Array Value} (hl : LRel F w φ [v, u] cs) : ∃ c d, cs = #[c, d] ∧ VRel regK F w φ v c ∧ VRel regK F w φ u d := by
  have h1 : cs.size = 2 := hl.1.symm
  refine ⟨cs.getD 0 undef, cs.getD 1 undef, ?_, hl.2 0 (by simp), hl.2 1 (by simp)⟩
  apply Array.ext
  · simpa using h1
  · intro i h2 h3
    have h4 : i < 2 := by simpa using h3
    match i, h4 with
    | 0, _ => simp [h1]
    | 1, _ => simp [h1]

def u79 : TB := fun args h => match args with | [.d (.str s), .d (.int .u8 c)] => (.ret (.d (.int .i64 (Lib.indexByte s c.toNat.toUInt8)), h)) | _ => .bad
def u50 : TB := fun args h => match args with | [.d (.str s), .d (.str [c])] => (.ret (.d (.int .i64 (Lib.countByte s c)), h)) | _ => .bad
theorem a79 : RowOK 79 u79 := by
  intro args h Q hq
  unfold u79 at hq
  split at hq
  · rename_i s c
    refine ⟨there 79 (by kernel_rfl), fun N F φ w cargs _ hH hl => ?_⟩
    obtain ⟨x, y, rfl, hx, hy⟩ := args2 hl
    rw [hx.str_inv, hy.int_inv]
    refine (c79 _ c w).mono fun e w' ⟨he, hw⟩ => ?_
    subst hw
    exact ⟨_, he, Res.pure hH hq (.d _ _ (.int _ _))⟩
  · exact hq.elim
theorem a50 : RowOK 50 u50 := by
  intro args h Q hq
  unfold u50 at hq
  split at hq
  · rename_i s c
    refine ⟨there 50 (by kernel_rfl), fun N F φ w cargs _ hH hl => ?_⟩
    obtain ⟨x, y, rfl, hx, hy⟩ := args2 hl
    rw [hx.str_inv, hy.str_inv]
    refine (c50 _ c w).mono fun e w' ⟨he, hw⟩ => ?_
    subst hw
    exact ⟨_, he, Res.pure hH hq (.d _ _ (.int _ _))⟩
  · exact hq.elim

def K0 : Con regK.T := fun f => lookN [(79, u79), (50, u50)] f
theorem K0_ok : ConOk Tryd.prog K0 := con_cons a79 (con_cons a50 con_nil)
noncomputable def e0 : Hd regK.T := hdT regK Tryd.prog K0 (fun _ => false) 1000 5
theorem e0_sound : HdSound Tryd.prog e0 := hdT_sound mixed hno K0_ok _ _ _
end Go.Proofs.YtaonjbojhikndaaDoor

namespace Go.Proofs.YtaonjbojhikndaaDoor
open Go

abbrev Bs := List UInt8
/-- A text parted at each byte of one kind. -/
def splitM (c : UInt8) : Bs → List Bs
  | [] => [[]]
  | x :: l => bif x == c then [] :: splitM c l else (match splitM c l with | [] => [[x]] | p :: ps => (x :: p) :: ps)

theorem splitM_ne (c : UInt8) (l : Bs) : splitM c l ≠ [] := by
  cases l with
  | nil => simp [splitM]
  | cons x l =>
    unfold splitM
    cases x == c with
    | true => simp
    | false => simp only [cond_false]; split <;> simp

theorem splitM_len (c : UInt8) (l : Bs) : (splitM c l).length = l.count c + 1 := by
  induction l with
  | nil => rfl
  | cons x l ih =>
    unfold splitM
    rw [List.count_cons]
    cases h : x == c with
    | true => simp [ih]
    | false =>
      simp only [cond_false]
      cases hs : splitM c l with
      | nil => exact (splitM_ne c l hs).elim
      | cons p ps => rw [hs] at ih; simpa using ih

theorem split_none {c : UInt8} : ∀ {l : Bs}, Lib.indexByte l c = -1 → splitM c l = [l]
  | [], _ => rfl
  | x :: l, h => by
    unfold Lib.indexByte at h
    unfold splitM
    cases hx : x == c with
    | true => rw [hx] at h; simp at h
    | false =>
      rw [hx] at h
      simp only [Bool.false_eq_true, if_false] at h
      have hl : Lib.indexByte l c = -1 := by
        have := Lib.indexByte_ge l c
        by_cases h0 : Lib.indexByte l c = -1
        · exact h0
        · rw [if_neg (by simpa using h0)] at h; omega
      rw [split_none hl]
      rfl

theorem split_some {c : UInt8} : ∀ {l : Bs} {m : Nat}, Lib.indexByte l c = m → splitM c l = l.take m :: splitM c (l.drop (m + 1)) ∧ m < l.length
  | [], m, h => by unfold Lib.indexByte at h; omega
  | x :: l, m, h => by
    unfold Lib.indexByte at h
    cases hx : x == c with
    | true =>
      rw [hx, if_pos rfl] at h
      have : m = 0 := by omega
      subst this
      refine ⟨?_, by simp⟩
      conv => lhs; unfold splitM
      rw [hx]
      rfl
    | false =>
      rw [hx] at h
      simp only [Bool.false_eq_true, if_false] at h
      have hg := Lib.indexByte_ge l c
      by_cases h0 : Lib.indexByte l c = -1
      · rw [if_pos (by simpa using h0)] at h; omega
      · rw [if_neg (by simpa using h0)] at h
        obtain ⟨k, rfl⟩ : ∃ k, m = k + 1 := ⟨m - 1, by omega⟩
        have hk : Lib.indexByte l c = k := by omega
        obtain ⟨h1, h2⟩ := split_some hk
        refine ⟨?_, by simp; omega⟩
        conv => lhs; unfold splitM
        rw [hx, h1]
        rfl

theorem index_cases (l : Bs) (c : UInt8) : Lib.indexByte l c = -1 ∨ ∃ m : Nat, Lib.indexByte l c = m := by
  have := Lib.indexByte_ge l c
  by_cases h : Lib.indexByte l c = -1
  · exact .inl h
  · exact .inr ⟨(Lib.indexByte l c).toNat, by omega⟩
end Go.Proofs.YtaonjbojhikndaaDoor

namespace Go.Proofs.YtaonjbojhikndaaDoor
open Go Go.W
set_option maxRecDepth 100000

/-- What a function with loops owes. -/
def OwesD {G : Type} (hd : Hd regK.T) (f : Nat) (S : Go.W.Spec regK.T) (A : Nat → List Tgt) (L : G → Nat → St regK.T → Option (LoopI regK.T G)) (J : G → Nat → Option (LoopI regK.T G)) (g : G) (a : S.α) : Prop :=
  match Tryd.prog.funcs[f]? with
  | some fn => awpFunH regK Tryd.prog hd 1000 A L J g fn (S.args a) (canH (S.objs a)) fun r => (S.out a).All fun q => CovR (S.objs a).length r q.1 q.2
  | none => False
structure Owes {G : Type} (hd : Hd regK.T) (f : Nat) (S : Go.W.Spec regK.T) (A : Nat → List Tgt) (L : G → Nat → St regK.T → Option (LoopI regK.T G)) (J : G → Nat → Option (LoopI regK.T G)) (g : G) (a : S.α) : Prop where
  go : OwesD hd f S A L J g a
theorem spec_loop {G : Type} {hd : Hd regK.T} (hHd : HdSound Tryd.prog hd) {f : Nat} {S : Go.W.Spec regK.T} (ht : (match Tryd.prog.funcs[f]? with | some fn => !fn.body.isNone | none => false) = true)
    (A : S.α → Nat → List Tgt) (L : S.α → G → Nat → St regK.T → Option (LoopI regK.T G)) (J : S.α → G → Nat → Option (LoopI regK.T G)) (g : S.α → G) (h : ∀ a, S.pre a = true → Owes hd f S (A a) (L a) (J a) (g a) a) : SpecOk Tryd.prog f S := by
  obtain ⟨fn, hfn⟩ : ∃ fn, Tryd.prog.funcs[f]? = some fn := by
    split at ht
    · rename_i fn h; exact ⟨fn, h⟩
    · cases ht
  refine specOk_of_awp (fuel := 1000) mixed hHd hfn (there f ht) (fun a ha => ⟨G, g a, A a, L a, J a, ?_⟩)
  have := (h a ha).go
  unfold OwesD at this
  rw [hfn] at this
  exact this

/-- The same, its answer as it is. -/
def OwesDN {G : Type} (hd : Hd regK.T) (f : Nat) (S : Go.W.Spec regK.T) (A : Nat → List Tgt) (L : G → Nat → St regK.T → Option (LoopI regK.T G)) (J : G → Nat → Option (LoopI regK.T G)) (g : G) (a : S.α) : Prop :=
  match Tryd.prog.funcs[f]? with
  | some fn => awpFunN regK Tryd.prog hd 1000 A L J g fn (S.args a) (canH (S.objs a)) fun r => (S.out a).All fun q => CovR (S.objs a).length r q.1 q.2
  | none => False
structure OwesN {G : Type} (hd : Hd regK.T) (f : Nat) (S : Go.W.Spec regK.T) (A : Nat → List Tgt) (L : G → Nat → St regK.T → Option (LoopI regK.T G)) (J : G → Nat → Option (LoopI regK.T G)) (g : G) (a : S.α) : Prop where
  go : OwesDN hd f S A L J g a
theorem spec_loopN {G : Type} {hd : Hd regK.T} (hHd : HdSound Tryd.prog hd) {f : Nat} {S : Go.W.Spec regK.T} (ht : (match Tryd.prog.funcs[f]? with | some fn => !fn.body.isNone | none => false) = true)
    (A : S.α → Nat → List Tgt) (L : S.α → G → Nat → St regK.T → Option (LoopI regK.T G)) (J : S.α → G → Nat → Option (LoopI regK.T G)) (g : S.α → G) (h : ∀ a, S.pre a = true → OwesN hd f S (A a) (L a) (J a) (g a) a) : SpecOk Tryd.prog f S := by
  obtain ⟨fn, hfn⟩ : ∃ fn, Tryd.prog.funcs[f]? = some fn := by
    split at ht
    · rename_i fn h; exact ⟨fn, h⟩
    · cases ht
  refine specOk_of_awpN (fuel := 1000) mixed hHd hfn (there f ht) (fun a ha => ⟨G, g a, A a, L a, J a, ?_⟩)
  have := (h a ha).go
  unfold OwesDN at this
  rw [hfn] at this
  exact this

/-- What a function without loops owes. -/
def MeetK (hd : Hd regK.T) (f : Nat) (S : Go.W.Spec regK.T) (a : S.α) : Prop := ((exFun Tryd.prog hd 1000 f (S.args a) (canH (S.objs a))).bind (tidyLeaf regK (canH (S.objs a)))).K fun r => (S.out a).All fun q => CovR (S.objs a).length r q.1 q.2
structure MeetsK (hd : Hd regK.T) (f : Nat) (S : Go.W.Spec regK.T) (a : S.α) : Prop where
  go : MeetK hd f S a
theorem spec_leaf {hd : Hd regK.T} (hHd : HdSound Tryd.prog hd) {f : Nat} {S : Go.W.Spec regK.T} (ht : (match Tryd.prog.funcs[f]? with | some fn => !fn.body.isNone | none => false) = true) (h : ∀ a, S.pre a = true → MeetsK hd f S a) : SpecOk Tryd.prog f S :=
  specOk_of_leaf mixed hHd hno (there f ht) (fun a ha => (h a ha).go)

/-! ### strings.Index, at one byte -/
def small (n : Nat) : Bool := Nat.ble n 1000000
theorem small_le {n : Nat} (h : small n = true) : n ≤ 1000000 := Nat.le_of_ble_eq_true h
structure ASp where
  s : B
  c : UInt8
def S51 : Go.W.Spec regK.T := ⟨ASp, fun a => [ks a.s, ks [a.c]], fun _ => [], fun _ => true, fun a => .ret (ki (Lib.indexByte a.s a.c), [])⟩
theorem cov_i' (ρ : List (Nat × Nat)) (n : Int) : covV ρ (ki n) (ki n) := (must_iff _ _).2 ⟨rfl, rfl⟩
theorem cov_s (ρ : List (Nat × Nat)) (s : B) : covV ρ (ks s) (ks s) := rfl
def M51 : Meet S51 where
  find args _ := match args with | [.d (.str s), .d (.str [c])] => some (⟨s, c⟩, []) | _ => none
  ok args g a ρ h := by
    split at h
    · cases h
      exact ⟨⟨cov_s _ _, cov_s _ _, trivial⟩, rfl, fun j o' hj => by simp [S51] at hj⟩
    · cases h
end Go.Proofs.YtaonjbojhikndaaDoor

namespace Go.Proofs.YtaonjbojhikndaaDoor
open Go Go.W Go.Proofs
set_option maxRecDepth 100000
theorem v51 (a : ASp) : (MeetK e0 (51 : Nat) S51 a) = (
  branch ([a.c] == a.s) (Lib.indexByte a.s a.c = (0 : Int) ∧ True)
 (Lib.indexByte a.s a.c =
   Lib.indexByte a.s (↑([a.c].getD (0 : Nat) (OfNat.ofNat (0 : Nat))).toNat : Int).toNat.toUInt8 ∧
  True)) := by kernel_rfl
end Go.Proofs.YtaonjbojhikndaaDoor

namespace Go.Proofs.YtaonjbojhikndaaDoor
open Go Go.W
set_option maxRecDepth 100000

theorem byte_back (c : UInt8) : ((([c].getD 0 0).toNat : Int)).toNat.toUInt8 = c := by simp
theorem ok51 (a : ASp) : MeetsK e0 51 S51 a := by
  refine MeetsK.mk ?_
  rw [v51]
  simp only [branch_iff]
  obtain ⟨s, c⟩ := a
  simp only
  refine ⟨fun h => ?_, fun _ => ?_⟩
  · have h : [c] = s := by simpa using h
    subst h
    simp [Lib.indexByte]
  · simp
theorem k51 : SpecOk Tryd.prog 51 S51 := spec_leaf e0_sound (by kernel_rfl) (fun a _ => ok51 a)
def K1 : Con regK.T := fun f => lookN [(79, u79), (50, u50), (51, S51.con M51)] f
theorem a51 : RowOK 51 (S51.con M51) := Spec.con_ok k51 M51 (fun _ => Nat.le_of_ble_eq_true rfl)
theorem K1_ok : ConOk Tryd.prog K1 := con_cons a79 (con_cons a50 (con_cons a51 con_nil))
noncomputable def e1 : Hd regK.T := hdT regK Tryd.prog K1 (fun _ => false) 1000 5
theorem e1_sound : HdSound Tryd.prog e1 := hdT_sound mixed hno K1_ok _ _ _

/-! ### strings.genSplit, at one byte -/
def S39 : Go.W.Spec regK.T := ⟨ASp, fun a => [ks a.s, ks [a.c], ki 0, ki (-1)], fun _ => [], fun a => small a.s.length,
  fun a => .ret (.sl 0 0 (splitM a.c a.s).length (.exact (splitM a.c a.s).length), [some (.trows 9 (splitM a.c a.s))])⟩
structure R39 where
  done : List B
  rest : B
def N39 (a : ASp) : Nat := a.s.count a.c + 1
def P39 (a : ASp) (x : R39) : Prop := x.done ++ splitM a.c x.rest = splitM a.c a.s ∧ x.rest.length ≤ a.s.length
def rows39 (a : ASp) (x : R39) : List B := x.done ++ List.replicate (N39 a - x.done.length) []
def L39 (a : ASp) (_ : Unit) (k : Nat) (_ : St regK.T) : Option (LoopI regK.T Unit) := match Nat.beq k 11 with
  | true => some ⟨{ x : R39 // P39 a x }, fun x => ⟨[(0, ks x.1.rest), (1, ks [a.c]), (2, ki 0), (3, ki (a.s.count a.c : Nat)), (9, .sl 0 0 (N39 a) (.exact (N39 a))), (10, ki (x.1.done.length : Nat))], [(0, .trows 9 (rows39 a x.1))], 1⟩, fun x => x.1.rest.length, fun _ => ()⟩
  | false => none
end Go.Proofs.YtaonjbojhikndaaDoor

namespace Go.Proofs.YtaonjbojhikndaaDoor
open Go Go.W Go.Proofs
set_option maxRecDepth 100000
theorem v39 (a : ASp) : (OwesDN e1 (39 : Nat) S39 (fun (_ : Nat) => []) (L39 a) noJ () a) = (
  branch
 (decide
       ((0 : Int) ≤
        if
          IntKind.i64.wrap ((↑(List.length a.s) : Int) + (1 : Int)) <
           IntKind.i64.wrap ((↑(Lib.countByte a.s a.c) : Int) + (1 : Int)) then
         IntKind.i64.wrap ((↑(List.length a.s) : Int) + (1 : Int))
        else IntKind.i64.wrap ((↑(Lib.countByte a.s a.c) : Int) + (1 : Int))) &&
      decide
       ((if
          IntKind.i64.wrap ((↑(List.length a.s) : Int) + (1 : Int)) <
           IntKind.i64.wrap ((↑(Lib.countByte a.s a.c) : Int) + (1 : Int)) then
         IntKind.i64.wrap ((↑(List.length a.s) : Int) + (1 : Int))
        else IntKind.i64.wrap ((↑(Lib.countByte a.s a.c) : Int) + (1 : Int))) ≤
        if
          IntKind.i64.wrap ((↑(List.length a.s) : Int) + (1 : Int)) <
           IntKind.i64.wrap ((↑(Lib.countByte a.s a.c) : Int) + (1 : Int)) then
         IntKind.i64.wrap ((↑(List.length a.s) : Int) + (1 : Int))
        else IntKind.i64.wrap ((↑(Lib.countByte a.s a.c) : Int) + (1 : Int))) &&
     decide
      ((if
         IntKind.i64.wrap ((↑(List.length a.s) : Int) + (1 : Int)) <
          IntKind.i64.wrap ((↑(Lib.countByte a.s a.c) : Int) + (1 : Int)) then
        IntKind.i64.wrap ((↑(List.length a.s) : Int) + (1 : Int))
       else IntKind.i64.wrap ((↑(Lib.countByte a.s a.c) : Int) + (1 : Int))) ≤
       (9223372036854775807 : Int)) &&
    decide
     (((↑(16 : Nat) : Int) *
       if
         IntKind.i64.wrap ((↑(List.length a.s) : Int) + (1 : Int)) <
          IntKind.i64.wrap ((↑(Lib.countByte a.s a.c) : Int) + (1 : Int)) then
        IntKind.i64.wrap ((↑(List.length a.s) : Int) + (1 : Int))
       else IntKind.i64.wrap ((↑(Lib.countByte a.s a.c) : Int) + (1 : Int))) ≤
      (140737488355328 : Int)) &&
   true &&
  true)
 ((∃ (x : { x : R39 // P39 a x }),
   (x.val.rest = a.s ∧
     [a.c] = [a.c] ∧
      (0 : Int) = (0 : Int) ∧
       (↑(List.count a.c a.s) : Int) =
         IntKind.i64.wrap
          ((if
             IntKind.i64.wrap ((↑(List.length a.s) : Int) + (1 : Int)) <
              IntKind.i64.wrap ((↑(Lib.countByte a.s a.c) : Int) + (1 : Int)) then
            IntKind.i64.wrap ((↑(List.length a.s) : Int) + (1 : Int))
           else IntKind.i64.wrap ((↑(Lib.countByte a.s a.c) : Int) + (1 : Int))) -
           (1 : Int)) ∧
        ((0 : Nat) = (0 : Nat) ∧
          N39 a =
            (if
               IntKind.i64.wrap ((↑(List.length a.s) : Int) + (1 : Int)) <
                IntKind.i64.wrap ((↑(Lib.countByte a.s a.c) : Int) + (1 : Int)) then
              IntKind.i64.wrap ((↑(List.length a.s) : Int) + (1 : Int))
             else IntKind.i64.wrap ((↑(Lib.countByte a.s a.c) : Int) + (1 : Int))).toNat ∧
           N39 a =
            (if
               IntKind.i64.wrap ((↑(List.length a.s) : Int) + (1 : Int)) <
                IntKind.i64.wrap ((↑(Lib.countByte a.s a.c) : Int) + (1 : Int)) then
              IntKind.i64.wrap ((↑(List.length a.s) : Int) + (1 : Int))
             else IntKind.i64.wrap ((↑(Lib.countByte a.s a.c) : Int) + (1 : Int))).toNat) ∧
         (↑x.val.done.length : Int) = (0 : Int) ∧ True) ∧
    o9 (rows39 a x.val) =
      o9
       (List.replicate
        (if
           IntKind.i64.wrap ((↑(List.length a.s) : Int) + (1 : Int)) <
            IntKind.i64.wrap ((↑(Lib.countByte a.s a.c) : Int) + (1 : Int)) then
          IntKind.i64.wrap ((↑(List.length a.s) : Int) + (1 : Int))
         else IntKind.i64.wrap ((↑(Lib.countByte a.s a.c) : Int) + (1 : Int))).toNat
        []) ∧
     True) ∧
  ∀ (x : { x : R39 // P39 a x }),
   branch (decide ((↑x.val.done.length : Int) < (↑(List.count a.c a.s) : Int)))
    (branch (decide (Lib.indexByte x.val.rest a.c < (0 : Int)))
     (branch (decide ((↑x.val.done.length : Int) < (↑(N39 a) : Int)))
      (branch (((0 : Nat) + (↑x.val.done.length : Int).toNat).blt (rows39 a x.val).length && true)
       (branch
        (decide ((0 : Int) ≤ IntKind.i64.wrap ((↑x.val.done.length : Int) + (1 : Int))) &&
         decide (IntKind.i64.wrap ((↑x.val.done.length : Int) + (1 : Int)) ≤ (↑(N39 a) : Int)))
        (((0 : Nat) = (0 : Nat) ∧
          (splitM a.c a.s).length = (IntKind.i64.wrap ((↑x.val.done.length : Int) + (1 : Int)) - (0 : Int)).toNat ∧
           (splitM a.c a.s).length = N39 a - (0 : Nat)) ∧
         o9 (splitM a.c a.s) = o9 ((rows39 a x.val).set ((0 : Nat) + (↑x.val.done.length : Int).toNat) x.val.rest) ∧
          True)
        False)
       False)
      False)
     (branch
      (decide ((0 : Int) ≤ IntKind.i64.wrap (Lib.indexByte x.val.rest a.c + (0 : Int))) &&
       decide (IntKind.i64.wrap (Lib.indexByte x.val.rest a.c + (0 : Int)) ≤ (↑(List.length x.val.rest) : Int)))
      (branch (decide ((↑x.val.done.length : Int) < (↑(N39 a) : Int)))
       (branch (((0 : Nat) + (↑x.val.done.length : Int).toNat).blt (rows39 a x.val).length && true)
        (branch
         (decide ((0 : Int) ≤ IntKind.i64.wrap (Lib.indexByte x.val.rest a.c + (↑(1 : Nat) : Int))) &&
           decide
            (IntKind.i64.wrap (Lib.indexByte x.val.rest a.c + (↑(1 : Nat) : Int)) ≤
             (↑(List.length x.val.rest) : Int)) &&
          decide ((↑(List.length x.val.rest) : Int) ≤ (↑(List.length x.val.rest) : Int)))
         (∃ (x' : { x : R39 // P39 a x }),
          List.length x'.val.rest < List.length x.val.rest ∧
           (x'.val.rest =
              List.drop (IntKind.i64.wrap (Lib.indexByte x.val.rest a.c + (↑(1 : Nat) : Int))).toNat
               (List.take (↑(List.length x.val.rest) : Int).toNat x.val.rest) ∧
             [a.c] = [a.c] ∧
              (0 : Int) = (0 : Int) ∧
               (↑(List.count a.c a.s) : Int) = (↑(List.count a.c a.s) : Int) ∧
                ((0 : Nat) = (0 : Nat) ∧ N39 a = N39 a ∧ N39 a = N39 a) ∧
                 (↑x'.val.done.length : Int) = IntKind.i64.wrap ((↑x.val.done.length : Int) + (1 : Int)) ∧ True) ∧
            o9 (rows39 a x'.val) =
              o9
               ((rows39 a x.val).set ((0 : Nat) + (↑x.val.done.length : Int).toNat)
                (List.drop (0 : Nat)
                 (List.take (IntKind.i64.wrap (Lib.indexByte x.val.rest a.c + (0 : Int))).toNat x.val.rest))) ∧
             True)
         False)
        False)
       False)
      False))
    (branch (decide ((↑x.val.done.length : Int) < (↑(N39 a) : Int)))
     (branch (((0 : Nat) + (↑x.val.done.length : Int).toNat).blt (rows39 a x.val).length && true)
      (branch
       (decide ((0 : Int) ≤ IntKind.i64.wrap ((↑x.val.done.length : Int) + (1 : Int))) &&
        decide (IntKind.i64.wrap ((↑x.val.done.length : Int) + (1 : Int)) ≤ (↑(N39 a) : Int)))
       (((0 : Nat) = (0 : Nat) ∧
         (splitM a.c a.s).length = (IntKind.i64.wrap ((↑x.val.done.length : Int) + (1 : Int)) - (0 : Int)).toNat ∧
          (splitM a.c a.s).length = N39 a - (0 : Nat)) ∧
        o9 (splitM a.c a.s) = o9 ((rows39 a x.val).set ((0 : Nat) + (↑x.val.done.length : Int).toNat) x.val.rest) ∧
         True)
       False)
      False)
     False))
 False) := by kernel_rfl
end Go.Proofs.YtaonjbojhikndaaDoor

namespace Go.Proofs.YtaonjbojhikndaaDoor
open Go Go.W
set_option maxRecDepth 100000

theorem brT {b : Bool} {x y : Prop} (h : b = true) (hx : x) : branch b x y := by subst h; exact hx
theorem brF {b : Bool} {x y : Prop} (h : b = false) (hy : y) : branch b x y := by subst h; exact hy
theorem br {b : Bool} {x y : Prop} (h1 : b = true → x) (h2 : b = false → y) : branch b x y := by cases b <;> simp_all [branch]

theorem split_one {c : UInt8} {l : B} (h : (splitM c l).length = 1) : splitM c l = [l] := by
  rcases index_cases l c with h1 | ⟨m, h1⟩
  · exact split_none h1
  · obtain ⟨h2, _⟩ := split_some h1
    rw [h2] at h
    have h3 := splitM_len c (l.drop (m + 1))
    rw [List.length_cons, h3] at h
    omega
theorem len39 {a : ASp} {x : R39} (h : P39 a x) : x.done.length + x.rest.count a.c = a.s.count a.c := by
  have := congrArg List.length h.1
  rw [List.length_append, splitM_len, splitM_len] at this
  omega
theorem rows_len {a : ASp} {x : R39} (h : P39 a x) : (rows39 a x).length = a.s.count a.c + 1 := by
  have := len39 h
  simp only [rows39, N39, List.length_append, List.length_replicate]
  omega
theorem fin39 {a : ASp} {x : R39} (h : P39 a x) (hr : splitM a.c x.rest = [x.rest]) : x.done.length = a.s.count a.c ∧ splitM a.c a.s = (rows39 a x).set x.done.length x.rest := by
  have h1 := len39 h
  have h2 := splitM_len a.c x.rest
  rw [hr] at h2
  have h3 : x.rest.count a.c = 0 := by simpa using h2.symm
  refine ⟨by omega, ?_⟩
  have h4 : N39 a - x.done.length = 1 := by simp only [N39]; omega
  rw [← h.1, hr, rows39, h4]
  simp
theorem count_le (a : ASp) : a.s.count a.c ≤ a.s.length := List.count_le_length

theorem ok39 (a : ASp) (hp : S39.pre a = true) : OwesN e1 39 S39 (fun _ => []) (L39 a) noJ () a := by
  refine OwesN.mk ?_
  rw [v39]
  have hs : a.s.length ≤ 1000000 := small_le hp
  have hc := count_le a
  have w1 : IntKind.i64.wrap ((a.s.length : Int) + 1) = a.s.length + 1 := wrap_id (by omega) (by omega)
  have w2 : IntKind.i64.wrap ((Lib.countByte a.s a.c : Int) + 1) = a.s.count a.c + 1 := by
    show IntKind.i64.wrap ((a.s.count a.c : Int) + 1) = _
    exact wrap_id (by omega) (by omega)
  have w3 : IntKind.i64.wrap ((a.s.count a.c : Int) + 1 - 1) = a.s.count a.c := by rw [wrap_id] <;> omega
  have e1 : (if (a.s.length : Int) + 1 < a.s.count a.c + 1 then (a.s.length : Int) + 1 else a.s.count a.c + 1) = a.s.count a.c + 1 := if_neg (by omega)
  rw [w1, w2, e1, w3]
  have fin : ∀ (x : { x : R39 // P39 a x }), splitM a.c x.1.rest = [x.1.rest] → branch (decide ((x.1.done.length : Int) < (N39 a : Int)))
     (branch (((0 : Nat) + (x.1.done.length : Int).toNat).blt (rows39 a x.1).length && true)
      (branch
       (decide ((0 : Int) ≤ IntKind.i64.wrap ((x.1.done.length : Int) + (1 : Int))) &&
        decide (IntKind.i64.wrap ((x.1.done.length : Int) + (1 : Int)) ≤ (N39 a : Int)))
       (((0 : Nat) = (0 : Nat) ∧
         (splitM a.c a.s).length = (IntKind.i64.wrap ((x.1.done.length : Int) + (1 : Int)) - (0 : Int)).toNat ∧
          (splitM a.c a.s).length = N39 a - (0 : Nat)) ∧
        o9 (splitM a.c a.s) = o9 ((rows39 a x.1).set ((0 : Nat) + (x.1.done.length : Int).toNat) x.1.rest) ∧
         True)
       False)
      False)
     False := by
    intro x hx
    obtain ⟨h1, h2⟩ := fin39 x.2 hx
    have h3 := rows_len x.2
    have h4 := splitM_len a.c a.s
    have w4 : IntKind.i64.wrap ((x.1.done.length : Int) + 1) = x.1.done.length + 1 := wrap_id (by omega) (by omega)
    rw [w4]
    refine brT (by simp [N39, h1]; omega) (brT (by simp [h3]; omega) (brT (by simp [N39, h1]; omega) ⟨⟨rfl, by rw [h4]; omega, by rw [h4]; rfl⟩, ?_, trivial⟩))
    rw [h2]
    simp
  refine brT (by simp; omega) ⟨⟨⟨⟨[], a.s⟩, rfl, Nat.le_refl _⟩, ⟨rfl, rfl, rfl, rfl, ⟨rfl, by simp [N39], by simp [N39]⟩, rfl, trivial⟩, ?_, trivial⟩, fun x => ?_⟩
  · congr 1
  · have h1 := len39 x.2
    have h2 := rows_len x.2
    refine br (fun hlt => ?_) (fun hge => fin x ?_)
    · have hlt : x.1.done.length < a.s.count a.c := by simpa using hlt
      refine br (fun hneg => fin x ?_) (fun hpos => ?_)
      · rcases index_cases x.1.rest a.c with h | ⟨m, h⟩
        · exact split_none h
        · rw [h] at hneg; simp at hneg; omega
      · rcases index_cases x.1.rest a.c with h | ⟨m, h⟩
        · rw [h] at hpos; simp at hpos
        · obtain ⟨h3, h4⟩ := split_some h
          have h5 := x.2.2
          have w5 : IntKind.i64.wrap ((m : Int) + 0) = m := by rw [wrap_id] <;> omega
          have w6 : IntKind.i64.wrap ((m : Int) + (1 : Nat)) = ((m + 1 : Nat) : Int) := by rw [wrap_id] <;> omega
          have w7 : IntKind.i64.wrap ((x.1.done.length : Int) + 1) = ((x.1.done.length + 1 : Nat) : Int) := by rw [wrap_id] <;> omega
          rw [h, w5, w6, w7]
          refine brT (by simp; omega) (brT (decide_eq_true (by simp only [N39]; omega)) (brT (by simp [h2]; omega) (brT (by simp; omega) ?_)))
          refine ⟨⟨⟨x.1.done ++ [x.1.rest.take m], x.1.rest.drop (m + 1)⟩, ?_, ?_⟩, ?_, ⟨?_, rfl, rfl, rfl, ⟨rfl, rfl, rfl⟩, by simp, trivial⟩, ?_, trivial⟩
          · rw [List.append_assoc, List.singleton_append, ← h3]; exact x.2.1
          · simp only [List.length_drop]; omega
          · simp only [List.length_drop]; omega
          · simp
          · have h6 : N39 a - x.1.done.length = (N39 a - (x.1.done.length + 1)) + 1 := by simp only [N39]; omega
            congr 1
            simp only [rows39, List.length_append, List.length_singleton, h6, List.replicate_succ]
            simp
    · have hge : a.s.count a.c ≤ x.1.done.length := by simpa using hge
      refine split_one ?_
      rw [splitM_len]
      omega
theorem k39 : SpecOk Tryd.prog 39 S39 := spec_loopN e1_sound (by kernel_rfl) (fun _ _ => []) L39 (fun _ => noJ) (fun _ => ()) ok39
end Go.Proofs.YtaonjbojhikndaaDoor
