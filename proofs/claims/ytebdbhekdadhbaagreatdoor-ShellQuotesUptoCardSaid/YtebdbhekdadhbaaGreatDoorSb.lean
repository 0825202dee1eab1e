/- The rows of the slices that words are made of; contracts of what has no body. No conditions. -/
import Derived.Test.YtebdbhekdadhbaaGreatDoorCx
import Derived.Test.YtebdbhekdadhbaaGreatDoorWK
import Derived.Test.YtebdbhekdadhbaaGreatDoorWU
namespace Go.Proofs.YtebdbhekdadhbaaGreatDoor
open Go Go.W Go.Proofs
set_option maxRecDepth 100000
theorem mixed : Tryz.prog.follows .mixedOrders = true := by kernel_rfl
theorem noNum : (Tryz.prog.funcs.toList.all fun fn => fn.body.isNone || !(fn.name == "runtime.NumGoroutine")) = true := by kernel_rfl
theorem hno : ∀ (f : FuncId) fn, Tryz.prog.funcs[f]? = some fn → fn.body.isNone = false → (fn.name == "runtime.NumGoroutine") = false := by
  intro f fn h hb
  have := List.all_eq_true.1 noNum fn (by rw [Array.mem_toList_iff]; exact Array.mem_of_getElem? h)
  rw [hb] at this
  simpa using this
theorem there (f : Nat) (h : (match Tryz.prog.funcs[f]? with | some fn => !fn.body.isNone | none => false) = true) : There Tryz.prog f := by
  split at h
  · rename_i fn hfn
    have hb : fn.body.isNone = false := by simpa using h
    exact ⟨fn, hfn, hno f fn hfn hb, hb⟩
  · cases h

abbrev B := List UInt8
structure RowT where
  T : Type
  dflt : T
  has : Bool
def rowK : Nat → RowT
  | 5 => ⟨Int, 0, true⟩
  | 9 => ⟨B, [], true⟩
  | 22 => ⟨List Int, [], true⟩
  | _ => ⟨Unit, (), false⟩
def TK (e : Nat) : Type := (rowK e).T

def encB (x : Int) : List (D TK) := [.int .u8 x]
def encS (x : B) : List (D TK) := [.str x]
def encL (x : List Int) : List (D TK) := [.sl 5 x]

def decB : List (D TK) → Option Int
  | [.int .u8 x] => some x
  | _ => none
def decS : List (D TK) → Option B
  | [.str x] => some x
  | _ => none
def decL : List (D TK) → Option (List Int)
  | [.sl 5 x] => some x
  | _ => none

theorem lawB (l : List (D TK)) (x : Int) (h : decB l = some x) : encB x = l := by
  unfold decB at h
  split at h
  · cases h; rfl
  · cases h
theorem lawS (l : List (D TK)) (x : B) (h : decS l = some x) : encS x = l := by
  unfold decS at h
  split at h
  · cases h; rfl
  · cases h
theorem lawL (l : List (D TK)) (x : List Int) (h : decL l = some x) : encL x = l := by
  unfold decL at h
  split at h
  · cases h; rfl
  · cases h

structure RowE (e : Nat) where
  k : Nat
  enc : TK e → List (D TK)
  dec : List (D TK) → Option (TK e)
  law : ∀ l x, dec l = some x → enc x = l
  len : ∀ x, (enc x).length = k
def rowE : (e : Nat) → RowE e
  | 5 => ⟨1, encB, decB, lawB, fun _ => rfl⟩
  | 9 => ⟨1, encS, decS, lawS, fun _ => rfl⟩
  | 22 => ⟨1, encL, decL, lawL, fun _ => rfl⟩
  | _ => ⟨0, fun _ => [], fun _ => none, fun _ _ h => (by cases h), fun _ => rfl⟩

/-- Bytes as numbers, and back. -/
def up (s : B) : List Int := s.map fun c => (c.toNat : Int)
def dn (xs : List Int) : B := xs.map fun n => UInt8.ofNat n.toNat
theorem up_len (s : B) : (up s).length = s.length := by simp [up]
theorem dn_len (xs : List Int) : (dn xs).length = xs.length := by simp [dn]
theorem dn_up (s : B) : dn (up s) = s := by
  unfold dn up
  rw [List.map_map]
  conv => rhs; rw [← List.map_id s]
  apply List.map_congr_left
  intro c _
  simp
theorem dn_get {xs : List Int} {r : Nat} (h : r < xs.length) : (dn xs).getD r 0 = UInt8.ofNat (xs.getD r 0).toNat := by
  simp [dn, List.getD, h]
theorem up_get (s : B) (r : Nat) : (up s).getD r 0 = ((s.getD r 0).toNat : Int) := by
  rcases Nat.lt_or_ge r s.length with h | h
  · simp [up, List.getD, h]
  · simp [up, List.getD, h]
def isBK (e : Nat) : Bool := Nat.beq e 5
structure ByteE (e : Nat) where
  toS : List (TK e) → List UInt8
  ofS : List UInt8 → List (TK e)
def byteE : (e : Nat) → ByteE e
  | 5 => ⟨dn, up⟩
  | _ => ⟨fun _ => [], fun _ => []⟩
theorem isBK_eq {e : Nat} (h : isBK e = true) : e = 5 := Nat.eq_of_beq_eq_true h

def regK : Reg where
  T := TK
  has e := (rowK e).has
  k e := (rowE e).k
  dflt e := (rowK e).dflt
  enc e := (rowE e).enc
  dec e := (rowE e).dec
  isB := isBK
  toS e := (byteE e).toS
  ofS e := (byteE e).ofS
  law e := (rowE e).law
  len e := (rowE e).len
  toS_len e xs h := by have := isBK_eq h; subst this; exact dn_len xs
  toS_get e xs r h hr := by have := isBK_eq h; subst this; exact ⟨_, rfl, dn_get hr⟩
  ofS_len e s h := by have := isBK_eq h; subst this; exact up_len s
  ofS_get e s r h _ := by have := isBK_eq h; subst this; exact congrArg (fun n : Int => [D.int IntKind.u8 n]) (up_get s r)
  Tab := fun _ => True

abbrev VK := V regK.T
abbrev OK := O regK.T
abbrev TB := List VK → Hp regK.T → Out (VK × Hp regK.T)
abbrev QO := Out (VK × List (Option OK))
def ki (n : Int) : VK := .d (.int .i64 n)
def ks (s : B) : VK := .d (.str s)
def kb (b : Bool) : VK := .d (.bool b)
def ku (c : UInt8) : VK := .d (.int .u8 c.toNat)
abbrev w64 (n : Int) : Int := IntKind.i64.wrap n
theorem wrap_id {n : Int} (h1 : -9223372036854775808 ≤ n) (h2 : n ≤ 9223372036854775807) : IntKind.i64.wrap n = n := IntWalk.i64_in _ ⟨h1, h2⟩

/-! ### Names for what is printed -/
def dB (xs : List Int) : D TK := .sl 5 xs
def dS (xs : List B) : D TK := .sl 9 xs
def dL (xs : List (List Int)) : D TK := .sl 22 xs
def oB (xs : List Int) : OK := .trows 5 xs
def oS (xs : List B) : OK := .trows 9 xs
def oL (xs : List (List Int)) : OK := .trows 22 xs
def nilB : List UInt8 := []
def nilI : List Int := []
def nilBs : List (List UInt8) := []
def nilpD : D TK := .nilp
def nilsD : D TK := .nils

/-! ### Tables -/
def RowOK (f : FuncId) (S : TB) : Prop := ∀ args h Q, (S args h).K Q → There Tryz.prog f ∧ ∀ N F φ w cargs, (∀ r, Q r → Fresh N h.nx r.2.nx) → HR N F φ h w → LRel F w φ args cargs → Calls Tryz.prog f cargs w (CallPost N F φ h w Q)
theorem con_cons {f : FuncId} {S} {l : List (Nat × TB)} (h : RowOK f S) (hl : ConOk Tryz.prog (fun g => lookN l g)) : ConOk Tryz.prog (fun g => lookN ((f, S) :: l) g) := by
  intro g S' hg
  simp only [lookN] at hg
  split at hg
  · rename_i hb
    cases hg
    rw [← Nat.eq_of_beq_eq_true hb]
    exact h
  · exact hl g S' hg
theorem con_nil : ConOk (reg := regK) Tryz.prog (fun g => lookN [] g) := fun f S h => by cases h

theorem args2 {F : Nat → Prop} {w : World} {φ : Phi} {v u : VK} {cs : Array Value} (hl : LRel F w φ [v, u] cs) : ∃ c d, cs = #[c, d] ∧ VRel regK F w φ v c ∧ VRel regK F w φ u d := by
  have h1 : cs.size = 2 := hl.1.symm
  refine ⟨cs.getD 0 undef, cs.getD 1 undef, ?_, hl.2 0 (by simp), hl.2 1 (by simp)⟩
  apply Array.ext
  · simpa using h1
  · intro i h2 h3
    have h4 : i < 2 := by simpa using h3
    match i, h4 with
    | 0, _ => simp [h1]
    | 1, _ => simp [h1]

def uIx : TB := fun args h => match args with | [.d (.str s), .d (.int .u8 c)] => (.ret (.d (.int .i64 (Lib.indexByte s c.toNat.toUInt8)), h)) | _ => .bad
def uCt : TB := fun args h => match args with | [.d (.str s), .d (.str [c])] => (.ret (.d (.int .i64 (Lib.countByte s c)), h)) | _ => .bad
theorem aIx : RowOK 57 uIx := by
  intro args h Q hq
  unfold uIx at hq
  split at hq
  · rename_i s c
    refine ⟨there 57 (by kernel_rfl), fun N F φ w cargs _ hH hl => ?_⟩
    obtain ⟨x, y, rfl, hx, hy⟩ := args2 hl
    rw [hx.str_inv, hy.int_inv]
    refine (cIx _ c w).mono fun e w' ⟨he, hw⟩ => ?_
    subst hw
    exact ⟨_, he, Res.pure hH hq (.d _ _ (.int _ _))⟩
  · exact hq.elim
theorem aCt : RowOK 31 uCt := by
  intro args h Q hq
  unfold uCt at hq
  split at hq
  · rename_i s c
    refine ⟨there 31 (by kernel_rfl), fun N F φ w cargs _ hH hl => ?_⟩
    obtain ⟨x, y, rfl, hx, hy⟩ := args2 hl
    rw [hx.str_inv, hy.str_inv]
    refine (cCt _ c w).mono fun e w' ⟨he, hw⟩ => ?_
    subst hw
    exact ⟨_, he, Res.pure hH hq (.d _ _ (.int _ _))⟩
  · exact hq.elim

def K0 : Con regK.T := fun f => lookN [(57, uIx), (31, uCt)] f
theorem K0_ok : ConOk Tryz.prog K0 := con_cons aIx (con_cons aCt con_nil)
noncomputable def e0 : Hd regK.T := hdT regK Tryz.prog K0 (fun _ => false) 1000 5
theorem e0_sound : HdSound Tryz.prog e0 := hdT_sound mixed hno K0_ok _ _ _

/-! ### How contracts are stated -/
/-- What a function with loops owes. -/
def OwesDN {G : Type} (hd : Hd regK.T) (f : Nat) (S : Go.W.Spec regK.T) (A : Nat → List Tgt) (L : G → Nat → St regK.T → Option (LoopI regK.T G)) (J : G → Nat → Option (LoopI regK.T G)) (g : G) (a : S.α) : Prop :=
  match Tryz.prog.funcs[f]? with
  | some fn => awpFunN regK Tryz.prog hd 1000 A L J g fn (S.args a) (canH (S.objs a)) fun r => (S.out a).All fun q => CovR (S.objs a).length r q.1 q.2
  | none => False
structure OwesN {G : Type} (hd : Hd regK.T) (f : Nat) (S : Go.W.Spec regK.T) (A : Nat → List Tgt) (L : G → Nat → St regK.T → Option (LoopI regK.T G)) (J : G → Nat → Option (LoopI regK.T G)) (g : G) (a : S.α) : Prop where
  go : OwesDN hd f S A L J g a
theorem spec_loopN {G : Type} {hd : Hd regK.T} (hHd : HdSound Tryz.prog hd) {f : Nat} {S : Go.W.Spec regK.T} (ht : (match Tryz.prog.funcs[f]? with | some fn => !fn.body.isNone | none => false) = true)
    (A : S.α → Nat → List Tgt) (L : S.α → G → Nat → St regK.T → Option (LoopI regK.T G)) (J : S.α → G → Nat → Option (LoopI regK.T G)) (g : S.α → G) (h : ∀ a, S.pre a = true → OwesN hd f S (A a) (L a) (J a) (g a) a) : SpecOk Tryz.prog f S := by
  obtain ⟨fn, hfn⟩ : ∃ fn, Tryz.prog.funcs[f]? = some fn := by
    split at ht
    · rename_i fn h; exact ⟨fn, h⟩
    · cases ht
  refine specOk_of_awpN (fuel := 1000) mixed hHd hfn (there f ht) (fun a ha => ⟨G, g a, A a, L a, J a, ?_⟩)
  have := (h a ha).go
  unfold OwesDN at this
  rw [hfn] at this
  exact this
/-- What a function with loops owes, its answer as data. -/
def OwesD {G : Type} (hd : Hd regK.T) (f : Nat) (S : Go.W.Spec regK.T) (A : Nat → List Tgt) (L : G → Nat → St regK.T → Option (LoopI regK.T G)) (J : G → Nat → Option (LoopI regK.T G)) (g : G) (a : S.α) : Prop :=
  match Tryz.prog.funcs[f]? with
  | some fn => awpFunH regK Tryz.prog hd 1000 A L J g fn (S.args a) (canH (S.objs a)) fun r => (S.out a).All fun q => CovR (S.objs a).length r q.1 q.2
  | none => False
structure Owes {G : Type} (hd : Hd regK.T) (f : Nat) (S : Go.W.Spec regK.T) (A : Nat → List Tgt) (L : G → Nat → St regK.T → Option (LoopI regK.T G)) (J : G → Nat → Option (LoopI regK.T G)) (g : G) (a : S.α) : Prop where
  go : OwesD hd f S A L J g a
theorem spec_loop {G : Type} {hd : Hd regK.T} (hHd : HdSound Tryz.prog hd) {f : Nat} {S : Go.W.Spec regK.T} (ht : (match Tryz.prog.funcs[f]? with | some fn => !fn.body.isNone | none => false) = true)
    (A : S.α → Nat → List Tgt) (L : S.α → G → Nat → St regK.T → Option (LoopI regK.T G)) (J : S.α → G → Nat → Option (LoopI regK.T G)) (g : S.α → G) (h : ∀ a, S.pre a = true → Owes hd f S (A a) (L a) (J a) (g a) a) : SpecOk Tryz.prog f S := by
  obtain ⟨fn, hfn⟩ : ∃ fn, Tryz.prog.funcs[f]? = some fn := by
    split at ht
    · rename_i fn h; exact ⟨fn, h⟩
    · cases ht
  refine specOk_of_awp (fuel := 1000) mixed hHd hfn (there f ht) (fun a ha => ⟨G, g a, A a, L a, J a, ?_⟩)
  have := (h a ha).go
  unfold OwesD at this
  rw [hfn] at this
  exact this
/-- What a function without loops owes. -/
def MeetK (hd : Hd regK.T) (f : Nat) (S : Go.W.Spec regK.T) (a : S.α) : Prop := ((exFun Tryz.prog hd 1000 f (S.args a) (canH (S.objs a))).bind (tidyLeaf regK (canH (S.objs a)))).K fun r => (S.out a).All fun q => CovR (S.objs a).length r q.1 q.2
structure MeetsK (hd : Hd regK.T) (f : Nat) (S : Go.W.Spec regK.T) (a : S.α) : Prop where
  go : MeetK hd f S a
theorem spec_leaf {hd : Hd regK.T} (hHd : HdSound Tryz.prog hd) {f : Nat} {S : Go.W.Spec regK.T} (ht : (match Tryz.prog.funcs[f]? with | some fn => !fn.body.isNone | none => false) = true) (h : ∀ a, S.pre a = true → MeetsK hd f S a) : SpecOk Tryz.prog f S :=
  specOk_of_leaf mixed hHd hno (there f ht) (fun a ha => (h a ha).go)
theorem cov_i' (ρ : List (Nat × Nat)) (n : Int) : covV ρ (ki n) (ki n) := (must_iff _ _).2 ⟨rfl, rfl⟩
theorem cov_s (ρ : List (Nat × Nat)) (s : B) : covV ρ (ks s) (ks s) := rfl
/-- Texts that are not too long. -/
def sm (s : B) : Bool := Nat.ble s.length 10000000
theorem sm_le {s : B} (h : sm s = true) : s.length ≤ 10000000 := Nat.le_of_ble_eq_true h
end Go.Proofs.YtebdbhekdadhbaaGreatDoor
