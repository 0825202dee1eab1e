/- The rows of the slices that the statements of disk are about. No conditions. -/
import Derived.Test.YtaencddffbmdeaaRows
import Derived.Test.YtaencddffbmdeaaWA
namespace Go.Proofs.Ytaencddffbmdeaa
open Go Go.W

structure Cl where
  kind : Int
  n : Int
  b : List UInt8

structure RowT where
  T : Type
  dflt : T
  has : Bool
def rowK : Nat → RowT
  | 3 => ⟨Int, 0, true⟩
  | 5 => ⟨UInt8, 0, true⟩
  | 43 => ⟨List UInt8, [], true⟩
  | 62 => ⟨Cl, ⟨0, 0, []⟩, true⟩
  | _ => ⟨Unit, (), false⟩
def TK (e : Nat) : Type := (rowK e).T

def enc3 (x : Int) : List (D TK) := [.int .i64 x]
def enc5 (x : UInt8) : List (D TK) := [.int .u8 (UInt8.toNat x)]
def enc43 (x : List UInt8) : List (D TK) := [.sl 5 x]
def enc62 (x : Cl) : List (D TK) := [.int .i64 x.kind, .int .i64 x.n, .sl 5 x.b]

def dec3 : List (D TK) → Option Int
  | [.int .i64 x] => some x
  | _ => none
def dec5 : List (D TK) → Option UInt8
  | [.int .u8 (.ofNat m)] => (match Nat.blt m 256 with | true => some (UInt8.ofNat m) | false => none)
  | _ => none
def dec43 : List (D TK) → Option (List UInt8)
  | [.sl 5 x] => some x
  | _ => none
def dec62 : List (D TK) → Option Cl
  | [.int .i64 x, .int .i64 y, .sl 5 b] => some ⟨x, y, b⟩
  | _ => none

theorem law3 (l : List (D TK)) (x : Int) (h : dec3 l = some x) : enc3 x = l := by
  unfold dec3 at h
  split at h
  · cases h; rfl
  · cases h
theorem law5 (l : List (D TK)) (x : UInt8) (h : dec5 l = some x) : enc5 x = l := by
  unfold dec5 at h
  split at h
  · rename_i m
    split at h
    · rename_i hm
      cases h
      have hm : m < 256 := by simpa using hm
      show [D.int IntKind.u8 ((UInt8.ofNat m).toNat : Int)] = _
      rw [UInt8.toNat_ofNat_of_lt' hm]
      rfl
    · cases h
  · cases h
theorem law43 (l : List (D TK)) (x : List UInt8) (h : dec43 l = some x) : enc43 x = l := by
  unfold dec43 at h
  split at h
  · cases h; rfl
  · cases h
theorem law62 (l : List (D TK)) (x : Cl) (h : dec62 l = some x) : enc62 x = l := by
  unfold dec62 at h
  split at h
  · cases h; rfl
  · cases h

structure RowE (e : Nat) where
  k : Nat
  enc : TK e → List (D TK)
  dec : List (D TK) → Option (TK e)
  law : ∀ l x, dec l = some x → enc x = l
  len : ∀ x, (enc x).length = k
def rowE : (e : Nat) → RowE e
  | 3 => ⟨1, enc3, dec3, law3, fun _ => rfl⟩
  | 5 => ⟨1, enc5, dec5, law5, fun _ => rfl⟩
  | 43 => ⟨1, enc43, dec43, law43, fun _ => rfl⟩
  | 62 => ⟨3, enc62, dec62, law62, fun _ => rfl⟩
  | _ => ⟨0, fun _ => [], fun _ => none, fun _ _ h => (by cases h), fun _ => rfl⟩

def isBK (e : Nat) : Bool := Nat.beq e 5
structure ByteE (e : Nat) where
  toS : List (TK e) → List UInt8
  ofS : List UInt8 → List (TK e)
def byteE : (e : Nat) → ByteE e
  | 5 => ⟨fun (xs : List UInt8) => xs, fun s => (s : List UInt8)⟩
  | _ => ⟨fun _ => [], fun _ => []⟩
theorem isBK_eq {e : Nat} (h : isBK e = true) : e = 5 := Nat.eq_of_beq_eq_true h

def regK : Reg where
  T := TK
  has e := (rowK e).has
  k e := (rowE e).k
  dflt e := (rowK e).dflt
  enc e := (rowE e).enc
  dec e := (rowE e).dec
  isB := isBK
  toS e := (byteE e).toS
  ofS e := (byteE e).ofS
  law e := (rowE e).law
  len e := (rowE e).len
  toS_len e xs h := by have := isBK_eq h; subst this; rfl
  toS_get e xs r h hr := by have := isBK_eq h; subst this; rfl
  ofS_len e s h := by have := isBK_eq h; subst this; rfl
  ofS_get e s r h hr := by have := isBK_eq h; subst this; rfl
end Go.Proofs.Ytaencddffbmdeaa
