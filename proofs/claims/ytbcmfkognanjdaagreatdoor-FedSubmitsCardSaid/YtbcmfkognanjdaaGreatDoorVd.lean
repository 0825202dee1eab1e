/- Loops by invariants; rows. No conditions. -/
import Derived.Test.YtbcmfkognanjdaaGreatDoorVc
import Derived.ProofKit
import Derived.HandedShaped
namespace Go.W
open Go Go.RowKit

/-! ### Definitions -/
section
variable (reg : Reg)

/-- An object of data, as data. -/
def O.toD : O reg.T → Option (D reg.T)
  | .trows e xs => some (.sl e xs)
  | .rows k xs => (match dataRows xs with | some ys => some (.usl k ys) | none => none)
  | .map _ _ => none
  | .sit _ _ => none
  | .mit _ _ _ _ => none

/-- A slice of an object, by value. -/
def V.frz (i : Nat) (d : D reg.T) : V reg.T → V reg.T
  | .sl j off len cap => (match Nat.beq j i with | true => .d (d.sub reg off (off + len)) | false => .sl j off len cap)
  | .fn f vs us => .fn f (goL i d vs) (goL i d us)
  | .ifc t v => .ifc t (V.frz i d v)
  | .agg vs => .agg (goL i d vs)
  | .tup vs => .tup (goL i d vs)
  | v => v
where goL (i : Nat) (d : D reg.T) : List (V reg.T) → List (V reg.T)
  | [] => []
  | v :: vs => V.frz i d v :: goL i d vs

/-- The slices lie in the rows. -/
def V.okFrz {T : Nat → Type} (i n : Nat) : V T → Bool
  | .sl j off len _ => (match Nat.beq j i with | true => Nat.ble (off + len) n | false => true)
  | .fn _ vs us => okL i n vs && okL i n us
  | .ifc _ v => V.okFrz i n v
  | .agg vs => okL i n vs
  | .tup vs => okL i n vs
  | _ => true
where okL {T : Nat → Type} (i n : Nat) : List (V T) → Bool
  | [] => true
  | v :: vs => V.okFrz i n v && okL i n vs

def frzObjs (i : Nat) (d : D reg.T) (n : Nat) : List Nat → Hp reg.T → Out (Hp reg.T)
  | [], h => .ret h
  | j :: l, h => (match h.get j with
    | some (.rows k xs) => (match xs.any fun r => memN (V.names.goL r []) i with
      | true => .need (xs.all fun r => V.okFrz.okL i n r) (frzObjs i d n l (h.set j (some (.rows k (xs.map (V.frz.goL reg i d))))))
      | false => frzObjs i d n l h)
    | _ => frzObjs i d n l h)

/-- The names that were written since. -/
def dirty {T : Nat → Type} (h0 h : Hp T) : List Nat := (h.wr.take (h.wr.length - h0.wr.length) ++ List.range' h0.nx (h.nx - h0.nx)).foldl addN []

/-- One new object is made data. -/
def frz1 (l : List Nat) (i : Nat) (r : V reg.T × Hp reg.T) : Out (V reg.T × Hp reg.T) :=
  match r.2.get i with
  | some ob => (match ob.toD reg with
    | some d => .need (V.okFrz i (ob.len reg) r.1) ((frzObjs reg i d (ob.len reg) l (r.2.set i none)).bind fun h => .ret (V.frz reg i d r.1, h))
    | none => .ret r)
  | none => .ret r

def frzAll (l : List Nat) : List Nat → V reg.T × Hp reg.T → Out (V reg.T × Hp reg.T)
  | [], r => .ret r
  | i :: is, r => (frz1 reg l i r).bind (frzAll l is)

/-- What a pointer points to stays. -/
def ptrs {T : Nat → Type} : V T → List Nat → List Nat
  | .ptr i _ _, l => addN l i
  | .fn _ vs us, l => goL us (goL vs l)
  | .ifc _ v, l => ptrs v l
  | .agg vs, l => goL vs l
  | .tup vs, l => goL vs l
  | _, l => l
where goL {T : Nat → Type} : List (V T) → List Nat → List Nat
  | [], l => l
  | v :: vs, l => goL vs (ptrs v l)

def optNames {T : Nat → Type} (o : Option (O T)) (l : List Nat) : List Nat := match o with
  | some o => o.names l
  | none => l
def optPtrs {T : Nat → Type} (o : Option (O T)) (l : List Nat) : List Nat := match o with
  | some (.rows _ xs) => xs.foldl (fun l r => ptrs.goL r l) l
  | _ => l

def dropNew {T : Nat → Type} (keep : List Nat) : List Nat → Hp T → Hp T
  | [], h => h
  | i :: l, h => (match memN keep i with
    | true => dropNew keep l h
    | false => (match h.get i with | some _ => dropNew keep l (h.set i none) | none => dropNew keep l h))

def tidyLeaf (h0 : Hp reg.T) (r : V reg.T × Hp reg.T) : Out (V reg.T × Hp reg.T) :=
  let l := dirty h0 r.2
  let new := List.range' h0.nx (r.2.nx - h0.nx)
  let p := l.foldl (fun a j => optPtrs (r.2.get j) a) (ptrs r.1 [])
  (frzAll reg l (new.filter fun i => !memN p i) r).bind fun r =>
    let roots := (l.filter fun i => Nat.blt i h0.nx).foldl (fun a j => optNames (r.2.get j) a) (V.names r.1 [])
    .ret (r.1, dropNew (reach r.2.get 1000 0 roots) new r.2)

/-! #### Two ways, one -/
def joinD (b : Bool) : D reg.T → D reg.T → Option (D reg.T)
  | .bool x, .bool y => some (.bool (bif b then x else y))
  | .int k x, .int k' y => (match sameKind k k' with | true => some (.int k (bif b then x else y)) | false => none)
  | .str x, .str y => some (.str (bif b then x else y))
  | .nilp, .nilp => some .nilp
  | .nilm, .nilm => some .nilm
  | .nilf, .nilf => some .nilf
  | .nili, .nili => some .nili
  | .nils, .nils => some .nils
  | .sl e xs, .sl _ ys => (match castT ys e with | some zs => some (.sl e (bif b then xs else zs)) | none => none)
  | .nils, .sl e ys => some (.sl e (bif b then [] else ys))
  | .sl e xs, .nils => some (.sl e (bif b then xs else []))
  | .usl k xs, .usl k' ys => (match Nat.beq k k' with | true => some (.usl k (bif b then xs else ys)) | false => none)
  | .nils, .usl k ys => some (.usl k (bif b then [] else ys))
  | .usl k xs, .nils => some (.usl k (bif b then xs else []))
  | _, _ => none

def joinV (b : Bool) : V reg.T → V reg.T → Option (V reg.T)
  | .d x, .d y => (match joinD reg b x y with | some z => some (.d z) | none => none)
  | .ptr i r o, .ptr i' r' o' => (match Nat.beq i i' && Nat.beq r r' && Nat.beq o o' with | true => some (.ptr i r o) | false => none)
  | .undef, .undef => some .undef
  | .any, .any => some .any
  | .agg vs, .agg us => (match goL b vs us with | some l => some (.agg l) | none => none)
  | .tup vs, .tup us => (match goL b vs us with | some l => some (.tup l) | none => none)
  | _, _ => none
where goL (b : Bool) : List (V reg.T) → List (V reg.T) → Option (List (V reg.T))
  | [], [] => some []
  | v :: vs, u :: us => (match joinV b v u, goL b vs us with | some x, some l => some (x :: l) | _, _ => none)
  | _, _ => none

def joinRows (b : Bool) : List (List (V reg.T)) → List (List (V reg.T)) → Option (List (List (V reg.T)))
  | [], [] => some []
  | r :: rs, s :: ss => (match joinV.goL reg b r s, joinRows b rs ss with | some x, some l => some (x :: l) | _, _ => none)
  | _, _ => none

def joinO (b : Bool) : O reg.T → O reg.T → Option (O reg.T)
  | .rows k xs, .rows k' ys => (match Nat.beq k k', joinRows reg b xs ys with | true, some zs => some (.rows k zs) | _, _ => none)
  | .trows e xs, .trows _ ys => (match castT ys e with | some zs => some (.trows e (bif b then xs else zs)) | none => none)
  | _, _ => none

def joinObjs (b : Bool) (h h' : Hp reg.T) : List Nat → Tr (O reg.T) → Option (Tr (O reg.T))
  | [], t => some t
  | i :: l, t => (match Tr.ok i, h.get i, h'.get i with
    | true, none, none => joinObjs b h h' l (t.set i none)
    | true, some o, some o' => (match joinO reg b o o' with | some z => joinObjs b h h' l (t.set i (some z)) | none => none)
    | _, _, _ => none)

def joinLeaf (h0 : Hp reg.T) (b : Bool) (r r' : V reg.T × Hp reg.T) : Option (V reg.T × Hp reg.T) :=
  let l1 := r.2.wr.take (r.2.wr.length - h0.wr.length)
  let l2 := r'.2.wr.take (r'.2.wr.length - h0.wr.length)
  let nx := Nat.add r.2.nx (Nat.sub r'.2.nx r.2.nx)
  let l := (l1 ++ l2 ++ List.range' h0.nx (nx - h0.nx)).foldl addN []
  match joinV reg b r.1 r'.1, joinObjs reg b r.2 r'.2 l h0.h with
  | some v, some t => some (v, ⟨t, nx, (l1 ++ l2) ++ h0.wr⟩)
  | _, _ => none
end

inductive Fl (α : Type) : Type
  | bad
  | one (p : Bool) (a : α)
  | many

def flat {α : Type} (J : Bool → α → α → Option α) : Out α → Fl α
  | .ret a => .one true a
  | .need b o => (match flat J o with | .one p a => .one (b && p) a | x => x)
  | .br b x y => (match flat J x, flat J y with
    | .bad, .bad => .bad
    | .bad, .one q c => .one (!b && q) c
    | .one p a, .bad => .one (b && p) a
    | .one p a, .one q c => (match J b a c with | some l => .one (bif b then p else q) l | none => .many)
    | _, _ => .many)
  | .bad => .bad

def mergeO {α : Type} (J : Bool → α → α → Option α) (o : Out α) : Out α :=
  match flat J o with
  | .bad => .bad
  | .one p a => .need p (.ret a)
  | .many => (match o with
    | .br b x y => .br b (mergeO J x) (mergeO J y)
    | .need b o => .need b (mergeO J o)
    | o => o)

def tidyOut (reg : Reg) (h0 : Hp reg.T) (o : Out (V reg.T × Hp reg.T)) : Out (V reg.T × Hp reg.T) := mergeO (joinLeaf reg h0) (o.bind (tidyLeaf reg h0))

/-- Calls: by contract, or by the callee's code, the ways joined where 'tid' says so. -/
def hdT (reg : Reg) (P : Program) (C : Con reg.T) (tid : FuncId → Bool) (fuel : Nat) : Nat → Hd reg.T
  | 0 => fun f args h => (match C f with | some S => S args h | none => .bad)
  | n + 1 => fun f args h => (match C f with
    | some S => S args h
    | none => (match tid f with | true => tidyOut reg h (exFun P (hdT reg P C tid fuel n) fuel f args h) | false => exFun P (hdT reg P C tid fuel n) fuel f args h))

/-! ### Soundness -/
section
variable {reg : Reg} {P : Program}

/-- What an answer with its heap may be turned into. -/
def Turns (h0 : Hp reg.T) (r r' : V reg.T × Hp reg.T) : Prop :=
  r.2.nx ≤ r'.2.nx ∧ ∀ N F φ w cv w', Res N F φ h0 w (· = r) cv w' → Res N F φ h0 w (· = r') cv w'

theorem Turns.refl (h0 : Hp reg.T) (r : V reg.T × Hp reg.T) : Turns h0 r r := ⟨Nat.le_refl _, fun _ _ _ _ _ _ h => h⟩
theorem Turns.trans {h0 : Hp reg.T} {a b c : V reg.T × Hp reg.T} (h : Turns h0 a b) (k : Turns h0 b c) : Turns h0 a c := ⟨Nat.le_trans h.1 k.1, fun N F φ w cv w' x => k.2 N F φ w cv w' (h.2 N F φ w cv w' x)⟩

/-- From what holds at the answer's heap. -/
theorem Turns.of {h0 : Hp reg.T} {r r' : V reg.T × Hp reg.T} (hn : r.2.nx ≤ r'.2.nx) (h : ∀ N F φ w cv, HR N F φ r.2 w → VRel reg F w φ r.1 cv → Res N F φ r.2 w (· = r') cv w) : Turns h0 r r' := by
  refine ⟨hn, fun N F φ w cv w' hR => ?_⟩
  obtain ⟨v, h', N', F', φ', hq, hv, hH, hG⟩ := hR
  subst hq
  obtain ⟨v2, h2, N2, F2, φ2, hq2, hv2, hH2, hG2⟩ := h N' F' φ' w' cv hH hv
  exact ⟨v2, h2, N2, F2, φ2, hq2, hv2, hH2, hG.trans hG2⟩

theorem goL_map (i : Nat) (d : D reg.T) : ∀ vs : List (V reg.T), V.frz.goL reg i d vs = vs.map (V.frz reg i d)
  | [] => rfl
  | v :: vs => by simp [V.frz.goL, goL_map i d vs]
theorem okL_all {T : Nat → Type} (i n : Nat) : ∀ vs : List (V T), V.okFrz.okL i n vs = vs.all (V.okFrz i n)
  | [] => rfl
  | v :: vs => by simp [V.okFrz.okL, okL_all i n vs]

theorem frz_solid {i : Nat} {d : D reg.T} {v : V reg.T} (h : v.solid = true) : (V.frz reg i d v).solid = true := by
  cases v <;> simp only [V.solid, Bool.false_eq_true] at h <;> simp only [V.frz] <;> (try rfl)
  rename_i j off len cap
  cases Nat.beq j i <;> rfl

theorem getD_frz {i : Nat} {d : D reg.T} {vs : List (V reg.T)} {j : Nat} (hj : j < vs.length) : (V.frz.goL reg i d vs).getD j .any = V.frz reg i d (vs.getD j .any) := by
  rw [goL_map, getD_map_lt _ _ _ _ .any hj]
theorem len_frz {i : Nat} {d : D reg.T} {vs : List (V reg.T)} : (V.frz.goL reg i d vs).length = vs.length := by rw [goL_map, List.length_map]
theorem okL_get {T : Nat → Type} {i n : Nat} {vs : List (V T)} (h : V.okFrz.okL i n vs = true) {j : Nat} (hj : j < vs.length) : V.okFrz i n (vs.getD j .any) = true := by
  rw [okL_all, List.all_eq_true] at h
  have e : vs.getD j .any = vs[j] := by simp [List.getD, hj]
  rw [e]
  exact h _ (List.getElem_mem hj)

theorem frz_rel {F F' : Nat → Prop} {w : World} {φ : Phi} {i n : Nat} {d : D reg.T} (hF : ∀ b, F b → F' b) (hfz : ∀ off len cap cv, VRel reg F w φ (.sl i off len cap) cv → off + len ≤ n → DRel reg F' w (d.sub reg off (off + len)) cv)
    {v : V reg.T} {cv : Value} (h : VRel reg F w φ v cv) (hok : V.okFrz i n v = true) : VRel reg F' w φ (V.frz reg i d v) cv := by
  have hm : ∀ b, F b → F' b ∧ w.heap[b]? = w.heap[b]? := fun b hb => ⟨hF b hb, rfl⟩
  have lists : ∀ {vs : List (V reg.T)} {cs : Array Value}, V.okFrz.okL i n vs = true → (∀ j, j < vs.length → V.okFrz i n (vs.getD j .any) = true → VRel reg F' w φ (V.frz reg i d (vs.getD j .any)) (cs.getD j undef)) →
      ∀ j, j < (V.frz.goL reg i d vs).length → VRel reg F' w φ ((V.frz.goL reg i d vs).getD j .any) (cs.getD j undef) := by
    intro vs cs hok ih j hj
    rw [len_frz] at hj
    rw [getD_frz hj]
    exact ih j hj (okL_get hok hj)
  induction h with
  | d x v hd => exact .d x v (hd.mono reg hm)
  | ptr i r o b s k z hp => exact .ptr i r o b s k z hp
  | fp row o a C t fz hFa hb hz hr => exact .fp row o a C t fz (hF _ hFa) hb hz (fun j hj => (hr j hj).mono reg hm)
  | sl j off len cap b s k z cap' hp hc hl hm' hz =>
    simp only [V.frz, V.okFrz] at hok ⊢
    cases hb : Nat.beq j i with
    | true =>
      have : j = i := Nat.eq_of_beq_eq_true hb
      subst this
      simp only [hb] at hok
      exact .d _ _ (hfz off len cap _ (.sl j off len cap b s k z cap' hp hc hl hm' hz) (Nat.le_of_ble_eq_true hok))
    | false => exact .sl j off len cap b s k z cap' hp hc hl hm' hz
  | slz j off cap base hc hnb =>
    simp only [V.frz, V.okFrz] at hok ⊢
    cases hb : Nat.beq j i with
    | true =>
      have : j = i := Nat.eq_of_beq_eq_true hb
      subst this
      simp only [hb] at hok
      exact .d _ _ (hfz off 0 cap _ (.slz j off cap base hc hnb) (Nat.le_of_ble_eq_true hok))
    | false => exact .slz j off cap base hc hnb
  | mp i b s hp => exact .mp i b s hp
  | it i b s hp => exact .it i b s hp
  | fn f caps fst cs fs hz _ hz' _ ih ih' =>
    simp only [V.okFrz, Bool.and_eq_true] at hok
    simp only [V.frz]
    exact .fn f _ _ cs fs (by rw [len_frz]; exact hz) (lists hok.1 ih) (by rw [len_frz]; exact hz') (lists hok.2 ih')
  | agg vs cs hz _ ih => simp only [V.okFrz] at hok; exact .agg _ cs (by rw [len_frz]; exact hz) (lists hok ih)
  | tup vs cs hz _ ih => simp only [V.okFrz] at hok; exact .tup _ cs (by rw [len_frz]; exact hz) (lists hok ih)
  | ifc t v cv _ ih => simp only [V.okFrz] at hok; exact .ifc t _ cv (ih hok)
  | undef => exact .undef
  | any v => exact .any v

/-- An object as data. -/
theorem dataRows_spec {T : Nat → Type} : ∀ {xs : List (List (V T))} {ys : List (List (D T))}, dataRows xs = some ys → xs = ys.map fun r => r.map .d := by
  intro xs
  induction xs with
  | nil => intro ys h; simp only [dataRows, Option.some.injEq] at h; subst h; rfl
  | cons x xs ih =>
    intro ys h
    simp only [dataRows] at h
    split at h
    · rename_i a b ha hb
      cases h
      rw [dataOf_spec ha, ih hb]
      rfl
    · cases h

theorem toD_spec {o : O reg.T} {d : D reg.T} (h : o.toD reg = some d) : o.isRows reg = true ∧ d.isSl = true ∧ d.len? reg = some (o.len reg) ∧ d.k reg 0 = o.k reg ∧ ∀ r, r < o.len reg → o.row reg r = (d.row reg r).map .d := by
  cases o with
  | rows k xs =>
    simp only [O.toD] at h
    split at h
    · rename_i ys hys
      cases h
      have e := dataRows_spec hys
      refine ⟨rfl, rfl, by rw [e]; simp [D.len?, O.len], rfl, fun r hr => ?_⟩
      rw [e] at hr ⊢
      simp only [O.len, List.length_map] at hr
      simp only [O.row, D.row]
      rw [getD_map_lt _ _ _ _ [] hr]
    · cases h
  | trows e xs => simp only [O.toD, Option.some.injEq] at h; subst h; exact ⟨rfl, rfl, rfl, rfl, fun r _ => rfl⟩
  | map c es => simp [O.toD] at h
  | sit s p => simp [O.toD] at h
  | mit m a b c => simp [O.toD] at h

theorem VRel.d_inv {F : Nat → Prop} {w : World} {φ : Phi} {x : D reg.T} {cv : Value} (h : VRel reg F w φ (.d x) cv) : DRel reg F w x cv := by cases h with | d _ _ h => exact h

/-- A slice of an object that is data now. -/
theorem sl_data {F F' : Nat → Prop} {w : World} {φ : Phi} {i : Nat} {o : O reg.T} {d : D reg.T} (hF : ∀ b, F b → F' b) (ho : ORel reg F w φ i o) (hd : o.toD reg = some d) (hb : ∀ b s k z, φ i = some (b, s, k, z) → F' b)
    (off len : Nat) (cap : Cap) (cv : Value) (hv : VRel reg F w φ (.sl i off len cap) cv) (hle : off + len ≤ o.len reg) : DRel reg F' w (d.sub reg off (off + len)) cv := by
  obtain ⟨_, h2, h3, h4, h5⟩ := toD_spec hd
  have hm : ∀ b, F b → F' b ∧ w.heap[b]? = w.heap[b]? := fun b hb => ⟨hF b hb, rfl⟩
  have hlen := sub_len h3 (Nat.le_add_right off len) hle h2
  rw [Nat.add_sub_cancel_left] at hlen
  cases hv with
  | slz _ _ _ base hc => exact .emp _ (sub_k (k0 := 0) h2).2 hlen base 0
  | sl _ _ _ _ b s k z cap' hp hc hl hm' hz =>
    obtain ⟨_, ho⟩ := ho.rows reg (by cases o <;> first | rfl | simp [O.toD] at hd)
    rcases ho with ⟨_, h⟩ | ⟨b', s', C, t, fz, h6, h7, h8, h9⟩
    · rw [hp] at h; cases h
    · rw [hp] at h6
      cases h6
      have hk : (d.sub reg off (off + len)).k reg 0 = o.k reg := (sub_k (k0 := 0) h2).1.trans h4
      refine .sl _ len ⟨b, s + off * o.k reg, none⟩ cap' C t fz (sub_k (k0 := 0) h2).2 hlen (hb _ _ _ _ hp) h7 rfl hl (by omega) ?_ (fun r hr => ?_) (fun r j hr hj => ?_)
      · rw [hk]
        have h1 := h9.size
        have h2 : (off + len) * o.k reg ≤ o.len reg * o.k reg := Nat.mul_le_mul_right _ hle
        rw [Nat.add_mul] at h2
        show s + off * o.k reg + len * o.k reg ≤ C.size
        omega
      · rw [hk, sub_row h3 h2 r (by omega)]
        have := h9.at_.wid (off + r) (by omega)
        rw [h5 (off + r) (by omega), List.length_map] at this
        exact this
      · rw [hk] at hj ⊢
        rw [sub_row h3 h2 r (by omega)]
        have hw := h9.at_.wid (off + r) (by omega)
        have := h9.at_.rel (off + r) j (by omega) hj
        rw [h5 (off + r) (by omega)] at this hw
        rw [List.length_map] at hw
        rw [getD_map_d _ _ (by omega)] at this
        have h10 := this.d_inv.mono reg hm
        rw [show s + ((off + r) * o.k reg + j) = s + off * o.k reg + r * o.k reg + j by rw [Nat.add_mul]; omega] at h10
        exact h10

/-- Heaps, object by object. -/
theorem HRel.turn {N F : Nat → Prop} {φ : Phi} {H H' : Nat → Option (O reg.T)} {w : World} (hH : HRel reg F φ N H w) (h : ∀ i o', H' i = some o' → ∃ o, H i = some o ∧ (ORel reg F w φ i o → ORel reg F w φ i o')) : HRel reg F φ N H' w := by
  refine ⟨fun i o' ho => ?_, fun i o' b s k ho hp => ?_, fun i j oi oj b s k s' k' hi hj => ?_, hH.dom, fun i o' ho => ?_, hH.ok, hH.frz, hH.lay⟩
  · obtain ⟨o, h1, h2⟩ := h i o' ho; exact h2 (hH.obj i o h1)
  · obtain ⟨o, h1, _⟩ := h i o' ho; exact hH.own i o b s k h1 hp
  · obtain ⟨a, h1, _⟩ := h i oi hi
    obtain ⟨c, h2, _⟩ := h j oj hj
    exact hH.inj i j a c b s k s' k' h1 h2
  · obtain ⟨o, h1, _⟩ := h i o' ho; exact hH.lt i o h1

theorem Goes.turn {N F N' F' : Nat → Prop} {φ φ' : Phi} {H H' H'' : Nat → Option (O reg.T)} {w w' : World} (h : Goes reg F φ N H w F' φ' N' H' w') (hs : ∀ i o', H'' i = some o' → ∃ o, H' i = some o) : Goes reg F φ N H w F' φ' N' H'' w' :=
  ⟨h.os, h.tape, h.output, h.size, h.block, h.fsub, h.fnew, h.phi, h.names, fun b ⟨i, o, s, k, ho, hp⟩ => by obtain ⟨o', ho'⟩ := hs i o ho; exact h.dom b ⟨i, o', s, k, ho', hp⟩, h.new⟩

theorem frzObjs_ok {i n : Nat} {d : D reg.T} : ∀ {l : List Nat} {h h' : Hp reg.T}, (frzObjs reg i d n l h).K (· = h') → h'.nx = h.nx ∧
    ∀ {N F0 F : Nat → Prop} {φ : Phi} {w : World}, (∀ b, F0 b → F b) → (∀ v cv, VRel reg F w φ v cv → V.okFrz i n v = true → VRel reg F w φ (V.frz reg i d v) cv) → HR N F φ h w → HR N F φ h' w ∧ GO N F φ h w N F φ h' w := by
  intro l
  induction l with
  | nil => intro h h' hK; cases hK; exact ⟨rfl, fun _ _ hH => ⟨hH, GO.refl hH⟩⟩
  | cons j l ih =>
    intro h h' hK
    simp only [frzObjs] at hK
    split at hK
    · rename_i k xs hj
      split at hK
      · obtain ⟨hok, hK⟩ := Out.K_need.1 hK
        obtain ⟨e, h1⟩ := ih hK
        refine ⟨e, fun {N F0 F φ w} hF hfz hH => ?_⟩
        have hkj := hH.ok j (hH.lt j _ hj)
        have hget : ∀ m, (h.set j (some (.rows k (xs.map (V.frz.goL reg i d))))).get m = if m = j then some (.rows k (xs.map (V.frz.goL reg i d))) else h.get m := get_setH hkj
        have hH' : HR N F φ (h.set j (some (.rows k (xs.map (V.frz.goL reg i d))))) w := by
          refine hH.turn (fun m o' hm => ?_)
          rw [hget] at hm
          by_cases hmj : m = j
          · subst hmj
            rw [if_pos rfl] at hm
            cases hm
            refine ⟨_, hj, fun ho => ?_⟩
            refine .inl ⟨rfl, ?_⟩
            rcases (ho.rows reg rfl).2 with ⟨h2, h3⟩ | ⟨b, s, C, t, fz, h2, h3, h4, h5⟩
            · exact .inl ⟨by simpa [O.len] using h2, h3⟩
            · have hrow : ∀ r, r < xs.length → (O.rows k (xs.map (V.frz.goL reg i d))).row reg r = V.frz.goL reg i d (xs.getD r []) := fun r hr => by
                simp only [O.row]; rw [getD_map_lt _ _ _ _ [] hr]
              refine .inr ⟨b, s, C, t, fz, h2, h3, h4, ⟨by simpa [O.len, O.k] using h5.size, by simpa [O.len] using h5.len, ⟨fun r hr => ?_, fun r c hr hc => ?_, fun r c hr hc => ?_⟩⟩⟩
              · have hr : r < xs.length := by simpa [O.len] using hr
                rw [hrow r hr, len_frz]
                exact h5.at_.wid r hr
              · have hr : r < xs.length := by simpa [O.len] using hr
                have hw : (xs.getD r []).length = k := h5.at_.wid r hr
                rw [hrow r hr, getD_frz (by rw [hw]; exact hc)]
                exact frz_solid (h5.at_.solid r c hr hc)
              · have hr : r < xs.length := by simpa [O.len] using hr
                have hw : (xs.getD r []).length = k := h5.at_.wid r hr
                rw [hrow r hr, getD_frz (by rw [hw]; exact hc)]
                refine hfz _ _ (h5.at_.rel r c hr hc) (okL_get ?_ (by rw [hw]; exact hc))
                have e : xs.getD r [] = xs[r] := by simp [List.getD, hr]
                rw [e]
                exact List.all_eq_true.1 hok _ (List.getElem_mem hr)
          · rw [if_neg hmj] at hm
            exact ⟨o', hm, id⟩
        obtain ⟨h6, h7⟩ := h1 (F0 := F0) hF hfz hH'
        refine ⟨h6, GO.trans (h' := h.set j _) ⟨(Goes.refl reg hH).turn (fun m o' hm => ?_), Grow.set hkj, fun _ hx => .inl hx⟩ h7⟩
        rw [hget] at hm
        by_cases hmj : m = j
        · subst hmj; exact ⟨_, hj⟩
        · rw [if_neg hmj] at hm; exact ⟨_, hm⟩
      · exact ih hK
    · exact ih hK

theorem frz1_ok {h0 : Hp reg.T} {l : List Nat} {i : Nat} {r r' : V reg.T × Hp reg.T} (hK : (frz1 reg l i r).K (· = r')) : Turns h0 r r' := by
  unfold frz1 at hK
  split at hK
  · rename_i ob hi
    split at hK
    · rename_i d hd
      obtain ⟨hok, hK⟩ := Out.K_need.1 hK
      rw [Out.K_bind] at hK
      obtain ⟨h', h1, h2⟩ := (Out.K_iff _ _).1 hK
      have h2 : (V.frz reg i d r.1, h') = r' := h2
      subst h2
      obtain ⟨hnx, hfo⟩ := frzObjs_ok h1
      refine Turns.of (by simp only [hnx]; exact Nat.le_refl _) (fun N F φ w cv hH hv => ?_)
      -- the object's block is shut
      let F' : Nat → Prop := fun b => F b ∨ ∃ s k z, φ i = some (b, s, k, z)
      have hFF : ∀ b, F b → F' b := fun b hb => .inl hb
      have hfz : ∀ v cv, VRel reg F w φ v cv → V.okFrz i (ob.len reg) v = true → VRel reg F' w φ (V.frz reg i d v) cv := fun v cv hv hok =>
        frz_rel hFF (fun off len cap cv hv hle => sl_data hFF (hH.obj i ob hi) hd (fun b s k z hp => .inr ⟨s, k, z, hp⟩) off len cap cv hv hle) hv hok
      have hrem := remove_ok hH hi
      have hk := hH.ok i (hH.lt i ob hi)
      have hm : ∀ b, F b → F' b ∧ w.heap[b]? = w.heap[b]? := fun b hb => ⟨.inl hb, rfl⟩
      have hget : ∀ m, (r.2.set i none).get m = if m = i then none else r.2.get m := get_setH hk
      have hH' : HR N F' φ (r.2.set i none) w := by
        refine ⟨fun j o ho => (hrem.1.obj j o ho).mono reg hm (fun _ _ e => e) (fun e => e) (fun _ _ _ _ => rfl), fun j o b s k ho hp => ⟨?_, (hrem.1.own j o b s k ho hp).2⟩, hrem.1.inj, hrem.1.dom, hrem.1.lt, hrem.1.ok, fun b hb => ?_, hrem.1.lay.mono reg hm⟩
        · rintro (hb | ⟨s', k', z', hp'⟩)
          · exact (hrem.1.own j o b s k ho hp).1 hb
          · rw [hget] at ho
            by_cases hji : j = i
            · rw [if_pos hji] at ho; cases ho
            · rw [if_neg hji] at ho
              exact hji (hH.inj j i o ob b s k s' (k', z') ho hi hp hp')
        · rcases hb with hb | ⟨s', k', z', hp'⟩
          · exact hH.frz b hb
          · exact (hH.own i ob b s' (k', z') hi hp').2
      have hfz' : ∀ v cv, VRel reg F' w φ v cv → V.okFrz i (ob.len reg) v = true → VRel reg F' w φ (V.frz reg i d v) cv := by
        refine fun v cv hv hok => frz_rel (fun _ h => h) (fun off len cap cv hv hle => ?_) hv hok
        have hv' : VRel reg F w φ (.sl i off len cap) cv := by
          cases hv with
          | sl _ _ _ _ b s k z cap' hp hc hl hm' hz => exact .sl i off len cap b s k z cap' hp hc hl hm' hz
          | slz _ _ _ base hc hnb => exact .slz i off cap base hc hnb
        exact sl_data hFF (hH.obj i ob hi) hd (fun b s k z hp => .inr ⟨s, k, z, hp⟩) off len cap cv hv' hle
      obtain ⟨h3, h4⟩ := hfo (F0 := F) hFF hfz' hH'
      refine ⟨_, h', N, F', φ, rfl, hfz _ _ hv hok, h3, GO.trans (h' := r.2.set i none) ?_ h4⟩
      refine ⟨⟨rfl, rfl, rfl, Nat.le_refl _, fun _ _ _ => rfl, hFF, fun b hb => ?_, fun _ _ => rfl, fun _ h => h, hrem.2.goes.dom, fun j p hp => .inl (hH.dom j p hp)⟩, hrem.2.grow, fun _ h => .inl h⟩
      rcases hb with hb | ⟨s', k', z', hp'⟩
      · exact .inl hb
      · exact .inr (.inr ⟨i, ob, s', (k', z'), hi, hp'⟩)
    · cases hK; exact Turns.refl _ _
  · cases hK; exact Turns.refl _ _

theorem frzAll_ok {h0 : Hp reg.T} {l : List Nat} : ∀ {is : List Nat} {r r' : V reg.T × Hp reg.T}, (frzAll reg l is r).K (· = r') → Turns h0 r r' := by
  intro is
  induction is with
  | nil => intro r r' h; cases h; exact Turns.refl _ _
  | cons i is ih =>
    intro r r' h
    simp only [frzAll] at h
    rw [Out.K_bind] at h
    obtain ⟨r1, h1, h2⟩ := (Out.K_iff _ _).1 h
    exact (frz1_ok h1).trans (ih h2)

theorem dropNew_ok {N F : Nat → Prop} {φ : Phi} {w : World} {keep : List Nat} : ∀ {l : List Nat} {h : Hp reg.T}, HR N F φ h w → HR N F φ (dropNew keep l h) w ∧ GO N F φ h w N F φ (dropNew keep l h) w := by
  intro l
  induction l with
  | nil => intro h hH; exact ⟨hH, GO.refl hH⟩
  | cons i l ih =>
    intro h hH
    simp only [dropNew]
    split
    · exact ih hH
    · split
      · rename_i o ho
        obtain ⟨h1, h2⟩ := remove_ok hH ho
        obtain ⟨h3, h4⟩ := ih h1
        exact ⟨h3, h2.trans h4⟩
      · exact ih hH

theorem dropNew_nx {keep : List Nat} : ∀ {l : List Nat} {h : Hp reg.T}, (dropNew keep l h).nx = h.nx := by
  intro l
  induction l with
  | nil => intro h; rfl
  | cons i l ih =>
    intro h
    simp only [dropNew]
    split
    · exact ih
    · split
      · rw [ih]; rfl
      · exact ih

theorem tidyLeaf_ok {h0 : Hp reg.T} {r r' : V reg.T × Hp reg.T} (hK : (tidyLeaf reg h0 r).K (· = r')) : Turns h0 r r' := by
  unfold tidyLeaf at hK
  simp only at hK
  rw [Out.K_bind] at hK
  obtain ⟨r1, h1, h2⟩ := (Out.K_iff _ _).1 hK
  have h2 := h2.symm
  subst h2
  refine (frzAll_ok h1).trans (Turns.of (by simp only [dropNew_nx]; exact Nat.le_refl _) (fun N F φ w cv hH hv => ?_))
  obtain ⟨h3, h4⟩ := dropNew_ok (l := List.range' h0.nx (r.2.nx - h0.nx)) (keep := reach r1.2.get 1000 0 (((dirty h0 r.2).filter fun i => Nat.blt i h0.nx).foldl (fun a j => optNames (r1.2.get j) a) (V.names r1.1 []))) hH
  exact ⟨_, _, N, F, φ, rfl, hv, h3, h4⟩
/-! #### Joins -/
def DTo (x z : D reg.T) : Prop := ∀ F w cv, DRel reg F w x cv → DRel reg F w z cv
def VTo (v u : V reg.T) : Prop := (v.solid = true → u.solid = true) ∧ ∀ F w φ cv, VRel reg F w φ v cv → VRel reg F w φ u cv
def Sel {α : Type} (R : α → α → Prop) (b : Bool) (x y z : α) : Prop := (b = true → R x z) ∧ (b = false → R y z)

theorem nils_to {z : D reg.T} (hz : z.isSl = true) (hl : z.len? reg = some 0) : DTo (reg := reg) .nils z := by
  intro F w cv h
  cases h with
  | nils => exact .emp z hz hl none 0
  | emp _ hx => simp [D.isSl] at hx
  | sl _ _ _ _ _ _ _ hx => simp [D.isSl] at hx

theorem joinD_ok {b : Bool} {x y z : D reg.T} (h : joinD reg b x y = some z) : Sel DTo b x y z := by
  unfold joinD at h
  split at h
  case h_2 =>
    split at h
    · rename_i hk
      have := sameKind_eq hk
      subst this
      cases h
      constructor <;> (rintro rfl; exact fun F w cv h => h)
    · cases h
  case h_9 =>
    split at h
    · rename_i zs hzs
      obtain ⟨he, hz⟩ := castT_eq hzs
      subst he
      cases h
      subst hz
      constructor <;> (rintro rfl; exact fun F w cv h => h)
    · cases h
  case h_10 =>
    cases h
    exact ⟨by rintro rfl; exact nils_to rfl rfl, by rintro rfl; exact fun F w cv h => h⟩
  case h_11 =>
    cases h
    exact ⟨by rintro rfl; exact fun F w cv h => h, by rintro rfl; exact nils_to rfl rfl⟩
  case h_12 =>
    split at h
    · rename_i hk
      have := Nat.eq_of_beq_eq_true hk
      subst this
      cases h
      constructor <;> (rintro rfl; exact fun F w cv h => h)
    · cases h
  case h_13 =>
    cases h
    exact ⟨by rintro rfl; exact nils_to rfl rfl, by rintro rfl; exact fun F w cv h => h⟩
  case h_14 =>
    cases h
    exact ⟨by rintro rfl; exact fun F w cv h => h, by rintro rfl; exact nils_to rfl rfl⟩
  all_goals first | (cases h; done) | (cases h; constructor <;> (rintro rfl; exact fun F w cv h => h))

theorem VTo.refl (v : V reg.T) : VTo v v := ⟨id, fun _ _ _ _ h => h⟩

theorem list_to {vs us : List (V reg.T)} (hl : us.length = vs.length) (h : ∀ j, j < vs.length → VTo (vs.getD j .any) (us.getD j .any)) {F : Nat → Prop} {w : World} {φ : Phi} {c : Nat → Value}
    (hr : ∀ j, j < vs.length → VRel reg F w φ (vs.getD j .any) (c j)) : ∀ j, j < us.length → VRel reg F w φ (us.getD j .any) (c j) := fun j hj => (h j (by omega)).2 F w φ _ (hr j (by omega))

theorem joinV_ok {b : Bool} : ∀ (v u x : V reg.T), joinV reg b v u = some x → Sel VTo b v u x := by
  have key : ∀ (n : Nat) (v u x : V reg.T), SizeOf.sizeOf v < n → joinV reg b v u = some x → Sel VTo b v u x := by
    intro n
    induction n with
    | zero => intro v u x hv; omega
    | succ n ih =>
      have lists : ∀ (vs us xs : List (V reg.T)), SizeOf.sizeOf vs < n + 1 → joinV.goL reg b vs us = some xs → (xs.length = vs.length ∧ xs.length = us.length) ∧ ∀ j, j < xs.length → Sel VTo b (vs.getD j .any) (us.getD j .any) (xs.getD j .any) := by
        intro vs
        induction vs with
        | nil =>
          intro us xs _ h
          cases us with
          | nil => simp only [joinV.goL, Option.some.injEq] at h; subst h; exact ⟨⟨rfl, rfl⟩, fun j hj => by simp at hj⟩
          | cons u us => simp [joinV.goL] at h
        | cons v vs ihv =>
          intro us xs hs h
          simp only [List.cons.sizeOf_spec] at hs
          cases us with
          | nil => simp [joinV.goL] at h
          | cons u us =>
            simp only [joinV.goL] at h
            split at h
            · rename_i x l hx hl
              cases h
              obtain ⟨⟨h1, h2⟩, h3⟩ := ihv us l (by omega) hl
              refine ⟨⟨by simp [h1], by simp [h2]⟩, fun j hj => ?_⟩
              cases j with
              | zero => exact ih v u x (by omega) hx
              | succ j => exact h3 j (by simpa using hj)
            · cases h
      intro v u x hv h
      have wrap : ∀ {vs us xs : List (V reg.T)}, ((xs.length = vs.length ∧ xs.length = us.length) ∧ ∀ j, j < xs.length → Sel VTo b (vs.getD j .any) (us.getD j .any) (xs.getD j .any)) →
          (b = true → ∀ F w φ (cs : Array Value), vs.length = cs.size → (∀ j, j < vs.length → VRel reg F w φ (vs.getD j .any) (cs.getD j undef)) → xs.length = cs.size ∧ ∀ j, j < xs.length → VRel reg F w φ (xs.getD j .any) (cs.getD j undef)) ∧
          (b = false → ∀ F w φ (cs : Array Value), us.length = cs.size → (∀ j, j < us.length → VRel reg F w φ (us.getD j .any) (cs.getD j undef)) → xs.length = cs.size ∧ ∀ j, j < xs.length → VRel reg F w φ (xs.getD j .any) (cs.getD j undef)) := by
        rintro vs us xs ⟨⟨h1, h2⟩, h3⟩
        exact ⟨fun hb F w φ cs hz hr => ⟨by omega, list_to h1 (fun j hj => (h3 j (by omega)).1 hb) hr⟩, fun hb F w φ cs hz hr => ⟨by omega, list_to h2 (fun j hj => (h3 j (by omega)).2 hb) hr⟩⟩
      unfold joinV at h
      split at h
      case h_1 =>
        split at h
        · rename_i z hz
          cases h
          have := joinD_ok hz
          exact ⟨fun hb => ⟨fun _ => rfl, fun F w φ cv hv => .d _ _ (this.1 hb F w cv hv.d_inv)⟩, fun hb => ⟨fun _ => rfl, fun F w φ cv hv => .d _ _ (this.2 hb F w cv hv.d_inv)⟩⟩
        · cases h
      case h_2 =>
        split at h
        · rename_i hk
          simp only [Bool.and_eq_true] at hk
          have e1 := Nat.eq_of_beq_eq_true hk.1.1
          have e2 := Nat.eq_of_beq_eq_true hk.1.2
          have e3 := Nat.eq_of_beq_eq_true hk.2
          subst e1 e2 e3
          cases h
          exact ⟨fun _ => VTo.refl _, fun _ => VTo.refl _⟩
        · cases h
      case h_3 => cases h; exact ⟨fun _ => VTo.refl _, fun _ => VTo.refl _⟩
      case h_4 => cases h; exact ⟨fun _ => VTo.refl _, fun _ => VTo.refl _⟩
      case h_5 =>
        split at h
        · rename_i l hl
          cases h
          simp only [V.agg.sizeOf_spec] at hv
          obtain ⟨w1, w2⟩ := wrap (lists _ _ _ (by omega) hl)
          refine ⟨fun hb => ⟨fun h => by simp [V.solid] at h, fun F w φ cv hv => ?_⟩, fun hb => ⟨fun h => by simp [V.solid] at h, fun F w φ cv hv => ?_⟩⟩
          · cases hv with | agg _ cs hz hr => obtain ⟨a1, a2⟩ := w1 hb F w φ cs hz hr; exact .agg _ cs a1 a2
          · cases hv with | agg _ cs hz hr => obtain ⟨a1, a2⟩ := w2 hb F w φ cs hz hr; exact .agg _ cs a1 a2
        · cases h
      case h_6 =>
        split at h
        · rename_i l hl
          cases h
          simp only [V.tup.sizeOf_spec] at hv
          obtain ⟨w1, w2⟩ := wrap (lists _ _ _ (by omega) hl)
          refine ⟨fun hb => ⟨fun h => by simp [V.solid] at h, fun F w φ cv hv => ?_⟩, fun hb => ⟨fun h => by simp [V.solid] at h, fun F w φ cv hv => ?_⟩⟩
          · cases hv with | tup _ cs hz hr => obtain ⟨a1, a2⟩ := w1 hb F w φ cs hz hr; exact .tup _ cs a1 a2
          · cases hv with | tup _ cs hz hr => obtain ⟨a1, a2⟩ := w2 hb F w φ cs hz hr; exact .tup _ cs a1 a2
        · cases h
      case h_7 => cases h
  intro v u x h
  exact key (SizeOf.sizeOf v + 1) v u x (by omega) h

theorem joinL_ok {b : Bool} : ∀ {vs us xs : List (V reg.T)}, joinV.goL reg b vs us = some xs → (xs.length = vs.length ∧ xs.length = us.length) ∧ ∀ j, j < xs.length → Sel VTo b (vs.getD j .any) (us.getD j .any) (xs.getD j .any) := by
  intro vs
  induction vs with
  | nil =>
    intro us xs h
    cases us with
    | nil => simp only [joinV.goL, Option.some.injEq] at h; subst h; exact ⟨⟨rfl, rfl⟩, fun j hj => by simp at hj⟩
    | cons u us => simp [joinV.goL] at h
  | cons v vs ihv =>
    intro us xs h
    cases us with
    | nil => simp [joinV.goL] at h
    | cons u us =>
      simp only [joinV.goL] at h
      split at h
      · rename_i x l hx hl
        cases h
        obtain ⟨⟨h1, h2⟩, h3⟩ := ihv hl
        refine ⟨⟨by simp [h1], by simp [h2]⟩, fun j hj => ?_⟩
        cases j with
        | zero => exact joinV_ok _ _ _ hx
        | succ j => exact h3 j (by simpa using hj)
      · cases h

theorem joinRows_ok {b : Bool} : ∀ {rs ss ts : List (List (V reg.T))}, joinRows reg b rs ss = some ts → (ts.length = rs.length ∧ ts.length = ss.length) ∧ ∀ r, r < ts.length →
    ((ts.getD r []).length = (rs.getD r []).length ∧ (ts.getD r []).length = (ss.getD r []).length) ∧ ∀ j, j < (ts.getD r []).length → Sel VTo b ((rs.getD r []).getD j .any) ((ss.getD r []).getD j .any) ((ts.getD r []).getD j .any) := by
  intro rs
  induction rs with
  | nil =>
    intro ss ts h
    cases ss with
    | nil => simp only [joinRows, Option.some.injEq] at h; subst h; exact ⟨⟨rfl, rfl⟩, fun r hr => by simp at hr⟩
    | cons s ss => simp [joinRows] at h
  | cons r rs ih =>
    intro ss ts h
    cases ss with
    | nil => simp [joinRows] at h
    | cons s ss =>
      simp only [joinRows] at h
      split at h
      · rename_i x l hx hl
        cases h
        obtain ⟨⟨h1, h2⟩, h3⟩ := ih hl
        refine ⟨⟨by simp [h1], by simp [h2]⟩, fun j hj => ?_⟩
        cases j with
        | zero => exact joinL_ok hx
        | succ j => exact h3 j (by simpa using hj)
      · cases h

def OTo (o o' : O reg.T) : Prop := ∀ F w φ i, ORel reg F w φ i o → ORel reg F w φ i o'

theorem rows_to {k : Nat} {xs zs : List (List (V reg.T))} (hl : zs.length = xs.length) (h : ∀ r, r < zs.length → (zs.getD r []).length = (xs.getD r []).length ∧ ∀ j, j < (zs.getD r []).length → VTo ((xs.getD r []).getD j .any) ((zs.getD r []).getD j .any)) :
    OTo (.rows k xs) (.rows k zs) := by
  rintro F w φ i ho
  obtain ⟨h0, ho⟩ := ho.rows reg rfl
  refine .inl ⟨rfl, ?_⟩
  rcases ho with ⟨h1, h2⟩ | ⟨b, s, C, t, fz, h1, h2, h3, h4⟩
  · exact .inl ⟨by simp only [O.len] at h1 ⊢; omega, h2⟩
  · refine .inr ⟨b, s, C, t, fz, h1, h2, h3, ⟨?_, ?_, ⟨fun r hr => ?_, fun r j hr hj => ?_, fun r j hr hj => ?_⟩⟩⟩
    · have := h4.size; simp only [O.len, O.k, hl] at this ⊢; exact this
    · have := h4.len; simp only [O.len, hl] at this ⊢; exact this
    · simp only [O.len] at hr
      have := h4.at_.wid r (by simp only [O.len]; omega)
      simp only [O.row, O.k] at this ⊢
      rw [(h r hr).1, this]
    · simp only [O.len, O.k] at hr hj
      have hw := h4.at_.wid r (by simp only [O.len]; omega)
      simp only [O.row, O.k] at hw ⊢
      exact ((h r hr).2 j (by rw [(h r hr).1, hw]; exact hj)).1 (h4.at_.solid r j (by simp only [O.len]; omega) hj)
    · simp only [O.len, O.k] at hr hj
      have hw := h4.at_.wid r (by simp only [O.len]; omega)
      simp only [O.row, O.k] at hw ⊢
      exact ((h r hr).2 j (by rw [(h r hr).1, hw]; exact hj)).2 F w φ _ (h4.at_.rel r j (by simp only [O.len]; omega) hj)

theorem joinO_ok {b : Bool} {o o' z : O reg.T} (h : joinO reg b o o' = some z) : Sel OTo b o o' z := by
  unfold joinO at h
  split at h
  · split at h
    · rename_i zs hk hz
      have := Nat.eq_of_beq_eq_true hk
      subst this
      cases h
      obtain ⟨⟨h1, h2⟩, h3⟩ := joinRows_ok hz
      exact ⟨fun hb => rows_to h1 (fun r hr => ⟨(h3 r hr).1.1, fun j hj => ((h3 r hr).2 j hj).1 hb⟩), fun hb => rows_to h2 (fun r hr => ⟨(h3 r hr).1.2, fun j hj => ((h3 r hr).2 j hj).2 hb⟩)⟩
    · cases h
  · split at h
    · rename_i zs hzs
      obtain ⟨he, hz⟩ := castT_eq hzs
      subst he
      cases h
      subst hz
      constructor <;> (rintro rfl; exact fun F w φ i h => h)
    · cases h
  · cases h

theorem addN_mem {l : List Nat} {i j : Nat} : j ∈ addN l i ↔ j ∈ l ∨ j = i := by
  unfold addN
  split
  · rename_i h
    have := memN_iff.1 h
    constructor
    · exact .inl
    · rintro (h | rfl)
      · exact h
      · exact this
  · simp
theorem foldl_addN_mem : ∀ (l a : List Nat) (j : Nat), j ∈ l.foldl addN a ↔ j ∈ a ∨ j ∈ l
  | [], a, j => by simp
  | i :: l, a, j => by
    rw [List.foldl_cons, foldl_addN_mem l _ j, addN_mem]
    simp only [List.mem_cons]
    constructor
    · rintro ((h | h) | h)
      · exact .inl h
      · exact .inr (.inl h)
      · exact .inr (.inr h)
    · rintro (h | h | h)
      · exact .inl (.inl h)
      · exact .inl (.inr h)
      · exact .inr h

theorem joinObjs_ok {b : Bool} {h h' : Hp reg.T} : ∀ {l : List Nat} {t t' : Tr (O reg.T)}, joinObjs reg b h h' l t = some t' → ∀ j, (j ∉ l ∧ t'.get j = t.get j) ∨ (j ∈ l ∧
    ((h.get j = none ∧ h'.get j = none ∧ t'.get j = none) ∨ ∃ o o' z, h.get j = some o ∧ h'.get j = some o' ∧ t'.get j = some z ∧ Sel OTo b o o' z)) := by
  intro l
  induction l with
  | nil => intro t t' hj j; simp only [joinObjs, Option.some.injEq] at hj; subst hj; exact .inl ⟨by simp, rfl⟩
  | cons i l ih =>
    intro t t' hj j
    simp only [joinObjs] at hj
    split at hj
    · rename_i hok h1 h2
      rcases ih hj j with ⟨h3, h4⟩ | ⟨h3, h4⟩
      · rw [Tr.get_set hok] at h4
        by_cases hji : j = i
        · subst hji
          rw [if_pos rfl] at h4
          exact .inr ⟨by simp, .inl ⟨h1, h2, h4⟩⟩
        · rw [if_neg hji] at h4
          exact .inl ⟨by simp [hji, h3], h4⟩
      · exact .inr ⟨by simp [h3], h4⟩
    · rename_i o o' hok h1 h2
      split at hj
      · rename_i z hz
        rcases ih hj j with ⟨h3, h4⟩ | ⟨h3, h4⟩
        · rw [Tr.get_set hok] at h4
          by_cases hji : j = i
          · subst hji
            rw [if_pos rfl] at h4
            exact .inr ⟨by simp, .inr ⟨o, o', z, h1, h2, h4, joinO_ok hz⟩⟩
          · rw [if_neg hji] at h4
            exact .inl ⟨by simp [hji, h3], h4⟩
        · exact .inr ⟨by simp [h3], h4⟩
      · cases hj
    · cases hj

/-- One of the ways, in the joined form. -/
theorem join_turn {h0 : Hp reg.T} {r : V reg.T × Hp reg.T} {v : V reg.T} {t : Tr (O reg.T)} {nx : Nat} {L l : List Nat} (hv : VTo r.1 v) (hn : r.2.nx ≤ nx) (hL : ∀ i ∈ r.2.wr.take (r.2.wr.length - h0.wr.length), i ∈ L) (hl : ∀ i, i ∈ L → i ∈ l)
    (hll : ∀ i, i ∈ l → i ∈ L ∨ (h0.nx ≤ i ∧ i < nx)) (hln : ∀ i, h0.nx ≤ i → i < nx → i ∈ l)
    (ht : ∀ j, (j ∉ l ∧ t.get j = h0.h.get j) ∨ (j ∈ l ∧ ((r.2.get j = none ∧ t.get j = none) ∨ ∃ o z, r.2.get j = some o ∧ t.get j = some z ∧ OTo o z))) : Turns h0 r (v, ⟨t, nx, L ++ h0.wr⟩) := by
  refine ⟨hn, fun N F φ w cv w' hR => ?_⟩
  obtain ⟨v1, h1, N', F', φ', hq, hv1, hH, hG⟩ := hR
  subst hq
  simp only at hn hL ht hv
  have hgr := hG.grow
  obtain ⟨g1, M, g2, g3⟩ := hgr
  have hM : ∀ i, i ∈ M → i ∈ L := by
    intro i hi
    refine hL i ?_
    rw [g2]
    simpa using hi
  have hpt : ∀ j, (h1.get j = none ∧ t.get j = none) ∨ ∃ o z, h1.get j = some o ∧ t.get j = some z ∧ OTo o z := by
    intro j
    rcases ht j with ⟨a, b⟩ | ⟨a, b⟩
    · have e : h1.get j = h0.get j := g3 j (fun hj => a (hl j (hM j hj))) (fun ⟨x, y⟩ => a (hln j x (by omega)))
      have e' : t.get j = h0.get j := b
      rw [e, e']
      cases hj : h0.get j with
      | none => exact .inl ⟨rfl, rfl⟩
      | some o => exact .inr ⟨o, o, rfl, rfl, fun _ _ _ _ h => h⟩
    · exact b
  have hback : ∀ i o', t.get i = some o' → ∃ o, h1.get i = some o ∧ OTo o o' := by
    intro i o' hi
    rcases hpt i with ⟨_, b⟩ | ⟨o, z, a, b, c⟩
    · rw [hi] at b; cases b
    · rw [hi] at b; cases b; exact ⟨o, a, c⟩
  refine ⟨v, ⟨t, nx, L ++ h0.wr⟩, N', F', φ', rfl, hv.2 _ _ _ _ hv1, hH.turn (fun i o' hi => ?_), hG.goes.turn (fun i o' hi => ?_), ⟨Nat.le_trans g1 hn, L, rfl, fun i hi hni => ?_⟩, fun i hi => ?_⟩
  · obtain ⟨o, h2, h3⟩ := hback i o' hi
    exact ⟨o, h2, fun h => h3 _ _ _ _ h⟩
  · obtain ⟨o, h2, _⟩ := hback i o' hi
    exact ⟨o, h2⟩
  · rcases ht i with ⟨_, b⟩ | ⟨a, _⟩
    · exact b
    · rcases hll i a with h | h
      · exact (hi h).elim
      · exact (hni h).elim
  · rcases hG.names i hi with h | h
    · exact .inl h
    · exact .inr ⟨h.1, Nat.lt_of_lt_of_le h.2 hn⟩

theorem joinLeaf_ok {h0 : Hp reg.T} {b : Bool} {r r' z : V reg.T × Hp reg.T} (h : joinLeaf reg h0 b r r' = some z) : Sel (Turns h0) b r r' z := by
  unfold joinLeaf at h
  simp only at h
  split at h
  · rename_i v t hv ht
    cases h
    have hj := joinV_ok _ _ _ hv
    have hobj := joinObjs_ok ht
    have hmem : ∀ i, i ∈ (r.2.wr.take (r.2.wr.length - h0.wr.length) ++ r'.2.wr.take (r'.2.wr.length - h0.wr.length) ++ List.range' h0.nx (Nat.add r.2.nx (Nat.sub r'.2.nx r.2.nx) - h0.nx)).foldl addN [] ↔
        i ∈ r.2.wr.take (r.2.wr.length - h0.wr.length) ++ r'.2.wr.take (r'.2.wr.length - h0.wr.length) ∨ (h0.nx ≤ i ∧ i < Nat.add r.2.nx (Nat.sub r'.2.nx r.2.nx)) := by
      intro i
      rw [foldl_addN_mem, List.mem_append (t := List.range' _ _), List.mem_range'_1]
      simp only [List.not_mem_nil, false_or]
      constructor
      · rintro (h | h)
        · exact .inl h
        · exact .inr (by omega)
      · rintro (h | h)
        · exact .inl h
        · exact .inr (by omega)
    have hnx : r.2.nx ≤ Nat.add r.2.nx (Nat.sub r'.2.nx r.2.nx) ∧ r'.2.nx ≤ Nat.add r.2.nx (Nat.sub r'.2.nx r.2.nx) := by
      have : Nat.add r.2.nx (Nat.sub r'.2.nx r.2.nx) = r.2.nx + (r'.2.nx - r.2.nx) := rfl
      omega
    constructor
    · intro hb
      refine join_turn (hj.1 hb) hnx.1 (fun i hi => List.mem_append_left _ hi) (fun i hi => (hmem i).2 (.inl hi)) (fun i hi => (hmem i).1 hi) (fun i h1 h2 => (hmem i).2 (.inr ⟨h1, h2⟩)) (fun j => ?_)
      rcases hobj j with h | ⟨h1, h2⟩
      · exact .inl h
      · refine .inr ⟨h1, ?_⟩
        rcases h2 with ⟨a, _, c⟩ | ⟨o, o', z, a, _, c, d⟩
        · exact .inl ⟨a, c⟩
        · exact .inr ⟨o, z, a, c, d.1 hb⟩
    · intro hb
      refine join_turn (hj.2 hb) hnx.2 (fun i hi => List.mem_append_right _ hi) (fun i hi => (hmem i).2 (.inl hi)) (fun i hi => (hmem i).1 hi) (fun i h1 h2 => (hmem i).2 (.inr ⟨h1, h2⟩)) (fun j => ?_)
      rcases hobj j with h | ⟨h1, h2⟩
      · exact .inl h
      · refine .inr ⟨h1, ?_⟩
        rcases h2 with ⟨_, b, c⟩ | ⟨o, o', z, _, b, c, d⟩
        · exact .inl ⟨b, c⟩
        · exact .inr ⟨o', z, b, c, d.2 hb⟩
  · cases h

/-! #### Trees -/
theorem flat_ok {α : Type} {J : Bool → α → α → Option α} {R : α → α → Prop} (hr : ∀ a, R a a) (ht : ∀ a b c, R a b → R b c → R a c) (hJ : ∀ b x y z, J b x y = some z → Sel R b x y z) :
    ∀ (o : Out α) (p : Bool) (a : α), flat J o = .one p a → p = true → o.K fun r => R r a := by
  intro o
  induction o with
  | ret a => intro p x h _; simp only [flat, Fl.one.injEq] at h; rw [← h.2]; exact hr a
  | need b o ih =>
    intro p x h hp
    simp only [flat] at h
    split at h
    · rename_i q y hq
      cases h
      simp only [Bool.and_eq_true] at hp
      exact Out.K_need.2 ⟨hp.1, ih q _ hq hp.2⟩
    · rename_i hne; exact (hne _ _ h).elim
  | br b x y ihx ihy =>
    intro p a h hp
    simp only [flat] at h
    simp only [Out.K, branch_iff]
    split at h
    · cases h
    · rename_i q c _ hq
      cases h
      simp only [Bool.and_eq_true, Bool.not_eq_true'] at hp
      exact ⟨fun hb => by rw [hb] at hp; simp at hp, fun _ => ihy q _ hq hp.2⟩
    · rename_i q c hq _
      cases h
      simp only [Bool.and_eq_true] at hp
      exact ⟨fun _ => ihx q _ hq hp.2, fun hb => by rw [hb] at hp; simp at hp⟩
    · rename_i q c q' c' hq hq'
      split at h
      · rename_i l hl
        cases h
        have := hJ _ _ _ _ hl
        refine ⟨fun hb => ?_, fun hb => ?_⟩
        · subst hb
          exact Out.K_mono (ihx q c hq hp) (fun r hr' => ht _ _ _ hr' (this.1 rfl))
        · subst hb
          exact Out.K_mono (ihy q' c' hq' hp) (fun r hr' => ht _ _ _ hr' (this.2 rfl))
      · cases h
    · cases h
  | bad => intro p a h; simp [flat] at h

theorem mergeO_ok {α : Type} {J : Bool → α → α → Option α} {R : α → α → Prop} (hr : ∀ a, R a a) (ht : ∀ a b c, R a b → R b c → R a c) (hJ : ∀ b x y z, J b x y = some z → Sel R b x y z) :
    ∀ (o : Out α) (Q : α → Prop), (mergeO J o).K Q → o.K fun r => ∃ r', Q r' ∧ R r r' := by
  intro o
  induction o with
  | ret a => intro Q h; unfold mergeO at h; simp only [flat] at h; exact ⟨a, (Out.K_need.1 h).2, hr a⟩
  | need b o ih =>
    intro Q h
    unfold mergeO at h
    split at h
    · exact h.elim
    · rename_i p a hf
      obtain ⟨hp, hq⟩ := Out.K_need.1 h
      exact Out.K_mono (flat_ok hr ht hJ _ p a hf hp) (fun r h' => ⟨a, hq, h'⟩)
    · obtain ⟨h1, h2⟩ := Out.K_need.1 h
      exact Out.K_need.2 ⟨h1, ih Q h2⟩
  | br b x y ihx ihy =>
    intro Q h
    unfold mergeO at h
    split at h
    · exact h.elim
    · rename_i p a hf
      obtain ⟨hp, hq⟩ := Out.K_need.1 h
      exact Out.K_mono (flat_ok hr ht hJ _ p a hf hp) (fun r h' => ⟨a, hq, h'⟩)
    · simp only [Out.K, branch_iff] at h ⊢
      exact ⟨fun hb => ihx Q (h.1 hb), fun hb => ihy Q (h.2 hb)⟩
  | bad => intro Q h; unfold mergeO at h; simp only [flat] at h; exact h.elim

theorem tidyOut_ok {h0 : Hp reg.T} {o : Out (V reg.T × Hp reg.T)} {Q : V reg.T × Hp reg.T → Prop} (h : (tidyOut reg h0 o).K Q) : o.K fun r => ∃ r', Q r' ∧ Turns h0 r r' := by
  have h1 := mergeO_ok (R := Turns h0) (Turns.refl h0) (fun _ _ _ => Turns.trans) (fun _ _ _ _ => joinLeaf_ok) _ Q h
  rw [Out.K_bind] at h1
  refine Out.K_mono h1 (fun r h2 => ?_)
  obtain ⟨r1, h3, r2, h4, h5⟩ := (Out.K_iff _ _).1 h2
  exact ⟨r2, h4, (tidyLeaf_ok h3).trans h5⟩

theorem hdT_sound (hm : P.follows .mixedOrders = true) (hno : ∀ (f : FuncId) fn, P.funcs[f]? = some fn → fn.body.isNone = false → (fn.name == "runtime.NumGoroutine") = false) {C : Con reg.T} (hC : ConOk P C) (tid : FuncId → Bool) (fuel : Nat) :
    ∀ n, HdSound P (hdT reg P C tid fuel n) := by
  intro n
  induction n with
  | zero =>
    intro f args h Q hq
    simp only [hdT] at hq
    split at hq
    · rename_i S hS; exact hC f S hS args h Q hq
    · exact hq.elim
  | succ n ih =>
    intro f args h Q hq
    simp only [hdT] at hq
    split at hq
    · rename_i S hS; exact hC f S hS args h Q hq
    · split at hq
      · obtain ⟨h1, h2⟩ := exFun_sound hm ih hno fuel f args h _ (tidyOut_ok hq)
        refine ⟨h1, fun N F φ w cargs hfr hH hl => ?_⟩
        refine (h2 N F φ w cargs ?_ hH hl).mono (fun e w' he => ?_)
        · rintro r ⟨r', hq', ht⟩ i hi1 hi2
          exact hfr r' hq' i hi1 (Nat.lt_of_lt_of_le hi2 ht.1)
        · obtain ⟨cv, he, v, h', N', F', φ', ⟨r', hq', ht⟩, hv, hH', hG⟩ := he
          obtain ⟨v2, h2', N2, F2, φ2, e2, a, b, c⟩ := ht.2 N F φ w cv w' ⟨v, h', N', F', φ', rfl, hv, hH', hG⟩
          exact ⟨cv, he, v2, h2', N2, F2, φ2, e2 ▸ hq', a, b, c⟩
      · exact exFun_sound hm ih hno fuel f args h Q hq
end
end Go.W

namespace Go.W
open Go Go.RowKit

/-- The number of the first region. -/
def firstId : Code → Nat
  | .region id _ _ => id
  | .seq a _ => firstId a
  | .cond _ a _ => firstId a
  | .block _ c => firstId c
  | .loop c => firstId c
  | _ => 0

section
variable {T : Nat → Type}

/-- A state, written out. -/
structure CSt (T : Nat → Type) where
  env : List (Nat × V T)
  objs : List (Nat × O T)
  nx : Nat

def setAll {α : Type} : List (Nat × α) → Tr α → Tr α
  | [], t => t
  | (i, x) :: l, t => (setAll l t).set i (some x)

def CSt.st (s : CSt T) : St T := ⟨setAll s.env .e, ⟨setAll s.objs .e, s.nx, []⟩⟩

/-- 'g': what is known further in: a context of the user's own. -/
structure LoopI (T : Nat → Type) (G : Type) where
  α : Type
  I : α → CSt T
  μ : α → Nat
  g : α → G

/-! ### A state that stands for another one -/
def lookN {α : Type} : List (Nat × α) → Nat → Option α
  | [], _ => none
  | (i, x) :: l, j => (match Nat.beq i j with | true => some x | false => lookN l j)
def addP (i j : Nat) (l : List (Nat × Nat)) : List (Nat × Nat) := match lookN l i with | some _ => l | none => (i, j) :: l

/-- Which name stands for which. -/
def V.pairs : V T → V T → List (Nat × Nat) → List (Nat × Nat)
  | .ptr i _ _, .ptr j _ _, l => addP i j l
  | .sl i _ _ _, .sl j _ _ _, l => addP i j l
  | .mp i, .mp j, l => addP i j l
  | .agg vs, .agg us, l => goL vs us l
  | .tup vs, .tup us, l => goL vs us l
  | .fn _ vs vs', .fn _ us us', l => goL vs' us' (goL vs us l)
  | _, _, l => l
where goL : List (V T) → List (V T) → List (Nat × Nat) → List (Nat × Nat)
  | v :: vs, u :: us, l => goL vs us (V.pairs v u l)
  | _, _, l => l

def pairsR : List (List (V T)) → List (List (V T)) → List (Nat × Nat) → List (Nat × Nat)
  | r :: rs, s :: ss, l => pairsR rs ss (V.pairs.goL r s l)
  | _, _, l => l

def pairsM : List ((V T × V T) × Nat) → List ((V T × V T) × Nat) → List (Nat × Nat) → List (Nat × Nat)
  | e :: es, u :: us, l => pairsM es us (V.pairs e.1.2 u.1.2 (V.pairs e.1.1 u.1.1 l))
  | _, _, l => l

def pairsE (env : Tr (V T)) : List (Nat × V T) → List (Nat × Nat) → List (Nat × Nat)
  | [], l => l
  | (t, v) :: r, l => pairsE env r (match env.get t with | some u => V.pairs v u l | none => l)

def pairsO (h : Tr (O T)) : List (Nat × O T) → List (Nat × Nat) → List (Nat × Nat)
  | [], l => l
  | (i, o) :: r, l => pairsO h r (match lookN l i with
    | some j => (match o, h.get j with | .rows _ xs, some (.rows _ ys) => pairsR xs ys l | .map _ es, some (.map _ us) => pairsM es us l | _, _ => l)
    | none => l)

/-- The names that are old stand for themselves. -/
def selfN : Nat → List (Nat × Nat)
  | 0 => []
  | n + 1 => (n, n) :: selfN n
def findR (n0 : Nat) (r : St T) (s : CSt T) : List (Nat × Nat) := pairsO r.hp.h s.objs (pairsE r.env s.env (selfN n0))

def covD : D T → D T → Prop
  | .sl _ xs, .nils => xs = []
  | .usl _ xs, .nils => xs = []
  | .int k n, .int k' m => must (sameKind k k') (n = m)
  | .bool b, .bool c => b = c
  | .str s, .str t => s = t
  | x, y => x = y

def covCap : Cap → Cap → Prop
  | .exact c, .exact c' => c = c'
  | .least c, .exact c' => c ≤ c'
  | .least c, .least c' => c ≤ c'
  | .exact _, .least _ => False

def nameIs (ρ : List (Nat × Nat)) (i j : Nat) : Bool := match lookN ρ i with | some k => Nat.beq k j | none => false

/-- The first stands for the second. -/
def covV (ρ : List (Nat × Nat)) : V T → V T → Prop
  | .d x, .d y => covD x y
  | .ptr i r o, .ptr j r' o' => must (nameIs ρ i j) (r = r' ∧ o = o')
  | .sl i off len cap, .sl j off' len' cap' => must (nameIs ρ i j) (off = off' ∧ len = len' ∧ covCap cap cap')
  | .mp i, .mp j => must (nameIs ρ i j) True
  | .agg vs, .agg us => goL ρ vs us
  | .tup vs, .tup us => goL ρ vs us
  | .fn f vs vs', .fn g us us' => must (Nat.beq f g) (goL ρ vs us ∧ goL ρ vs' us')
  | .undef, .undef => True
  | _, _ => False
where goL (ρ : List (Nat × Nat)) : List (V T) → List (V T) → Prop
  | [], [] => True
  | v :: vs, u :: us => covV ρ v u ∧ goL ρ vs us
  | _, _ => False

def covR (ρ : List (Nat × Nat)) : List (List (V T)) → List (List (V T)) → Prop
  | [], [] => True
  | r :: rs, s :: ss => covV.goL ρ r s ∧ covR ρ rs ss
  | _, _ => False

def covM (ρ : List (Nat × Nat)) : List ((V T × V T) × Nat) → List ((V T × V T) × Nat) → Prop
  | [], [] => True
  | ((k, v), n) :: es, ((k', v'), n') :: us => must (Nat.beq n n') (covV ρ k k' ∧ covV ρ v v' ∧ covM ρ es us)
  | _, _ => False

def covO (ρ : List (Nat × Nat)) : O T → O T → Prop
  | .map c es, .map c' us => must (Nat.beq c c') (covM ρ es us)
  | .rows k xs, .rows k' ys => must (Nat.beq k k') (covR ρ xs ys)
  | .trows e xs, .trows e' ys => O.trows e xs = .trows e' ys
  | _, _ => False

def covE (ρ : List (Nat × Nat)) (env : Tr (V T)) : List (Nat × V T) → Prop
  | [] => True
  | (t, v) :: l => (match env.get t with | some u => covV ρ v u ∧ covE ρ env l | none => False)

def covH (ρ : List (Nat × Nat)) (h : Tr (O T)) : List (Nat × O T) → Prop
  | [] => True
  | (i, o) :: l => (match lookN ρ i with
    | some j => (match h.get j with | some o' => covO ρ o o' ∧ covH ρ h l | none => False)
    | none => False)

def nodupN : List Nat → Bool
  | [] => true
  | i :: l => !memN l i && nodupN l

def selfB (ρ : List (Nat × Nat)) : Nat → Bool
  | 0 => true
  | n + 1 => nameIs ρ n n && selfB ρ n
def covB (n0 : Nat) (ρ : List (Nat × Nat)) (s : CSt T) : Bool :=
  selfB ρ n0 && nodupN (ρ.map (·.2)) && (ρ.all fun p => Nat.blt p.1 s.nx) && Tr.ok s.nx && (s.env.all fun p => Tr.ok p.1) && s.objs.all fun p => Tr.ok p.1

def covW (n0 : Nat) (ρ : List (Nat × Nat)) (r : St T) (s : CSt T) : Prop := must (covB n0 ρ s) (covE ρ r.env s.env ∧ covH ρ r.hp.h s.objs)
def Cov (n0 : Nat) (r : St T) (s : CSt T) : Prop := covW n0 (findR n0 r s) r s
end

/-! ### A state, made whole before it is handed on (so that nothing is reckoned twice) -/
section
variable {T : Nat → Type}

def natF (n : Nat) (k : Nat → Prop) : Prop := match n with
  | 0 => k 0
  | m + 1 => k (m + 1)
theorem natF_eq (n : Nat) (k : Nat → Prop) : natF n k = k n := by cases n <;> rfl

def dF (x : D T) (k : D T → Prop) : Prop := match x with
  | .bool b => k (.bool b)
  | .int i n => k (.int i n)
  | .str s => k (.str s)
  | .nilp => k .nilp
  | .nilm => k .nilm
  | .nilf => k .nilf
  | .nili => k .nili
  | .nils => k .nils
  | .sl e xs => k (.sl e xs)
  | .usl i xs => k (.usl i xs)
theorem dF_eq (x : D T) (k : D T → Prop) : dF x k = k x := by cases x <;> rfl

def capF (c : Cap) (k : Cap → Prop) : Prop := match c with
  | .exact n => k (.exact n)
  | .least n => k (.least n)
theorem capF_eq (x : Cap) (k : Cap → Prop) : capF x k = k x := by cases x <;> rfl

def vF : V T → (V T → Prop) → Prop
  | .d x, k => dF x fun x => k (.d x)
  | .ptr i r o, k => natF i fun i => k (.ptr i r o)
  | .fp row o, k => k (.fp row o)
  | .sl i off len cap, k => natF i fun i => capF cap fun cap => k (.sl i off len cap)
  | .mp i, k => natF i fun i => k (.mp i)
  | .it i, k => natF i fun i => k (.it i)
  | .fn f vs us, k => goL vs fun vs => goL us fun us => k (.fn f vs us)
  | .ifc t v, k => vF v fun v => k (.ifc t v)
  | .agg vs, k => goL vs fun vs => k (.agg vs)
  | .tup vs, k => goL vs fun vs => k (.tup vs)
  | .undef, k => k .undef
  | .any, k => k .any
where goL : List (V T) → (List (V T) → Prop) → Prop
  | [], k => k []
  | v :: vs, k => vF v fun v => goL vs fun vs => k (v :: vs)

theorem vF_eq : ∀ (v : V T) (k : V T → Prop), vF v k = k v := by
  have key : ∀ (n : Nat) (v : V T), SizeOf.sizeOf v < n → ∀ k : V T → Prop, vF v k = k v := by
    intro n
    induction n with
    | zero => intro v h; omega
    | succ n ih =>
      have goL : ∀ vs : List (V T), SizeOf.sizeOf vs < n + 1 → ∀ k : List (V T) → Prop, vF.goL vs k = k vs := by
        intro vs
        induction vs with
        | nil => intro _ k; rfl
        | cons v vs ihv =>
          intro hs k
          simp only [List.cons.sizeOf_spec] at hs
          simp only [vF.goL]
          rw [ih v (by omega), ihv (by omega)]
      intro v hv k
      cases v <;> simp only [vF]
      case d x => rw [dF_eq]
      case ptr i r o => rw [natF_eq]
      case sl i off len cap => rw [natF_eq, capF_eq]
      case mp i => rw [natF_eq]
      case it i => rw [natF_eq]
      case fn f vs us => simp only [V.fn.sizeOf_spec] at hv; rw [goL vs (by omega), goL us (by omega)]
      case ifc t v => simp only [V.ifc.sizeOf_spec] at hv; rw [ih v (by omega)]
      case agg vs => simp only [V.agg.sizeOf_spec] at hv; rw [goL vs (by omega)]
      case tup vs => simp only [V.tup.sizeOf_spec] at hv; rw [goL vs (by omega)]
  intro v k
  exact key (SizeOf.sizeOf v + 1) v (by omega) k

theorem goLF_eq : ∀ (vs : List (V T)) (k : List (V T) → Prop), vF.goL vs k = k vs
  | [], k => rfl
  | v :: vs, k => by simp only [vF.goL]; rw [vF_eq, goLF_eq vs]

def rowsF : List (List (V T)) → (List (List (V T)) → Prop) → Prop
  | [], k => k []
  | r :: rs, k => vF.goL r fun r => rowsF rs fun rs => k (r :: rs)
theorem rowsF_eq : ∀ (rs : List (List (V T))) (k : List (List (V T)) → Prop), rowsF rs k = k rs
  | [], k => rfl
  | r :: rs, k => by simp only [rowsF]; rw [goLF_eq, rowsF_eq rs]

def oF : O T → (O T → Prop) → Prop
  | .rows n xs, k => rowsF xs fun xs => k (.rows n xs)
  | .trows e xs, k => k (.trows e xs)
  | .map c es, k => k (.map c es)
  | .sit s p, k => k (.sit s p)
  | .mit m a b c, k => k (.mit m a b c)
theorem oF_eq (o : O T) (k : O T → Prop) : oF o k = k o := by cases o <;> simp only [oF]; rw [rowsF_eq]

def optF {α : Type} (f : α → (α → Prop) → Prop) : Option α → (Option α → Prop) → Prop
  | none, k => k none
  | some x, k => f x fun x => k (some x)
def trF {α : Type} (f : α → (α → Prop) → Prop) : Tr α → (Tr α → Prop) → Prop
  | .e, k => k .e
  | .n l v r, k => trF f l fun l => optF f v fun v => trF f r fun r => k (.n l v r)
theorem optF_eq {α : Type} {f : α → (α → Prop) → Prop} (hf : ∀ x k, f x k = k x) (x : Option α) (k : Option α → Prop) : optF f x k = k x := by cases x <;> simp only [optF]; rw [hf]
theorem trF_eq {α : Type} {f : α → (α → Prop) → Prop} (hf : ∀ x k, f x k = k x) : ∀ (t : Tr α) (k : Tr α → Prop), trF f t k = k t
  | .e, k => rfl
  | .n l v r, k => by simp only [trF]; rw [trF_eq hf l, optF_eq hf, trF_eq hf r]

def stF (st : St T) (k : St T → Prop) : Prop := trF vF st.env fun env => trF oF st.hp.h fun h => natF st.hp.nx fun n => k ⟨env, ⟨h, n, []⟩⟩
/-- The list of what was written is not looked at any more. -/
def St.bare (st : St T) : St T := ⟨st.env, ⟨st.hp.h, st.hp.nx, []⟩⟩
theorem stF_eq (st : St T) (k : St T → Prop) : stF st k = k st.bare := by
  unfold stF
  rw [trF_eq vF_eq, trF_eq oF_eq, natF_eq]
  rfl

/-! ### Data that get a name of their own -/
/-- Where they stand: a slot; a cell of an object's row. -/
inductive Tgt where
  | slot (t : Nat)
  | cell (i r j : Nat)
  | nslot (t e : Nat)
  | ncell (i r j e : Nat)
  | fslot (t : Nat)
  | fcell (i r j : Nat)

def absD (x : D T) (k : D T → Prop) : Prop := match x with
  | .bool b => ∀ y, y = b → k (.bool y)
  | .int i n => ∀ y, y = n → k (.int i y)
  | .str s => ∀ y, y = s → k (.str y)
  | .sl e xs => ∀ y, y = xs → k (.sl e y)
  | .usl i xs => ∀ y, y = xs → k (.usl i y)
  | x => k x
theorem absD_to {x : D T} {k : D T → Prop} (h : absD x k) : k x := by
  unfold absD at h
  split at h <;> first | exact h _ rfl | exact h

def abs1 (t : Tgt) (st : St T) (k : St T → Prop) : Prop := match t with
  | .slot t => (match Tr.ok t, st.env.get t with
    | true, some (.d x) => absD x fun x => k ⟨st.env.set t (some (.d x)), st.hp⟩
    | _, _ => k st)
  | .cell i r j => (match Tr.ok i, st.hp.h.get i with
    | true, some (.rows n xs) => (match xs[r]? with
      | some row => (match row[j]? with
        | some (.d x) => absD x fun x => k ⟨st.env, ⟨st.hp.h.set i (some (.rows n (xs.set r (row.set j (.d x))))), st.hp.nx, st.hp.wr⟩⟩
        | _ => k st)
      | none => k st)
    | _, _ => k st)
  | .nslot t e => (match Tr.ok t && Tr.ok st.hp.nx, st.env.get t with
    | true, some (.d .nils) => k ⟨st.env.set t (some (.sl st.hp.nx 0 0 (.least 0))), ⟨st.hp.h.set st.hp.nx (some (.trows e [])), st.hp.nx + 1, st.hp.wr⟩⟩
    | _, _ => k st)
  | .ncell i r j e => (match Tr.ok i && Tr.ok st.hp.nx, st.hp.h.get i with
    | true, some (.rows n xs) => (match xs[r]? with
      | some row => (match row[j]? with
        | some (.d .nils) => k ⟨st.env, ⟨(st.hp.h.set i (some (.rows n (xs.set r (row.set j (.sl st.hp.nx 0 0 (.least 0))))))).set st.hp.nx (some (.trows e [])), st.hp.nx + 1, st.hp.wr⟩⟩
        | _ => k st)
      | none => k st)
    | _, _ => k st)
  | .fslot _ => k st
  | .fcell _ _ _ => k st

def Alike (st st' : St T) : Prop := st'.env.get = st.env.get ∧ st'.hp.get = st.hp.get ∧ st'.hp.nx = st.hp.nx

theorem abs1_to {t : Tgt} {st : St T} {k : St T → Prop} (ht : (∃ s, t = .slot s) ∨ ∃ i r j, t = .cell i r j) (h : abs1 t st k) : ∃ st', k st' ∧ Alike st st' := by
  unfold abs1 at h
  split at h
  · rename_i t
    split at h
    · rename_i x hk hx
      refine ⟨_, absD_to h, ?_, rfl, rfl⟩
      funext j
      show (st.env.set t _).get j = _
      rw [Tr.get_set hk]
      by_cases hj : j = t
      · subst hj; rw [if_pos rfl, hx]
      · rw [if_neg hj]
    · exact ⟨st, h, rfl, rfl, rfl⟩
  · rename_i i r j
    split at h
    · rename_i n xs hk hx
      split at h
      · rename_i row hr
        split at h
        · rename_i x hj
          refine ⟨_, absD_to h, rfl, ?_, rfl⟩
          funext m
          show (st.hp.h.set i _).get m = st.hp.h.get m
          rw [Tr.get_set hk]
          by_cases hm : m = i
          · subst hm
            rw [if_pos rfl, hx]
            have e1 : row.set j (.d x) = row := by
              apply List.ext_getElem?
              intro q
              rw [List.getElem?_set]
              split
              · rename_i hq; subst hq; split
                · exact hj.symm
                · rw [List.getElem?_eq_none (by omega)]
              · rfl
            have e2 : xs.set r row = xs := by
              apply List.ext_getElem?
              intro q
              rw [List.getElem?_set]
              split
              · rename_i hq; subst hq; split
                · exact hr.symm
                · rw [List.getElem?_eq_none (by omega)]
              · rfl
            rw [e1, e2]
          · rw [if_neg hm]
        · exact ⟨st, h, rfl, rfl, rfl⟩
      · exact ⟨st, h, rfl, rfl, rfl⟩
    · exact ⟨st, h, rfl, rfl, rfl⟩
  · rcases ht with ⟨s, ht⟩ | ⟨i, r, j, ht⟩ <;> cases ht
  · rcases ht with ⟨s, ht⟩ | ⟨i, r, j, ht⟩ <;> cases ht
  · rcases ht with ⟨s, ht⟩ | ⟨i, r, j, ht⟩ <;> cases ht
  · rcases ht with ⟨s, ht⟩ | ⟨i, r, j, ht⟩ <;> cases ht

/-- Do the forms agree? -/
def shapeV : V T → V T → Bool
  | .d (.bool _), .d (.bool _) => true
  | .d (.int _ _), .d (.int _ _) => true
  | .d (.str _), .d (.str _) => true
  | .d (.sl _ _), .d (.sl _ _) => true
  | .d (.sl _ _), .d .nils => true
  | .d (.usl _ _), .d .nils => true
  | .d (.usl _ _), .d (.usl _ _) => true
  | .d .nilp, .d .nilp => true
  | .d .nils, .d .nils => true
  | .d .nilm, .d .nilm => true
  | .d .nilf, .d .nilf => true
  | .d .nili, .d .nili => true
  | .d _, .d _ => false
  | .ptr _ _ _, .ptr _ _ _ => true
  | .sl _ _ _ _, .sl _ _ _ _ => true
  | .agg _, .agg _ => true
  | .tup _, .tup _ => true
  | .fn _ _ _, .fn _ _ _ => true
  | .undef, .undef => true
  | _, _ => false
def shapeE (env : Tr (V T)) : List (Nat × V T) → Bool
  | [] => true
  | (t, v) :: l => (match env.get t with | some u => (match shapeV v u with | true => shapeE env l | false => false) | none => false)
end

section
variable (reg : Reg) (P : Program)

/-- The same, and slices that are made data for good. -/
def absR (t : Tgt) (st : St reg.T) (k : St reg.T → Prop) : Prop := match t with
  | .fslot t => (match Tr.ok t, st.env.get t with
    | true, some (.sl i off len cap) => (frz1 reg [] i (.sl i off len cap, st.hp)).K fun r => k ⟨st.env.set t (some r.1), r.2⟩
    | _, _ => k st)
  | .fcell i r j => (match st.hp.h.get i with
    | some (.rows _ xs) => (match xs[r]? with
      | some row => (match row[j]? with
        | some (.sl m _ _ _) => (frz1 reg [i] m (.undef, st.hp)).K fun q => k ⟨st.env, q.2⟩
        | _ => k st)
      | none => k st)
    | _ => k st)
  | t => abs1 t st k
def absL : List Tgt → St reg.T → (St reg.T → Prop) → Prop
  | [], st, k => k st
  | t :: l, st, k => absR reg t st fun st => absL l st k

def normQ {T : Nat → Type} (k : St T → Prop) (Q : AExit × St T → Prop) (r : AExit × St T) : Prop := match r.1 with
  | .normal => k r.2
  | _ => Q r
def blockQ {T : Nat → Type} (id : Nat) (Q : AExit × St T → Prop) (r : AExit × St T) : Prop := match r.1 with
  | .exit j => (match Nat.beq j id with | true => Q (.normal, r.2) | false => Q r)
  | _ => Q r

/-- A state like one of these. -/
def Like {G : Type} (n0 : Nat) (st : St reg.T) (l : LoopI reg.T G) : Prop := ∃ x, must (shapeE st.env (l.I x).env) (Cov n0 st (l.I x))

/-- What is left to be shown of code. 'n0': how many objects were there ahead of it; 'L': invariants of loops; 'J': states behind which the code goes on, ahead of a region. -/
def awp {G : Type} (hd : Hd reg.T) (nt fuel n0 : Nat) (A : Nat → List Tgt) (L : G → Nat → St reg.T → Option (LoopI reg.T G)) (J : G → Nat → Option (LoopI reg.T G)) : Code → G → (AExit × St reg.T → Prop) → St reg.T → Prop
  | .skip, _, Q, st => Q (.normal, st)
  | .region id ops draw, _, Q, st => (exReg P hd nt ops draw st).K fun st => stF st fun st => absL reg (A id) st fun st => Q (.normal, st)
  | .seq a b, g, Q, st => (match J g (firstId b) with
    | none => awp hd nt fuel n0 A L J a g (normQ (awp hd nt fuel n0 A L J b g Q) Q) st
    | some l => awp hd nt fuel n0 A L J a g (normQ (fun st => Like reg n0 st l) Q) st ∧ (∀ x, awp hd nt fuel n0 A L J b (l.g x) Q (l.I x).st))
  | .cond c a b, g, Q, st => (match c with
    | .tmp t => (match st.env.get t with
      | some (.d (.bool v)) => branch v (awp hd nt fuel n0 A L J a g Q (st.fix t true)) (awp hd nt fuel n0 A L J b g Q (st.fix t false))
      | _ => False)
    | _ => False)
  | .block id c, g, Q, st => awp hd nt fuel n0 A L J c g (blockQ id Q) st
  | .loop c, g, Q, st => (match L g (firstId c) st with
    | some l => Like reg n0 st l ∧ (∀ x, awp hd nt fuel n0 A L J c (l.g x) (normQ (fun st' => ∃ x', l.μ x' < l.μ x ∧ must (shapeE st'.env (l.I x').env) (Cov n0 st' (l.I x'))) Q) (l.I x).st)
    | none => (loopN (ex P hd nt fuel c) fuel st).K Q)
  | .exit id, _, Q, st => Q (.exit id, st)
  | .ret, _, Q, st => Q (.ret, st)
  | _, _, _, _ => False

def noJ {T : Nat → Type} {G : Type} (_ : G) (_ : Nat) : Option (LoopI T G) := none
def awpFun {G : Type} (hd : Hd reg.T) (fuel : Nat) (A : Nat → List Tgt) (L : G → Nat → St reg.T → Option (LoopI reg.T G)) (J : G → Nat → Option (LoopI reg.T G)) (g : G) (fn : Func) (args : List (V reg.T)) (Q : V reg.T × Hp reg.T → Prop) : Prop :=
  match fn.body with
  | none => False
  | some c => must (Nat.ble args.length fn.ntmps && Nat.ble fn.ntmps 1000000) (awp reg P hd fn.ntmps fuel 0 A L J c g (fun r => (finX P fn r).K Q) ⟨initEnv args 0 .e, ⟨.e, 0, []⟩⟩)

/-- The same, of a function that is handed objects. -/
def awpFunH {G : Type} (hd : Hd reg.T) (fuel : Nat) (A : Nat → List Tgt) (L : G → Nat → St reg.T → Option (LoopI reg.T G)) (J : G → Nat → Option (LoopI reg.T G)) (g : G) (fn : Func) (args : List (V reg.T)) (h : Hp reg.T) (Q : V reg.T × Hp reg.T → Prop) : Prop :=
  match fn.body with
  | none => False
  | some c => must (Nat.ble args.length fn.ntmps && Nat.ble fn.ntmps 1000000) (awp reg P hd fn.ntmps fuel h.nx A L J c g (fun r => (finX P fn r).K fun q => (tidyLeaf reg ⟨h.h, h.nx, []⟩ (q.1, ⟨q.2.h, q.2.nx, List.range h.nx⟩)).K Q) ⟨initEnv args 0 .e, h⟩)

/-- The same, its answer as it is: a slice stays an object. -/
def awpFunN {G : Type} (hd : Hd reg.T) (fuel : Nat) (A : Nat → List Tgt) (L : G → Nat → St reg.T → Option (LoopI reg.T G)) (J : G → Nat → Option (LoopI reg.T G)) (g : G) (fn : Func) (args : List (V reg.T)) (h : Hp reg.T) (Q : V reg.T × Hp reg.T → Prop) : Prop :=
  match fn.body with
  | none => False
  | some c => must (Nat.ble args.length fn.ntmps && Nat.ble fn.ntmps 1000000) (awp reg P hd fn.ntmps fuel h.nx A L J c g (fun r => (finX P fn r).K fun q => Q (q.1, ⟨q.2.h, q.2.nx, List.range h.nx⟩)) ⟨initEnv args 0 .e, h⟩)
end

section
variable {reg : Reg} {P : Program} {hd : Hd reg.T} {nt : Nat}

/-- A state at the machine, since the function's beginning. -/
def RA (n0 : Nat) (F0 : Nat → Prop) (φ0 : Phi) (H0 : Nat → Option (O reg.T)) (w0 : World) (nt : Nat) (st : St reg.T) (a : Act) (w : World) : Prop :=
  ∃ N F φ, (∀ i, N i → i < st.hp.nx) ∧ RS [] N F φ nt st a w ∧ Goes reg F0 φ0 (fun i => i < n0) H0 w0 F φ N st.hp.get w

theorem RA.go {n0 : Nat} {F0 : Nat → Prop} {φ0 : Phi} {H0 : Nat → Option (O reg.T)} {w0 : World} {st st' : St reg.T} {N F N' F' : Nat → Prop} {φ φ' : Phi} {a' : Act} {w w' : World} (hN : ∀ i, N i → i < st.hp.nx) (hg : Goes reg F0 φ0 (fun i => i < n0) H0 w0 F φ N st.hp.get w)
    (hR : RS [] N' F' φ' nt st' a' w') (hG : GO N F φ st.hp w N' F' φ' st'.hp w') : RA n0 F0 φ0 H0 w0 nt st' a' w' := by
  refine ⟨N', F', φ', fun i hi => ?_, hR, Goes.trans reg hg hG.goes⟩
  have := hG.grow.1
  rcases hG.names i hi with h | h
  · have := hN i h; omega
  · exact h.2

theorem RA.alike {n0 : Nat} {F0 : Nat → Prop} {φ0 : Phi} {H0 : Nat → Option (O reg.T)} {w0 : World} {st st' : St reg.T} {a : Act} {w : World} (h : RA n0 F0 φ0 H0 w0 nt st a w) (e : Alike st st') : RA n0 F0 φ0 H0 w0 nt st' a w := by
  obtain ⟨N, F, φ, h1, h2, h3⟩ := h
  obtain ⟨e1, e2, e3⟩ := e
  refine ⟨N, F, φ, by rw [e3]; exact h1, ?_, by rw [e2]; exact h3⟩
  show RF [] N F φ nt ⟨st'.env.get, st'.hp.get⟩ a w
  rw [e1, e2]
  exact h2

theorem RA.bare {n0 : Nat} {F0 : Nat → Prop} {φ0 : Phi} {H0 : Nat → Option (O reg.T)} {w0 : World} {st : St reg.T} {a : Act} {w : World} (h : RA n0 F0 φ0 H0 w0 nt st a w) : RA n0 F0 φ0 H0 w0 nt st.bare a w := h

/-- A slice that is nil as an object without rows. -/
theorem rows_nil {F : Nat → Prop} {w : World} {φ : Phi} {i n m r j : Nat} {xs : List (List (V reg.T))} {row : List (V reg.T)} (hr : xs[r]? = some row) (hj : row[j]? = some (.d .nils)) (ho : ORel reg F w φ i (.rows n xs)) : ORel reg F w φ i (.rows n (xs.set r (row.set j (.sl m 0 0 (.least 0))))) := by
  obtain ⟨h0, ho⟩ := ho.rows reg rfl
  refine .inl ⟨rfl, ?_⟩
  rcases ho with ⟨h1, h2⟩ | ⟨b, s, C, t, fz, h1, h2, h3, h4⟩
  · exact .inl ⟨by simpa only [O.len, List.length_set] using h1, h2⟩
  · have hrl : r < xs.length := (List.getElem?_eq_some_iff.1 hr).1
    have hrow : ∀ r', (xs.set r (row.set j (.sl m 0 0 (.least 0)))).getD r' [] = if r = r' then row.set j (.sl m 0 0 (.least 0)) else xs.getD r' [] := by
      intro r'
      rw [List.getD_eq_getElem?_getD, List.getElem?_set]
      by_cases e : r = r'
      · subst e; simp [hrl]
      · simp [e, List.getD_eq_getElem?_getD]
    have hrr : xs.getD r [] = row := by rw [List.getD_eq_getElem?_getD, hr]; rfl
    have hlen : (row.set j (.sl m 0 0 (.least 0) : V reg.T)).length = row.length := List.length_set
    have hcell : ∀ c, (row.set j (.sl m 0 0 (.least 0))).getD c .any = if j = c then (if c < row.length then .sl m 0 0 (.least 0) else .any) else row.getD c .any := by
      intro c
      rw [List.getD_eq_getElem?_getD, List.getElem?_set]
      by_cases e : j = c
      · subst e; by_cases hc : j < row.length <;> simp [hc]
      · simp [e, List.getD_eq_getElem?_getD]
    have hjl : j < row.length := (List.getElem?_eq_some_iff.1 hj).1
    have hjv : row.getD j .any = .d .nils := by rw [List.getD_eq_getElem?_getD, hj]; rfl
    refine .inr ⟨b, s, C, t, fz, h1, h2, h3, ⟨?_, ?_, ⟨fun r' hr' => ?_, fun r' c hr' hc => ?_, fun r' c hr' hc => ?_⟩⟩⟩
    · have := h4.size; simpa only [O.len, O.k, List.length_set] using this
    · have := h4.len; simpa only [O.len, List.length_set] using this
    · have hw := h4.at_.wid r' (by simpa only [O.len, List.length_set] using hr')
      simp only [O.row, O.k] at hw ⊢
      rw [hrow]
      by_cases e : r = r'
      · subst e; rw [if_pos rfl, hlen, ← hrr]; exact hw
      · rw [if_neg e]; exact hw
    · have hw := h4.at_.solid r' c (by simpa only [O.len, List.length_set] using hr') hc
      simp only [O.row, O.k] at hw hc ⊢
      rw [hrow]
      by_cases e : r = r'
      · subst e
        rw [if_pos rfl, hcell]
        by_cases e2 : j = c
        · subst e2; rw [if_pos rfl, if_pos hjl]; rfl
        · rw [if_neg e2, ← hrr]; exact hw
      · rw [if_neg e]; exact hw
    · have hw := h4.at_.rel r' c (by simpa only [O.len, List.length_set] using hr') hc
      simp only [O.row, O.k] at hw hc ⊢
      rw [hrow]
      by_cases e : r = r'
      · subst e
        rw [if_pos rfl, hcell]
        by_cases e2 : j = c
        · subst e2
          rw [if_pos rfl, if_pos hjl]
          rw [hrr, hjv] at hw
          obtain ⟨base, hb⟩ := hw.nils_inv
          rw [hb]
          exact .slz _ _ _ _ (Nat.zero_le _) (fun _ => rfl)
        · rw [if_neg e2, ← hrr]; exact hw
      · rw [if_neg e]; exact hw

/-- A name without a block. -/
theorem HRel.ghost {F : Nat → Prop} {φ : Phi} {N : Nat → Prop} {H : Nat → Option (O reg.T)} {w : World} {m e : Nat} (h : HRel reg F φ N H w) (hN : ∀ i, N i → i < m) (hm : Tr.ok m = true) : HRel reg F φ (fun i => N i ∨ i = m) (fun i => if i = m then some (.trows e []) else H i) w := by
  have hnone : φ m = none := by
    cases hφ : φ m with
    | none => rfl
    | some p => have := hN m (h.dom m p hφ); omega
  have hsome : ∀ {i o}, (if i = m then some (.trows e []) else H i) = some o → (i = m ∧ o = .trows e []) ∨ (i ≠ m ∧ H i = some o) := by
    intro i o hi
    by_cases e1 : i = m
    · rw [if_pos e1] at hi; cases hi; exact .inl ⟨e1, rfl⟩
    · rw [if_neg e1] at hi; exact .inr ⟨e1, hi⟩
  refine ⟨fun i o hi => ?_, fun i o b s k hi hp => ?_, fun i j oi oj b s k s' k' hi hj hpi hpj => ?_, fun i p hp => .inl (h.dom i p hp), fun i o hi => ?_, fun i hi => ?_, h.frz, h.lay⟩
  · rcases hsome hi with ⟨rfl, rfl⟩ | ⟨_, hi⟩
    · exact .inl ⟨rfl, .inl ⟨rfl, hnone⟩⟩
    · exact h.obj i o hi
  · rcases hsome hi with ⟨rfl, rfl⟩ | ⟨_, hi⟩
    · rw [hnone] at hp; cases hp
    · exact h.own i o b s k hi hp
  · rcases hsome hi with ⟨rfl, rfl⟩ | ⟨_, hi⟩
    · rw [hnone] at hpi; cases hpi
    · rcases hsome hj with ⟨rfl, rfl⟩ | ⟨_, hj⟩
      · rw [hnone] at hpj; cases hpj
      · exact h.inj i j oi oj b s k s' k' hi hj hpi hpj
  · rcases hsome hi with ⟨rfl, rfl⟩ | ⟨_, hi⟩
    · exact .inr rfl
    · exact .inl (h.lt i o hi)
  · rcases hi with hi | hi
    · exact h.ok i hi
    · rw [hi]; exact hm

/-- The same objects, one of them said otherwise. -/
theorem HRel.say {F : Nat → Prop} {φ : Phi} {N : Nat → Prop} {H : Nat → Option (O reg.T)} {w : World} {i : Nat} {o o' : O reg.T} (h : HRel reg F φ N H w) (hi : H i = some o) (ho : ORel reg F w φ i o → ORel reg F w φ i o') : HRel reg F φ N (fun j => if j = i then some o' else H j) w := by
  have hsome : ∀ {j u}, (if j = i then some o' else H j) = some u → (∃ u', H j = some u') ∧ (ORel reg F w φ j u) := by
    intro j u hj
    by_cases e1 : j = i
    · subst e1; rw [if_pos rfl] at hj; cases hj; exact ⟨⟨o, hi⟩, ho (h.obj _ _ hi)⟩
    · rw [if_neg e1] at hj; exact ⟨⟨u, hj⟩, h.obj _ _ hj⟩
  exact ⟨fun j u hj => (hsome hj).2, fun j u b s k hj hp => (hsome hj).1.elim fun u' hu => h.own j u' b s k hu hp,
    fun a c oa oc b s k s' k' ha hc => (hsome ha).1.elim fun ua hua => (hsome hc).1.elim fun uc huc => h.inj a c ua uc b s k s' k' hua huc, h.dom, fun j u hj => (hsome hj).1.elim fun u' hu => h.lt j u' hu, h.ok, h.frz, h.lay⟩

theorem Goes.ghost {F0 : Nat → Prop} {φ0 : Phi} {N0 : Nat → Prop} {H0 : Nat → Option (O reg.T)} {w0 : World} {F : Nat → Prop} {φ : Phi} {N N' : Nat → Prop} {H H' : Nat → Option (O reg.T)} {w : World} (h : Goes reg F0 φ0 N0 H0 w0 F φ N H w) (hN : ∀ i, N i → N' i) (hH : ∀ i o p, H' i = some o → φ i = some p → ∃ o', H i = some o') : Goes reg F0 φ0 N0 H0 w0 F φ N' H' w :=
  ⟨h.os, h.tape, h.output, h.size, h.block, h.fsub, h.fnew, h.phi, fun i hi => hN i (h.names i hi), fun b ⟨i, o, s, k, hi, hp⟩ => (hH i o _ hi hp).elim fun o' ho => h.dom b ⟨i, o', s, k, ho, hp⟩, h.new⟩

theorem RA.nslot {n0 : Nat} {F0 : Nat → Prop} {φ0 : Phi} {H0 : Nat → Option (O reg.T)} {w0 : World} {st : St reg.T} {a : Act} {w : World} {t e : Nat} (ht : Tr.ok t = true) (hm : Tr.ok st.hp.nx = true) (hx : st.env.get t = some (.d .nils)) (h : RA n0 F0 φ0 H0 w0 nt st a w) :
    RA n0 F0 φ0 H0 w0 nt ⟨st.env.set t (some (.sl st.hp.nx 0 0 (.least 0))), ⟨st.hp.h.set st.hp.nx (some (.trows e [])), st.hp.nx + 1, st.hp.wr⟩⟩ a w := by
  obtain ⟨N, F, φ, hN, hR, hG⟩ := h
  have hg : (st.hp.h.set st.hp.nx (some (.trows e []))).get = fun i => if i = st.hp.nx then some (.trows e []) else st.hp.get i := by
    funext i; rw [Tr.get_set hm]; rfl
  have hnone : φ st.hp.nx = none := by
    cases hφ : φ st.hp.nx with
    | none => rfl
    | some p => have := hN _ (hR.heap.dom _ p hφ); omega
  refine ⟨fun i => N i ∨ i = st.hp.nx, F, φ, fun i hi => ?_, ⟨fun t' v hv => ?_, hR.size, ?_, hR.dfs⟩, ?_⟩
  · show i < st.hp.nx + 1
    rcases hi with hi | hi
    · have := hN i hi; omega
    · omega
  · have hv : (st.env.set t (some (.sl st.hp.nx 0 0 (.least 0)))).get t' = some v := hv
    rw [Tr.get_set ht] at hv
    by_cases e1 : t' = t
    · subst e1
      rw [if_pos rfl] at hv
      cases hv
      obtain ⟨h1, h2⟩ := hR.env _ _ hx
      obtain ⟨base, hb⟩ := h2.nils_inv
      exact ⟨h1, by rw [hb]; exact .slz _ _ _ _ (Nat.zero_le _) (fun _ => rfl)⟩
    · rw [if_neg e1] at hv
      exact hR.env t' v hv
  · show HRel reg F φ _ (st.hp.h.set st.hp.nx (some (.trows e []))).get w
    rw [hg]
    exact hR.heap.ghost hN hm
  · show Goes reg F0 φ0 _ H0 w0 F φ _ (st.hp.h.set st.hp.nx (some (.trows e []))).get w
    rw [hg]
    refine hG.ghost (fun i hi => .inl hi) (fun i o p hi hp => ?_)
    by_cases e1 : i = st.hp.nx
    · subst e1; rw [hnone] at hp; cases hp
    · simp only [if_neg e1] at hi; exact ⟨o, hi⟩

theorem RA.ncell {n0 : Nat} {F0 : Nat → Prop} {φ0 : Phi} {H0 : Nat → Option (O reg.T)} {w0 : World} {st : St reg.T} {a : Act} {w : World} {i n r j e : Nat} {xs : List (List (V reg.T))} {row : List (V reg.T)} (ht : Tr.ok i = true) (hm : Tr.ok st.hp.nx = true) (hx : st.hp.h.get i = some (.rows n xs)) (hr : xs[r]? = some row) (hj : row[j]? = some (.d .nils)) (h : RA n0 F0 φ0 H0 w0 nt st a w) :
    RA n0 F0 φ0 H0 w0 nt ⟨st.env, ⟨(st.hp.h.set i (some (.rows n (xs.set r (row.set j (.sl st.hp.nx 0 0 (.least 0))))))).set st.hp.nx (some (.trows e [])), st.hp.nx + 1, st.hp.wr⟩⟩ a w := by
  obtain ⟨N, F, φ, hN, hR, hG⟩ := h
  have hg : ((st.hp.h.set i (some (.rows n (xs.set r (row.set j (.sl st.hp.nx 0 0 (.least 0))))))).set st.hp.nx (some (.trows e []))).get = fun q => if q = st.hp.nx then some (.trows e []) else (fun q => if q = i then some (.rows n (xs.set r (row.set j (.sl st.hp.nx 0 0 (.least 0))))) else st.hp.get q) q := by
    funext q; rw [Tr.get_set hm, Tr.get_set ht]; rfl
  have hnone : φ st.hp.nx = none := by
    cases hφ : φ st.hp.nx with
    | none => rfl
    | some p => have := hN _ (hR.heap.dom _ p hφ); omega
  refine ⟨fun i => N i ∨ i = st.hp.nx, F, φ, fun i hi => ?_, ⟨hR.env, hR.size, ?_, hR.dfs⟩, ?_⟩
  · show i < st.hp.nx + 1
    rcases hi with hi | hi
    · have := hN i hi; omega
    · omega
  · show HRel reg F φ _ ((st.hp.h.set i (some (.rows n (xs.set r (row.set j (.sl st.hp.nx 0 0 (.least 0))))))).set st.hp.nx (some (.trows e []))).get w
    rw [hg]
    exact (hR.heap.say hx (rows_nil hr hj)).ghost hN hm
  · show Goes reg F0 φ0 _ H0 w0 F φ _ ((st.hp.h.set i (some (.rows n (xs.set r (row.set j (.sl st.hp.nx 0 0 (.least 0))))))).set st.hp.nx (some (.trows e []))).get w
    rw [hg]
    refine hG.ghost (fun i hi => .inl hi) (fun q o p hi hp => ?_)
    by_cases e1 : q = st.hp.nx
    · subst e1; rw [hnone] at hp; cases hp
    · simp only [if_neg e1] at hi
      by_cases e2 : q = i
      · subst e2; exact ⟨_, hx⟩
      · rw [if_neg e2] at hi; exact ⟨o, hi⟩

/-- What is the same, or says the same, at the machine. -/
def Same (st st' : St reg.T) : Prop := ∀ {nt n0 : Nat} {F0 : Nat → Prop} {φ0 : Phi} {H0 : Nat → Option (O reg.T)} {w0 : World} {a : Act} {w : World}, RA n0 F0 φ0 H0 w0 nt st a w → RA n0 F0 φ0 H0 w0 nt st' a w

theorem RA.fslot {n0 : Nat} {F0 : Nat → Prop} {φ0 : Phi} {H0 : Nat → Option (O reg.T)} {w0 : World} {st : St reg.T} {a : Act} {w : World} {t i : Nat} {l : List Nat} {v : V reg.T} {r : V reg.T × Hp reg.T} (ht : Tr.ok t = true) (hx : st.env.get t = some v) (hK : (frz1 reg l i (v, st.hp)).K (· = r)) (h : RA n0 F0 φ0 H0 w0 nt st a w) :
    RA n0 F0 φ0 H0 w0 nt ⟨st.env.set t (some r.1), r.2⟩ a w := by
  obtain ⟨N, F, φ, hN, hR, hG⟩ := h
  obtain ⟨h1, h2⟩ := hR.env t v hx
  obtain ⟨v2, h2', N', F', φ', e, hv', hH', hGO⟩ := (frz1_ok (h0 := st.hp) hK).2 N F φ w _ w ⟨v, st.hp, N, F, φ, rfl, h2, hR.heap, GO.refl hR.heap⟩
  subst e
  refine RA.go hN hG (st' := ⟨st.env.set t (some v2), h2'⟩) ⟨fun t' u hu => ?_, hR.size, hH', hR.dfs⟩ hGO
  have hu : (st.env.set t (some v2)).get t' = some u := hu
  rw [Tr.get_set ht] at hu
  by_cases e1 : t' = t
  · subst e1
    rw [if_pos rfl] at hu
    cases hu
    exact ⟨h1, hv'⟩
  · rw [if_neg e1] at hu
    obtain ⟨h3, h4⟩ := hR.env t' u hu
    exact ⟨h3, hGO.goes.val hR.heap h4⟩
theorem RA.fcell {n0 : Nat} {F0 : Nat → Prop} {φ0 : Phi} {H0 : Nat → Option (O reg.T)} {w0 : World} {st : St reg.T} {a : Act} {w : World} {i : Nat} {l : List Nat} {r : V reg.T × Hp reg.T} (hK : (frz1 reg l i (.undef, st.hp)).K (· = r)) (h : RA n0 F0 φ0 H0 w0 nt st a w) :
    RA n0 F0 φ0 H0 w0 nt ⟨st.env, r.2⟩ a w := by
  obtain ⟨N, F, φ, hN, hR, hG⟩ := h
  obtain ⟨v2, h2', N', F', φ', e, hv', hH', hGO⟩ := (frz1_ok (h0 := st.hp) hK).2 N F φ w undef w ⟨.undef, st.hp, N, F, φ, rfl, .undef, hR.heap, GO.refl hR.heap⟩
  subst e
  refine RA.go hN hG (st' := ⟨st.env, h2'⟩) ⟨fun t' u hu => ?_, hR.size, hH', hR.dfs⟩ hGO
  obtain ⟨h3, h4⟩ := hR.env t' u hu
  exact ⟨h3, hGO.goes.val hR.heap h4⟩

theorem absR_same {t : Tgt} {st : St reg.T} {k : St reg.T → Prop} (h : absR reg t st k) : ∃ st', k st' ∧ Same st st' := by
  cases t with
  | slot t =>
    obtain ⟨st', h1, h2⟩ := abs1_to (Or.inl ⟨t, rfl⟩) h
    exact ⟨st', h1, fun hR => hR.alike h2⟩
  | cell i r j =>
    obtain ⟨st', h1, h2⟩ := abs1_to (Or.inr ⟨i, r, j, rfl⟩) h
    exact ⟨st', h1, fun hR => hR.alike h2⟩
  | nslot t e =>
    simp only [absR, abs1] at h
    split at h
    · rename_i hk hx
      simp only [Bool.and_eq_true] at hk
      exact ⟨_, h, fun hR => hR.nslot hk.1 hk.2 hx⟩
    · exact ⟨st, h, fun hR => hR⟩
  | ncell i r j e =>
    simp only [absR, abs1] at h
    split at h
    · rename_i n xs hk hx
      simp only [Bool.and_eq_true] at hk
      split at h
      · rename_i row hr
        split at h
        · rename_i hj
          exact ⟨_, h, fun hR => hR.ncell hk.1 hk.2 hx hr hj⟩
        · exact ⟨st, h, fun hR => hR⟩
      · exact ⟨st, h, fun hR => hR⟩
    · exact ⟨st, h, fun hR => hR⟩
  | fslot t =>
    simp only [absR] at h
    split at h
    · rename_i i off len cap hk hx
      obtain ⟨r, h1, h2⟩ := (Out.K_iff _ _).1 h
      exact ⟨_, h2, fun hR => hR.fslot hk hx h1⟩
    · exact ⟨st, h, fun hR => hR⟩
  | fcell i r j =>
    simp only [absR] at h
    split at h
    · split at h
      · split at h
        · obtain ⟨q, h1, h2⟩ := (Out.K_iff _ _).1 h
          exact ⟨_, h2, fun hR => hR.fcell h1⟩
        · exact ⟨st, h, fun hR => hR⟩
      · exact ⟨st, h, fun hR => hR⟩
    · exact ⟨st, h, fun hR => hR⟩

theorem absL_to : ∀ {l : List Tgt} {st : St reg.T} {k : St reg.T → Prop}, absL reg l st k → ∃ st', k st' ∧ Same st st'
  | [], st, k, h => ⟨st, h, fun hR => hR⟩
  | t :: l, st, k, h => by
    obtain ⟨st1, h1, a1⟩ := absR_same h
    obtain ⟨st2, h2, b1⟩ := absL_to h1
    exact ⟨st2, h2, fun hR => b1 (a1 hR)⟩

def APost (n0 : Nat) (F0 : Nat → Prop) (φ0 : Phi) (H0 : Nat → Option (O reg.T)) (w0 : World) (nt : Nat) (Q : AExit × St reg.T → Prop) : Exit → Act → World → Prop
  | .normal, a, w => ∃ st, Q (.normal, st) ∧ RA n0 F0 φ0 H0 w0 nt st a w
  | .exit id, a, w => ∃ st, Q (.exit id, st) ∧ RA n0 F0 φ0 H0 w0 nt st a w
  | .ret, a, w => ∃ st, Q (.ret, st) ∧ RA n0 F0 φ0 H0 w0 nt st a w
  | _, _, _ => False

theorem fresh_top {N : Nat → Prop} {n : Nat} (h : ∀ i, N i → i < n) (m : Nat) : Fresh N n m := fun i h1 _ h3 => by have := h i h3; omega

/-! #### Cover -/
theorem lookN_mem {α : Type} : ∀ {l : List (Nat × α)} {i : Nat} {x : α}, lookN l i = some x → (i, x) ∈ l
  | (k, y) :: l, i, x, h => by
    simp only [lookN] at h
    cases hb : Nat.beq k i with
    | true => rw [hb] at h; cases h; rw [Nat.eq_of_beq_eq_true hb]; simp
    | false => rw [hb] at h; exact List.mem_cons_of_mem _ (lookN_mem h)

theorem setAll_get {α : Type} : ∀ {l : List (Nat × α)} {t : Tr α}, (∀ p ∈ l, Tr.ok p.1 = true) → ∀ {j : Nat} {x : α}, (setAll l t).get j = some x → (j, x) ∈ l ∨ t.get j = some x
  | [], t, _, j, x, h => .inr h
  | (i, y) :: l, t, hk, j, x, h => by
    simp only [setAll] at h
    rw [Tr.get_set (hk (i, y) (by simp))] at h
    by_cases hji : j = i
    · subst hji
      rw [if_pos rfl] at h
      cases h
      exact .inl (by simp)
    · rw [if_neg hji] at h
      rcases setAll_get (fun p hp => hk p (by simp [hp])) h with h | h
      · exact .inl (by simp [h])
      · exact .inr h

/-- What names stand for. -/
def phiC (ρ : List (Nat × Nat)) (φ : Phi) : Phi := fun i => match lookN ρ i with | some j => φ j | none => none

theorem phiC_is {ρ : List (Nat × Nat)} {φ : Phi} {i j : Nat} (h : nameIs ρ i j = true) : phiC ρ φ i = φ j := by
  unfold nameIs at h
  unfold phiC
  split at h
  · rename_i k hk
    simp only [Nat.eq_of_beq_eq_true h]
  · cases h

theorem covD_rel {F : Nat → Prop} {w : World} {x y : D reg.T} (h : covD x y) {cv : Value} (hd : DRel reg F w y cv) : DRel reg F w x cv := by
  unfold covD at h
  split at h
  · subst h; exact nils_to rfl rfl F w cv hd
  · subst h; exact nils_to rfl rfl F w cv hd
  · obtain ⟨h1, h2⟩ := (must_iff _ _).1 h
    rw [sameKind_eq h1, h2]; exact hd
  · subst h; exact hd
  · subst h; exact hd
  · subst h; exact hd

theorem covV_rel {F : Nat → Prop} {w : World} {φ : Phi} {ρ : List (Nat × Nat)} {u : V reg.T} {cv : Value} (hu : VRel reg F w φ u cv) : ∀ {v}, covV ρ v u → VRel reg F w (phiC ρ φ) v cv ∧ (u.solid = true → v.solid = true) := by
  have lists : ∀ {us : List (V reg.T)} {cs : Array Value}, (∀ j, j < us.length → ∀ {v}, covV ρ v (us.getD j .any) → VRel reg F w (phiC ρ φ) v (cs.getD j undef) ∧ ((us.getD j .any).solid = true → v.solid = true)) →
      ∀ {vs}, covV.goL ρ vs us → vs.length = us.length ∧ ∀ j, j < vs.length → VRel reg F w (phiC ρ φ) (vs.getD j .any) (cs.getD j undef) := by
    intro us cs ih vs hvs
    have key : ∀ (us vs : List (V reg.T)), covV.goL ρ vs us → vs.length = us.length ∧ ∀ j, j < vs.length → covV ρ (vs.getD j .any) (us.getD j .any) := by
      intro us
      induction us with
      | nil =>
        intro vs h
        cases vs with
        | nil => exact ⟨rfl, fun j hj => by simp at hj⟩
        | cons v vs => exact h.elim
      | cons u us ihu =>
        intro vs h
        cases vs with
        | nil => exact h.elim
        | cons v vs =>
          obtain ⟨h1, h2⟩ := h
          obtain ⟨h3, h4⟩ := ihu vs h2
          refine ⟨by simp [h3], fun j hj => ?_⟩
          cases j with
          | zero => exact h1
          | succ j => exact h4 j (by simpa using hj)
    obtain ⟨h1, h2⟩ := key us vs hvs
    exact ⟨h1, fun j hj => (ih j (by omega) (h2 j hj)).1⟩
  induction hu with
  | d y cv hd =>
    intro v h
    cases v <;> simp only [covV] at h <;> first | exact h.elim | exact ⟨.d _ _ (covD_rel h hd), fun _ => rfl⟩
  | ptr j r o b s k z hp =>
    intro v h
    cases v <;> simp only [covV] at h <;> (try exact h.elim)
    obtain ⟨h1, h2, h3⟩ := (must_iff _ _).1 h
    subst h2 h3
    exact ⟨.ptr _ _ _ b s k z ((phiC_is h1).trans hp), fun _ => rfl⟩
  | fp row o a C t fz hF hb hz hr => intro v h; cases v <;> simp only [covV] at h
  | sl j off len cap b s k z cap' hp hc hl hm hz =>
    intro v h
    cases v <;> simp only [covV] at h <;> (try exact h.elim)
    obtain ⟨h1, h2, h3, h4⟩ := (must_iff _ _).1 h
    subst h2 h3
    refine ⟨.sl _ _ _ _ b s k z cap' ((phiC_is h1).trans hp) ?_ hl hm hz, fun _ => rfl⟩
    rename_i cap0
    cases cap0 <;> cases cap <;> simp only [covCap] at h4 <;> simp only [CapRel] at hc ⊢ <;> omega
  | slz j off cap base hc hnb =>
    intro v h
    cases v <;> simp only [covV] at h <;> (try exact h.elim)
    obtain ⟨h1, h2, h3, h4⟩ := (must_iff _ _).1 h
    subst h2 h3
    rename_i cap0
    refine ⟨.slz _ _ _ base ?_ (fun e => ?_), fun _ => rfl⟩
    · cases cap0 <;> cases cap <;> simp only [covCap] at h4 <;> simp only [CapRel] at hc ⊢ <;> omega
    · have := hnb e
      cases cap0 <;> cases cap <;> simp only [covCap] at h4 <;> first | rfl | cases this
  | mp j b s hp =>
    intro v h
    cases v <;> simp only [covV] at h <;> (try exact h.elim)
    obtain ⟨h1, _⟩ := (must_iff _ _).1 h
    exact ⟨.mp _ b s ((phiC_is h1).trans hp), fun _ => rfl⟩
  | it j b s hp => intro v h; cases v <;> simp only [covV] at h
  | fn f caps fst cs fs hz _ hz' _ ih ih' =>
    intro v h
    cases v <;> simp only [covV] at h <;> (try exact h.elim)
    obtain ⟨h1, h2, h3⟩ := (must_iff _ _).1 h
    have := Nat.eq_of_beq_eq_true h1
    subst this
    obtain ⟨a1, a2⟩ := lists ih h2
    obtain ⟨b1, b2⟩ := lists ih' h3
    exact ⟨.fn _ _ _ cs fs (by omega) a2 (by omega) b2, fun _ => rfl⟩
  | agg us cs hz _ ih =>
    intro v h
    cases v <;> simp only [covV] at h <;> (try exact h.elim)
    obtain ⟨a1, a2⟩ := lists ih h
    exact ⟨.agg _ cs (by omega) a2, fun h => by simp [V.solid] at h⟩
  | tup us cs hz _ ih =>
    intro v h
    cases v <;> simp only [covV] at h <;> (try exact h.elim)
    obtain ⟨a1, a2⟩ := lists ih h
    exact ⟨.tup _ cs (by omega) a2, fun h => by simp [V.solid] at h⟩
  | ifc t v cv _ _ => intro v h; cases v <;> simp only [covV] at h
  | undef => intro v h; cases v <;> simp only [covV] at h <;> first | exact h.elim | exact ⟨.undef, fun h => h⟩
  | any cv => intro v h; cases v <;> simp only [covV] at h

theorem covL_get {ρ : List (Nat × Nat)} : ∀ {us vs : List (V reg.T)}, covV.goL ρ vs us → vs.length = us.length ∧ ∀ j, j < vs.length → covV ρ (vs.getD j .any) (us.getD j .any)
  | [], [], _ => ⟨rfl, fun j hj => by simp at hj⟩
  | [], v :: vs, h => h.elim
  | u :: us, [], h => h.elim
  | u :: us, v :: vs, ⟨h1, h2⟩ => by
    obtain ⟨h3, h4⟩ := covL_get h2
    refine ⟨by simp [h3], fun j hj => ?_⟩
    cases j with
    | zero => exact h1
    | succ j => exact h4 j (by simpa using hj)

theorem covR_get {ρ : List (Nat × Nat)} : ∀ {ss rs : List (List (V reg.T))}, covR ρ rs ss → rs.length = ss.length ∧ ∀ r, r < rs.length → covV.goL ρ (rs.getD r []) (ss.getD r [])
  | [], [], _ => ⟨rfl, fun j hj => by simp at hj⟩
  | [], v :: vs, h => h.elim
  | u :: us, [], h => h.elim
  | u :: us, v :: vs, ⟨h1, h2⟩ => by
    obtain ⟨h3, h4⟩ := covR_get h2
    refine ⟨by simp [h3], fun j hj => ?_⟩
    cases j with
    | zero => exact h1
    | succ j => exact h4 j (by simpa using hj)

theorem covM_rel {F : Nat → Prop} {w : World} {φ : Phi} {ρ : List (Nat × Nat)} {us : List ((V reg.T × V reg.T) × Nat)} {cs : List MapEntry} (hu : Ents reg F w φ us cs) : ∀ {es : List ((V reg.T × V reg.T) × Nat)}, covM ρ es us → Ents reg F w (phiC ρ φ) es cs := by
  induction hu with
  | nil =>
    intro es h
    cases es with
    | nil => exact .nil
    | cons e es => exact h.elim
  | cons k v n c us cs hk hv hn _ ih =>
    intro es h
    cases es with
    | nil => exact h.elim
    | cons e es =>
      obtain ⟨⟨k0, v0⟩, n0⟩ := e
      obtain ⟨h1, h2, h3, h4⟩ := (must_iff _ _).1 h
      have h1 := Nat.eq_of_beq_eq_true h1
      exact .cons k0 v0 n0 c es cs (covV_rel hk h2).1 (covV_rel hv h3).1 (by rw [hn, h1]) (ih h4)

theorem covO_rel {F : Nat → Prop} {w : World} {φ : Phi} {ρ : List (Nat × Nat)} {i j : Nat} {o u : O reg.T} (hij : lookN ρ i = some j) (h : covO ρ o u) (hu : ORel reg F w φ j u) : ORel reg F w (phiC ρ φ) i o := by
  have hp : phiC ρ φ i = φ j := by unfold phiC; rw [hij]
  cases o with
  | rows k xs =>
    cases u with
    | rows k' ys =>
      obtain ⟨hk, hR⟩ := (must_iff _ _).1 h
      have := Nat.eq_of_beq_eq_true hk
      subst this
      obtain ⟨hl, hr⟩ := covR_get hR
      obtain ⟨_, hu⟩ := hu.rows reg rfl
      refine .inl ⟨rfl, ?_⟩
      rcases hu with ⟨h1, h2⟩ | ⟨b, s, C, t, fz, h1, h2, h3, h4⟩
      · exact .inl ⟨by simp only [O.len] at h1 ⊢; omega, hp.trans h2⟩
      · have hlist : ∀ r, r < xs.length → ((xs.getD r []).length = (ys.getD r []).length) ∧ ∀ c, c < (xs.getD r []).length → covV ρ ((xs.getD r []).getD c .any) ((ys.getD r []).getD c .any) := fun r hr' => covL_get (hr r hr')
        refine .inr ⟨b, s, C, t, fz, hp.trans h1, h2, h3, ⟨?_, ?_, ⟨fun r hr => ?_, fun r c hr hc => ?_, fun r c hr hc => ?_⟩⟩⟩
        · have := h4.size; simp only [O.len, O.k, hl] at this ⊢; exact this
        · have := h4.len; simp only [O.len, hl] at this ⊢; exact this
        · simp only [O.len] at hr
          have := h4.at_.wid r (by simp only [O.len]; omega)
          simp only [O.row, O.k] at this ⊢
          rw [(hlist r hr).1, this]
        · simp only [O.len, O.k] at hr hc
          have hw := h4.at_.wid r (by simp only [O.len]; omega)
          simp only [O.row, O.k] at hw ⊢
          exact (covV_rel (h4.at_.rel r c (by simp only [O.len]; omega) hc) ((hlist r hr).2 c (by rw [(hlist r hr).1, hw]; exact hc))).2 (h4.at_.solid r c (by simp only [O.len]; omega) hc)
        · simp only [O.len, O.k] at hr hc
          have hw := h4.at_.wid r (by simp only [O.len]; omega)
          simp only [O.row, O.k] at hw ⊢
          exact (covV_rel (h4.at_.rel r c (by simp only [O.len]; omega) hc) ((hlist r hr).2 c (by rw [(hlist r hr).1, hw]; exact hc))).1
    | trows e ys => exact h.elim
    | map c es => exact h.elim
    | sit s p => exact h.elim
    | mit m a b c => exact h.elim
  | trows e xs =>
    cases u with
    | rows k' ys => exact h.elim
    | map c es => exact h.elim
    | sit s p => exact h.elim
    | mit m a b c => exact h.elim
    | trows e' ys =>
      have h : O.trows e xs = .trows e' ys := h
      rw [h]
      obtain ⟨h0, hu⟩ := hu.rows reg rfl
      refine .inl ⟨h0, ?_⟩
      rcases hu with ⟨h1, h2⟩ | ⟨b, s, C, t, fz, h1, h2, h3, h4⟩
      · exact .inl ⟨h1, hp.trans h2⟩
      · refine .inr ⟨b, s, C, t, fz, hp.trans h1, h2, h3, ⟨h4.size, h4.len, ⟨h4.at_.wid, h4.at_.solid, fun r c hr hc => ?_⟩⟩⟩
        have h5 := h4.at_.rel r c hr hc
        have hw := h4.at_.wid r hr
        -- the cells are data
        have hd : ∃ x, ((O.trows e' ys).row reg r).getD c .any = .d x := by
          simp only [O.row, O.k] at hw hc ⊢
          rw [List.length_map] at hw
          exact ⟨_, getD_map_d _ _ (by omega)⟩
        obtain ⟨x, hx⟩ := hd
        rw [hx] at h5 ⊢
        exact .d _ _ h5.d_inv
  | map c es =>
    cases u with
    | map c' us =>
      obtain ⟨h1, h2⟩ := (must_iff _ _).1 h
      have := Nat.eq_of_beq_eq_true h1
      subst this
      obtain ⟨b, ces, e1, e2, e3⟩ := hu.map
      exact .inr (.inl ⟨c, es, b, ces, rfl, hp.trans e1, e2, covM_rel e3 h2⟩)
    | rows k' ys => exact h.elim
    | trows e ys => exact h.elim
    | sit s p => exact h.elim
    | mit m a b c => exact h.elim
  | sit s p => exact h.elim
  | mit m a b c => exact h.elim

theorem covE_get {ρ : List (Nat × Nat)} {env : Tr (V reg.T)} : ∀ {l : List (Nat × V reg.T)}, covE ρ env l → ∀ {t v}, (t, v) ∈ l → ∃ u, env.get t = some u ∧ covV ρ v u
  | (k, x) :: l, h, t, v, hm => by
    simp only [covE] at h
    split at h
    · rename_i u hu
      rcases List.mem_cons.1 hm with hm | hm
      · cases hm; exact ⟨u, hu, h.1⟩
      · exact covE_get h.2 hm
    · exact h.elim
theorem covH_get {ρ : List (Nat × Nat)} {h : Tr (O reg.T)} : ∀ {l : List (Nat × O reg.T)}, covH ρ h l → ∀ {i o}, (i, o) ∈ l → ∃ j u, lookN ρ i = some j ∧ h.get j = some u ∧ covO ρ o u
  | (k, x) :: l, hc, i, o, hm => by
    simp only [covH] at hc
    split at hc
    · rename_i j hj
      split at hc
      · rename_i u hu
        rcases List.mem_cons.1 hm with hm | hm
        · cases hm; exact ⟨j, u, hj, hu, hc.1⟩
        · exact covH_get hc.2 hm
      · exact hc.elim
    · exact hc.elim

theorem nodupN_spec : ∀ {l : List (Nat × Nat)}, nodupN (l.map (·.2)) = true → ∀ {i j k : Nat}, (i, k) ∈ l → (j, k) ∈ l → i = j
  | (a, b) :: l, h, i, j, k, hi, hj => by
    simp only [List.map_cons, nodupN, Bool.and_eq_true, Bool.not_eq_true'] at h
    have hn : ∀ x, (x, b) ∉ l := fun x hx => by
      have : memN (l.map (·.2)) b = true := memN_iff.2 (List.mem_map.2 ⟨(x, b), hx, rfl⟩)
      rw [h.1] at this; cases this
    rcases List.mem_cons.1 hi with hi | hi <;> rcases List.mem_cons.1 hj with hj | hj
    · cases hi; cases hj; rfl
    · cases hi; exact (hn _ hj).elim
    · cases hj; exact (hn _ hi).elim
    · exact nodupN_spec h.2 hi hj

theorem selfB_get {ρ : List (Nat × Nat)} : ∀ {n : Nat}, selfB ρ n = true → ∀ {j}, j < n → lookN ρ j = some j
  | n + 1, h, j, hj => by
    simp only [selfB, Bool.and_eq_true] at h
    by_cases e : j = n
    · subst e
      have h1 := h.1
      unfold nameIs at h1
      split at h1
      · rename_i k hk; rw [hk, Nat.eq_of_beq_eq_true h1]
      · cases h1
    · exact selfB_get h.2 (by omega)

/-- A state that is stood for. -/
theorem Cov.ra {n0 : Nat} {F0 : Nat → Prop} {φ0 : Phi} {H0 : Nat → Option (O reg.T)} {w0 : World} {st : St reg.T} {s : CSt reg.T} {a : Act} {w : World} (h : Cov n0 st s) (hR : RA n0 F0 φ0 H0 w0 nt st a w) : RA n0 F0 φ0 H0 w0 nt s.st a w := by
  obtain ⟨N, F, φ, hN, hR, hG⟩ := hR
  obtain ⟨hb, he, hh⟩ := (must_iff _ _).1 h
  generalize findR n0 st s = ρ at hb he hh
  unfold covB at hb
  simp only [Bool.and_eq_true, List.all_eq_true] at hb
  obtain ⟨⟨⟨⟨⟨hb0, hb1⟩, hb2⟩, hb3⟩, hb4⟩, hb5⟩ := hb
  have hself : ∀ {i}, i < n0 → lookN ρ i = some i := fun hi => selfB_get hb0 hi
  have hobj : ∀ i o, s.st.hp.get i = some o → ∃ j u, lookN ρ i = some j ∧ st.hp.get j = some u ∧ covO ρ o u := by
    intro i o hi
    rcases setAll_get (fun p hp => hb5 p hp) (show (setAll s.objs .e).get i = some o from hi) with h | h
    · exact covH_get hh h
    · rw [Tr.get_e] at h; cases h
  have hφ : ∀ i p, phiC ρ φ i = some p → ∃ j, lookN ρ i = some j ∧ φ j = some p := by
    intro i p hp
    unfold phiC at hp
    split at hp
    · rename_i j hj; exact ⟨j, hj, hp⟩
    · cases hp
  have hlt : ∀ i j, lookN ρ i = some j → i < s.nx := fun i j hij => by simpa using hb2 (i, j) (lookN_mem hij)
  refine ⟨fun i => ∃ j, lookN ρ i = some j, F, phiC ρ φ, fun i ⟨j, hj⟩ => hlt i j hj, ⟨fun t v hv => ?_, hR.size, ⟨fun i o hi => ?_, fun i o b s' k hi hp => ?_, fun i j oi oj b s1 k1 s2 k2 hi hj hpi hpj => ?_, fun i p hp => ?_, fun i o hi => ?_, fun i ⟨j, hj⟩ => ok_lt hb3 (hlt i j hj), hR.heap.frz, hR.heap.lay⟩, hR.dfs⟩, ?_⟩
  · rcases setAll_get (fun p hp => hb4 p hp) (show (setAll s.env .e).get t = some v from hv) with h | h
    · obtain ⟨u, hu, hc⟩ := covE_get he h
      obtain ⟨h1, h2⟩ := hR.env t u hu
      exact ⟨h1, (covV_rel h2 hc).1⟩
    · rw [Tr.get_e] at h; cases h
  · obtain ⟨j, u, hij, hu, hc⟩ := hobj i o hi
    exact covO_rel hij hc (hR.heap.obj j u hu)
  · obtain ⟨j, u, hij, hu, hc⟩ := hobj i o hi
    obtain ⟨j', hij', hp'⟩ := hφ i _ hp
    rw [hij] at hij'
    cases hij'
    exact hR.heap.own j u b s' k hu hp'
  · obtain ⟨i', u, h1, h2, _⟩ := hobj i oi hi
    obtain ⟨j', u', h3, h4, _⟩ := hobj j oj hj
    obtain ⟨i2, h5, h6⟩ := hφ i _ hpi
    obtain ⟨j2, h7, h8⟩ := hφ j _ hpj
    rw [h1] at h5; cases h5
    rw [h3] at h7; cases h7
    have := hR.heap.inj i' j' u u' b s1 k1 s2 k2 h2 h4 h6 h8
    subst this
    exact nodupN_spec hb1 (lookN_mem h1) (lookN_mem h3)
  · obtain ⟨j, h1, _⟩ := hφ i p hp; exact ⟨j, h1⟩
  · obtain ⟨j, u, hij, _⟩ := hobj i o hi; exact ⟨j, hij⟩
  · refine ⟨hG.os, hG.tape, hG.output, hG.size, hG.block, hG.fsub, hG.fnew, fun i hi => ?_, fun i hi => ⟨i, hself hi⟩, fun b ⟨i, o, s', k, hi, hp⟩ => ?_, fun i p hp => ?_⟩
    · rw [← hG.phi i hi]
      unfold phiC
      rw [hself hi]
    · obtain ⟨j, u, hij, hu, _⟩ := hobj i o hi
      obtain ⟨j', hij', hp'⟩ := hφ i _ hp
      rw [hij] at hij'
      cases hij'
      exact hG.dom b ⟨j, u, s', k, hu, hp'⟩
    · obtain ⟨j, hj, hp'⟩ := hφ i _ hp
      rcases hG.new j p hp' with h | h
      · left
        have : i = j := nodupN_spec hb1 (lookN_mem hj) (lookN_mem (hself h))
        subst this
        exact h
      · exact .inr h

theorem xpost_apost {Q : AExit × St reg.T → Prop} {n0 : Nat} {F0 : Nat → Prop} {φ0 : Phi} {H0 : Nat → Option (O reg.T)} {w0 : World} {st : St reg.T} {N F : Nat → Prop} {φ : Phi} {w : World} (hN : ∀ i, N i → i < st.hp.nx) (hg : Goes reg F0 φ0 (fun i => i < n0) H0 w0 F φ N st.hp.get w) {e : Exit} {a' : Act} {w' : World}
    (h : XPost [] Q nt N F φ st.hp w e a' w') : APost n0 F0 φ0 H0 w0 nt Q e a' w' := by
  cases e with
  | normal => obtain ⟨st', N', F', φ', h1, h2, h3⟩ := h; exact ⟨st', h1, RA.go hN hg h2 h3⟩
  | exit id => obtain ⟨st', N', F', φ', h1, h2, h3⟩ := h; exact ⟨st', h1, RA.go hN hg h2 h3⟩
  | ret => obtain ⟨st', N', F', φ', h1, h2, h3⟩ := h; exact ⟨st', h1, RA.go hN hg h2 h3⟩
  | goto l => exact h.elim
  | panic ch => exact h.elim
  | outgrown => exact h.elim

theorem awp_sound (hm : P.follows .mixedOrders = true) (hHd : HdSound P hd) (hnt : nt ≤ 1000000) {fuel : Nat} {A : Nat → List Tgt} {G : Type} {L : G → Nat → St reg.T → Option (LoopI reg.T G)} {J : G → Nat → Option (LoopI reg.T G)} {n0 : Nat} {F0 : Nat → Prop} {φ0 : Phi} {H0 : Nat → Option (O reg.T)} {w0 : World} : ∀ (c : Code) (g : G) (Q : AExit × St reg.T → Prop) (st : St reg.T), awp reg P hd nt fuel n0 A L J c g Q st →
    ∀ {a : Act} {w : World}, RA n0 F0 φ0 H0 w0 nt st a w → c.wp P (APost n0 F0 φ0 H0 w0 nt Q) a w := by
  intro c
  induction c with
  | skip => intro g Q st h a w hR; exact wp_skip ⟨st, h, hR⟩
  | region id ops draw =>
    intro g Q st h a w hR
    obtain ⟨N, F, φ, hN, hR, hG⟩ := hR
    exact exReg_sound hm hHd hnt h hR (fun st' _ => fresh_top hN _) (fun st' N' F' φ' a' w' hq hR' hG' => (by
      have hq := (stF_eq st' (fun st => absL reg (A id) st fun st => Q (.normal, st))).mp hq
      obtain ⟨st2, h2, h3⟩ := absL_to hq
      exact ⟨st2, h2, h3 (RA.go hN hG hR' hG').bare⟩))
  | seq x y ihx ihy =>
    intro g Q st h a w hR
    simp only [awp] at h
    split at h
    · refine wp_seq (wp_mono (ihx g _ st h hR) fun e a' w' he => ?_)
      cases e with
      | normal => obtain ⟨st', hq, hR'⟩ := he; exact ihy g Q st' hq hR'
      | exit id => exact he
      | ret => exact he
      | goto l => exact he
      | panic c => exact he
      | outgrown => exact he
    · refine wp_seq (wp_mono (ihx g _ st h.1 hR) fun e a' w' he => ?_)
      cases e with
      | normal =>
        obtain ⟨st', ⟨x0, hq⟩, hR'⟩ := he
        exact ihy _ Q _ (h.2 x0) (((must_iff _ _).1 hq).2.ra hR')
      | exit id => exact he
      | ret => exact he
      | goto l => exact he
      | panic c => exact he
      | outgrown => exact he
  | cond o x y ihx ihy =>
    intro g Q st h a w hR
    simp only [awp] at h
    split at h
    · rename_i t
      split at h
      · rename_i v hv
        have hR' := hR
        obtain ⟨N, F, φ, hN, hR', hG⟩ := hR'
        have he : a.eval (.tmp t) = .bool v := (valOf_rel hR' (x := .tmp t) hv).bool_inv
        cases v with
        | true => simp only [branch, St.fix_same hv] at h; exact wp_cond_true he (ihx g Q st h hR)
        | false => simp only [branch, St.fix_same hv] at h; exact wp_cond_false he (ihy g Q st h hR)
      · exact h.elim
    · exact h.elim
  | block id c ih =>
    intro g Q st h a w hR
    refine wp_block (wp_mono (ih g _ st h hR) fun e a' w' he => ?_)
    cases e with
    | normal => exact he
    | exit j =>
      obtain ⟨st', hq, hR'⟩ := he
      simp only [blockQ] at hq
      cases hb : Nat.beq j id with
      | true =>
        rw [hb] at hq
        have : j = id := Nat.eq_of_beq_eq_true hb
        simp only [Exit.inBlock, this, if_true]
        exact ⟨st', hq, hR'⟩
      | false =>
        rw [hb] at hq
        have : j ≠ id := fun e => by subst e; simp [Nat.beq_refl] at hb
        simp only [Exit.inBlock, this, if_false]
        exact ⟨st', hq, hR'⟩
    | ret => exact he
    | goto l => exact he
    | panic c => exact he
    | outgrown => exact he
  | exit id => intro g Q st h a w hR; exact wp_exit ⟨st, h, hR⟩
  | ret => intro g Q st h a w hR; exact wp_ret ⟨st, h, hR⟩
  | loop c ih =>
    intro g Q st h a w hR
    simp only [awp] at h
    split at h
    · rename_i l _
      obtain ⟨⟨x0, h0⟩, hround⟩ := h
      have h0 := ((must_iff _ _).1 h0).2
      refine wp_loop_ghost (fun n a w => ∃ x, l.μ x = n ∧ RA n0 F0 φ0 H0 w0 nt (l.I x).st a w) (l.μ x0) ⟨x0, rfl, h0.ra hR⟩ ?_
      rintro n a w ⟨x, rfl, hR⟩
      refine wp_mono (ih _ _ _ (hround x) hR) fun e a' w' he => ?_
      cases e with
      | normal =>
        obtain ⟨st', hq, hR'⟩ := he
        obtain ⟨x', h1, h2⟩ := hq
        exact ⟨l.μ x', h1, x', rfl, ((must_iff _ _).1 h2).2.ra hR'⟩
      | exit id => exact he
      | ret => exact he
      | goto l => exact he
      | panic c => exact he
      | outgrown => exact he
    · obtain ⟨N, F, φ, hN, hR, hG⟩ := hR
      exact wp_mono ((wpIn_wide (n := 0)).1 (loop_sound (ex_mono hnt c) (ex_in hm hHd hnt c) fuel st Q h hR (fun r _ => fresh_top hN _) none 0)) fun e a' w' he => xpost_apost hN hG he
  | rangeFunc f ps c1 c2 _ _ => intro g Q st h; exact h.elim
  | scope c _ => intro g Q st h; exact h.elim
  | label l => intro g Q st h; exact h.elim
  | goto l => intro g Q st h; exact h.elim
  | refuse s => intro g Q st h; exact h.elim

/-- A function that is handed objects. -/
theorem awpFunH_sound (hm : P.follows .mixedOrders = true) (hHd : HdSound P hd) {fuel : Nat} {A : Nat → List Tgt} {G : Type} {L : G → Nat → St reg.T → Option (LoopI reg.T G)} {J : G → Nat → Option (LoopI reg.T G)} {g : G} {f : FuncId} {fn : Func} (hfn : P.funcs[f]? = some fn) {args : List (V reg.T)} {h : Hp reg.T} (hwr : h.wr = []) {Q : V reg.T × Hp reg.T → Prop}
    (hq : awpFunH reg P hd fuel A L J g fn args h Q) {F : Nat → Prop} {φ : Phi} {w : World} {cargs : Array Value} (hH : HR (fun i => i < h.nx) F φ h w) (hl : LRel F w φ args cargs) :
    Calls P f cargs w (CallPost (fun i => i < h.nx) F φ h w Q) := by
  unfold awpFunH at hq
  split at hq
  · exact hq.elim
  rename_i c hb
  obtain ⟨hc, hq⟩ := (must_iff _ _).1 hq
  simp only [Bool.and_eq_true] at hc
  have hle : args.length ≤ fn.ntmps := by simpa using hc.1
  have hnt : fn.ntmps ≤ 1000000 := Nat.le_of_ble_eq_true hc.2
  have hR0 := enter_ok (nt := fn.ntmps) hH hl hle hnt
  have hh : (⟨h.h, h.nx, []⟩ : Hp reg.T) = h := by cases h; simp only at hwr; rw [hwr]
  rw [hh] at hq
  refine calls_of_wp hfn hb (wp_mono (awp_sound (n0 := h.nx) (F0 := F) (φ0 := φ) (H0 := h.get) (w0 := w) hm hHd hnt c _ _ _ hq ⟨_, F, φ, fun i hi => hi, hR0, Goes.refl reg hH⟩) fun e a' w' he => ?_)
  have hfin : ∀ (r : AExit × St reg.T) (Q : V reg.T × Hp reg.T → Prop), (finX P fn r).K Q → ∃ v, retV P fn r.2 = some v ∧ Q (v, r.2.hp) ∧ ∀ id, r.1 ≠ .exit id := by
    intro r Q hr
    obtain ⟨e, st⟩ := r
    cases e with
    | normal => obtain ⟨v, h1, h2⟩ := K_oneO hr; exact ⟨v, h1, h2, fun id => by simp⟩
    | ret => obtain ⟨v, h1, h2⟩ := K_oneO hr; exact ⟨v, h1, h2, fun id => by simp⟩
    | exit id => exact hr.elim
  have fin : ∀ (e' : AExit) st, (finX P fn (e', st)).K (fun q => (tidyLeaf reg h (q.1, ⟨q.2.h, q.2.nx, List.range h.nx⟩)).K Q) → RA h.nx F φ h.get w fn.ntmps st a' w' → a'.defers = [] ∧ ∃ cv, (results fn a'.tmps).run P w' = .ok cv w' ∧ CallPost (fun i => i < h.nx) F φ h w Q (.returned cv) w' := by
    rintro e' st hk ⟨N, F', φ', hN, hR, hG⟩
    obtain ⟨v, h4, h5, _⟩ := hfin _ _ hk
    obtain ⟨cv, h6, h7⟩ := ret_sound hR h4
    obtain ⟨r, h8, h9⟩ := (Out.K_iff _ _).1 h5
    have hnx : h.nx ≤ st.hp.nx := by
      rcases Nat.eq_zero_or_pos h.nx with h0 | h0
      · omega
      · have := hN (h.nx - 1) (hG.names _ (show h.nx - 1 < h.nx by omega)); omega
    have hres : Res (fun i => i < h.nx) F φ h w (· = (v, ⟨st.hp.h, st.hp.nx, List.range h.nx⟩)) cv w' := by
      refine ⟨v, ⟨st.hp.h, st.hp.nx, List.range h.nx⟩, N, F', φ', rfl, h7, hR.heap, ⟨hG, ⟨hnx, List.range h.nx, by rw [hwr, List.append_nil], fun i hi1 hi2 => ?_⟩, fun i hi => ?_⟩⟩
      · simp only [List.mem_range, Nat.not_lt] at hi1
        have h1 : ∀ (H : Nat → Option (O reg.T)) (N : Nat → Prop) (F : Nat → Prop) (φ : Phi) (w : World) (n : Nat), HRel reg F φ N H w → (∀ i, N i → i < n) → n ≤ i → H i = none := by
          intro H N F φ w n hH hN hi
          cases hHi : H i with
          | none => rfl
          | some o => have := hN i (hH.lt i o hHi); omega
        have hi2 : st.hp.nx ≤ i := by
          have hi2 : ¬(h.nx ≤ i ∧ i < st.hp.nx) := hi2
          omega
        have e1 := h1 h.get _ F φ w h.nx hH (fun i hi => hi) hi1
        have e2 : st.hp.get i = none := h1 st.hp.get N F' φ' w' st.hp.nx hR.heap hN hi2
        rw [e1]; exact e2
      · by_cases h1 : i < h.nx
        · exact .inl h1
        · exact .inr ⟨by omega, hN i hi⟩
    obtain ⟨v2, h2', N2, F2, φ2, e2, a, b, c⟩ := (tidyLeaf_ok h8).2 _ F φ w cv w' hres
    exact ⟨hR.dfs, cv, h6, cv, rfl, v2, h2', N2, F2, φ2, e2 ▸ h9, a, b, c⟩
  cases e with
  | normal => obtain ⟨st, hq, hR⟩ := he; exact fin _ st hq hR
  | ret => obtain ⟨st, hq, hR⟩ := he; exact fin _ st hq hR
  | exit id =>
    obtain ⟨st, hq, hR⟩ := he
    obtain ⟨_, _, _, h6⟩ := hfin _ _ hq
    exact (h6 id rfl).elim
  | goto l => exact he.elim
  | panic ch => exact he.elim
  | outgrown => exact he.elim

/-- A function that is handed objects, its answer as it is. -/
theorem awpFunN_sound (hm : P.follows .mixedOrders = true) (hHd : HdSound P hd) {fuel : Nat} {A : Nat → List Tgt} {G : Type} {L : G → Nat → St reg.T → Option (LoopI reg.T G)} {J : G → Nat → Option (LoopI reg.T G)} {g : G} {f : FuncId} {fn : Func} (hfn : P.funcs[f]? = some fn) {args : List (V reg.T)} {h : Hp reg.T} (hwr : h.wr = []) {Q : V reg.T × Hp reg.T → Prop}
    (hq : awpFunN reg P hd fuel A L J g fn args h Q) {F : Nat → Prop} {φ : Phi} {w : World} {cargs : Array Value} (hH : HR (fun i => i < h.nx) F φ h w) (hl : LRel F w φ args cargs) :
    Calls P f cargs w (CallPost (fun i => i < h.nx) F φ h w Q) := by
  unfold awpFunN at hq
  split at hq
  · exact hq.elim
  rename_i c hb
  obtain ⟨hc, hq⟩ := (must_iff _ _).1 hq
  simp only [Bool.and_eq_true] at hc
  have hle : args.length ≤ fn.ntmps := by simpa using hc.1
  have hnt : fn.ntmps ≤ 1000000 := Nat.le_of_ble_eq_true hc.2
  have hR0 := enter_ok (nt := fn.ntmps) hH hl hle hnt
  refine calls_of_wp hfn hb (wp_mono (awp_sound (n0 := h.nx) (F0 := F) (φ0 := φ) (H0 := h.get) (w0 := w) hm hHd hnt c _ _ _ hq ⟨_, F, φ, fun i hi => hi, hR0, Goes.refl reg hH⟩) fun e a' w' he => ?_)
  have hfin : ∀ (r : AExit × St reg.T) (Q : V reg.T × Hp reg.T → Prop), (finX P fn r).K Q → ∃ v, retV P fn r.2 = some v ∧ Q (v, r.2.hp) ∧ ∀ id, r.1 ≠ .exit id := by
    intro r Q hr
    obtain ⟨e, st⟩ := r
    cases e with
    | normal => obtain ⟨v, h1, h2⟩ := K_oneO hr; exact ⟨v, h1, h2, fun id => by simp⟩
    | ret => obtain ⟨v, h1, h2⟩ := K_oneO hr; exact ⟨v, h1, h2, fun id => by simp⟩
    | exit id => exact hr.elim
  have fin : ∀ (e' : AExit) st, (finX P fn (e', st)).K (fun q => Q (q.1, ⟨q.2.h, q.2.nx, List.range h.nx⟩)) → RA h.nx F φ h.get w fn.ntmps st a' w' → a'.defers = [] ∧ ∃ cv, (results fn a'.tmps).run P w' = .ok cv w' ∧ CallPost (fun i => i < h.nx) F φ h w Q (.returned cv) w' := by
    rintro e' st hk ⟨N, F', φ', hN, hR, hG⟩
    obtain ⟨v, h4, h5, _⟩ := hfin _ _ hk
    obtain ⟨cv, h6, h7⟩ := ret_sound hR h4
    have hnx : h.nx ≤ st.hp.nx := by
      rcases Nat.eq_zero_or_pos h.nx with h0 | h0
      · omega
      · have := hN (h.nx - 1) (hG.names _ (show h.nx - 1 < h.nx by omega)); omega
    have hres : Res (fun i => i < h.nx) F φ h w (· = (v, ⟨st.hp.h, st.hp.nx, List.range h.nx⟩)) cv w' := by
      refine ⟨v, ⟨st.hp.h, st.hp.nx, List.range h.nx⟩, N, F', φ', rfl, h7, hR.heap, ⟨hG, ⟨hnx, List.range h.nx, by rw [hwr, List.append_nil], fun i hi1 hi2 => ?_⟩, fun i hi => ?_⟩⟩
      · simp only [List.mem_range, Nat.not_lt] at hi1
        have h1 : ∀ (H : Nat → Option (O reg.T)) (N : Nat → Prop) (F : Nat → Prop) (φ : Phi) (w : World) (n : Nat), HRel reg F φ N H w → (∀ i, N i → i < n) → n ≤ i → H i = none := by
          intro H N F φ w n hH hN hi
          cases hHi : H i with
          | none => rfl
          | some o => have := hN i (hH.lt i o hHi); omega
        have hi2 : st.hp.nx ≤ i := by
          have hi2 : ¬(h.nx ≤ i ∧ i < st.hp.nx) := hi2
          omega
        have e1 := h1 h.get _ F φ w h.nx hH (fun i hi => hi) hi1
        have e2 : st.hp.get i = none := h1 st.hp.get N F' φ' w' st.hp.nx hR.heap hN hi2
        rw [e1]; exact e2
      · by_cases h1 : i < h.nx
        · exact .inl h1
        · exact .inr ⟨by omega, hN i hi⟩
    obtain ⟨v2, h2', N2, F2, φ2, e2, a, b, c⟩ := hres
    cases e2
    exact ⟨hR.dfs, cv, h6, cv, rfl, _, _, N2, F2, φ2, h5, a, b, c⟩
  cases e with
  | normal => obtain ⟨st, hq, hR⟩ := he; exact fin _ st hq hR
  | ret => obtain ⟨st, hq, hR⟩ := he; exact fin _ st hq hR
  | exit id =>
    obtain ⟨st, hq, hR⟩ := he
    obtain ⟨_, _, _, h6⟩ := hfin _ _ hq
    exact (h6 id rfl).elim
  | goto l => exact he.elim
  | panic ch => exact he.elim
  | outgrown => exact he.elim

/-- A function over pure data. -/
theorem awpFun_sound (hm : P.follows .mixedOrders = true) (hHd : HdSound P hd) {fuel : Nat} {A : Nat → List Tgt} {G : Type} {L : G → Nat → St reg.T → Option (LoopI reg.T G)} {J : G → Nat → Option (LoopI reg.T G)} {g : G} {f : FuncId} {fn : Func} (hfn : P.funcs[f]? = some fn) {args : List (V reg.T)} {Q : V reg.T × Hp reg.T → Prop}
    (h : awpFun reg P hd fuel A L J g fn args Q) {F : Nat → Prop} {w : World} {cargs : Array Value} (hF : ∀ b, F b → b < w.heap.size) (hlay : LayOk reg F w) (hl : LRel F w (fun _ => none) args cargs) :
    Calls P f cargs w fun e w' => ∃ v h' F' φ' cv, Q (v, h') ∧ e = .returned cv ∧ VRel reg F' w' φ' v cv ∧ (∀ b, F b → F' b) ∧ (∀ b, F' b → F b ∨ w.heap.size ≤ b) ∧ w'.os = w.os ∧ w'.tape = w.tape ∧ w'.output = w.output ∧ w.heap.size ≤ w'.heap.size ∧
      ∀ b, b < w.heap.size → w'.heap[b]? = w.heap[b]? := by
  unfold awpFun at h
  split at h
  · exact h.elim
  rename_i c hb
  obtain ⟨hc, h⟩ := (must_iff _ _).1 h
  simp only [Bool.and_eq_true] at hc
  have hle : args.length ≤ fn.ntmps := by simpa using hc.1
  have hnt : fn.ntmps ≤ 1000000 := Nat.le_of_ble_eq_true hc.2
  have hH : HR (reg := reg) (fun _ => False) F (fun _ => none) ⟨.e, 0, []⟩ w :=
    ⟨fun i o hi => by simp [Hp.get, Tr.get_e] at hi, fun i o b s k hi => by simp [Hp.get, Tr.get_e] at hi, fun i j oi oj b s k s' k' hi => by simp [Hp.get, Tr.get_e] at hi, fun i p hp => by simp at hp, fun i o hi => by simp [Hp.get, Tr.get_e] at hi, fun i hi => hi.elim, hF, hlay⟩
  have hR0 := enter_ok (nt := fn.ntmps) hH hl hle hnt
  have e0 : (Hp.get (⟨.e, 0, []⟩ : Hp reg.T)) = fun _ => none := by funext i; rfl
  have eN : (fun i : Nat => i < 0) = fun _ => False := by funext i; simp
  have hG0 : Goes reg F (fun _ => none) (fun i => i < 0) (fun _ => none) w F (fun _ => none) (fun _ => False) (Hp.get (⟨.e, 0, []⟩ : Hp reg.T)) w := by rw [eN]; exact e0 ▸ Goes.refl reg hH
  refine calls_of_wp hfn hb (wp_mono (awp_sound (n0 := 0) (F0 := F) (φ0 := fun _ => none) (H0 := fun _ => none) (w0 := w) hm hHd hnt c _ _ _ h ⟨fun _ => False, F, fun _ => none, fun i hi => hi.elim, hR0, hG0⟩) fun e a' w' he => ?_)
  have hfin : ∀ r : AExit × St reg.T, (finX P fn r).K Q → ∃ v, retV P fn r.2 = some v ∧ Q (v, r.2.hp) ∧ ∀ id, r.1 ≠ .exit id := by
    intro r hr
    obtain ⟨e, st⟩ := r
    cases e with
    | normal => obtain ⟨v, h1, h2⟩ := K_oneO hr; exact ⟨v, h1, h2, fun id => by simp⟩
    | ret => obtain ⟨v, h1, h2⟩ := K_oneO hr; exact ⟨v, h1, h2, fun id => by simp⟩
    | exit id => exact hr.elim
  have own0 : ∀ b, ¬Owned reg (fun _ => none) (fun _ => none) b := fun b ⟨i, o, s, k, hi, _⟩ => by simp at hi
  have fin : ∀ (e' : AExit) st, (finX P fn (e', st)).K Q → RA 0 F (fun _ => none) (fun _ => none) w fn.ntmps st a' w' → a'.defers = [] ∧ ∃ cv, (results fn a'.tmps).run P w' = .ok cv w' ∧ ∃ v h' F' φ' cv', Q (v, h') ∧ Ending.returned cv = .returned cv' ∧ VRel reg F' w' φ' v cv' ∧ (∀ b, F b → F' b) ∧ (∀ b, F' b → F b ∨ w.heap.size ≤ b) ∧
      w'.os = w.os ∧ w'.tape = w.tape ∧ w'.output = w.output ∧ w.heap.size ≤ w'.heap.size ∧ ∀ b, b < w.heap.size → w'.heap[b]? = w.heap[b]? := by
    rintro e' st hq ⟨N, F', φ', hN, hR, hG⟩
    obtain ⟨v, h4, h5, _⟩ := hfin _ hq
    obtain ⟨cv, h6, h7⟩ := ret_sound hR h4
    refine ⟨hR.dfs, cv, h6, v, st.hp, F', φ', cv, h5, rfl, h7, hG.fsub, fun b hb => ?_, hG.os, hG.tape, hG.output, hG.size, fun b hb => hG.block b hb (own0 b)⟩
    rcases hG.fnew b hb with h | h | h
    · exact .inl h
    · exact .inr h
    · exact (own0 b h).elim
  cases e with
  | normal => obtain ⟨st, hq, hR⟩ := he; exact fin _ st hq hR
  | ret => obtain ⟨st, hq, hR⟩ := he; exact fin _ st hq hR
  | exit id =>
    obtain ⟨st, hq, hR⟩ := he
    obtain ⟨_, _, _, h6⟩ := hfin _ hq
    exact (h6 id rfl).elim
  | goto l => exact he.elim
  | panic ch => exact he.elim
  | outgrown => exact he.elim
end
end Go.W

namespace Go.W
open Go Go.RowKit Go.ChangeShapes Go.WideShapes Go.ChangeAt

theorem trodAll_stays {H : Type} {enc : TypeId × Value → H} {P : Program} (hl : laidOutB P = true) {W W' : World} (hb : Below W.heap.size W W') : ∀ {ts : List TypeId} {vs : List Value} {ds : List (DataW H)} {ps : List MemPlace},
    (∀ t ∈ ts, P.readableRec t = true ∧ t < P.types.size) → DataW.TrodAll enc P W 0 (fun _ => true) true ts vs ds ps → (∀ x ∈ ps, x.block < W.heap.size) → DataW.TrodAll enc P W' 0 (fun b => decide (b < W.heap.size)) true ts vs ds ps := by
  intro ts
  induction ts with
  | nil =>
    intro vs ds ps _ h _
    obtain ⟨rfl, rfl, rfl⟩ := trodAll_nil h
    exact trodAll_mk0
  | cons t ts ih =>
    intro vs ds ps hr h hlt
    obtain ⟨v, vs', d, ds', p, q, rfl, rfl, rfl, h1, h2⟩ := trodAll_cons h
    obtain ⟨r1, r2⟩ := hr t (by simp)
    exact ⟨p, q, Below.trod hl r1 r2 h1 hb (fun x hx => hlt x (by simp [hx])), ih (fun t' ht' => hr t' (by simp [ht'])) h2 (fun x hx => hlt x (by simp [hx])), rfl⟩

theorem law_lifted {H : Type} {enc : TypeId × Value → H} {C : Checked} {os : Os} {f : FuncId} {fn : Func} {s : ChangeSpec} {bt : TypeId} (own : ownKnob C.prog.godebug = none) (started : os.Started)
    (hl : laidOutB C.prog = true) (noInit : C.prog.inits.idxOf? f = none) (hfn : C.prog.funcs[f]? = some fn) (hread : ∀ t ∈ fn.params.toList, C.prog.readableRec t = true ∧ t < C.prog.types.size)
    (hres : fn.resultTypes = #[bt]) (hbt : C.prog.underlying bt = some .bool) (hvars : s.vars = [])
    (hs : ∀ ds : List (DataW H), ds.length = fn.params.size → s.fn H (ds ++ []) = { results := [.lit (.bool true)], args := ds })
    (witness : ∃ (w : World) (tape : Tape) (i : Input), w.os = os ∧ (w.forCall tape i).Shaped C.prog ∧ i.vars = [] ∧ Input.okWide C.prog (w.forCall tape i) .any w.heap.size f i ∧
      s.pre6 enc C.prog fn [] false (w.forCall tape i).memory i.args ∧ ({} : Assume).holds C.prog (lone (Frame.enter C.prog f i.args .normal) [] (w.forCall tape i)))
    (walk : ∀ (W : World) (base : Nat) (args : Array Value) (ds : List (DataW H)) (ps : List MemPlace), (∀ (j : Nat) t v, fn.params[j]? = some t → args[j]? = some v → Value.okWide C.prog W .any base t v) →
      (DataW.weightsEach C.prog fn.params.toList ds).all (· ≤ reachBytes) = true → DataW.TrodAll enc C.prog W 0 (fun _ => true) true fn.params.toList args.toList ds ps → (∀ x ∈ ps, x.block < W.heap.size) →
      Calls C.prog f args W fun e W' => e = .returned (.bool true) ∧ Below W.heap.size W W') :
    ReturnsInHanded {} C os f .any (s.pre6 enc C.prog fn [] false) (s.post enc C.prog fn false true false false) := by
  refine returnsInHanded_of_change_shaped (C := C) own started noInit hfn witness ?_
  intro W base args ds gs before hok hW _ hwt _ _
  have hW' := hW
  obtain ⟨p, q, hA, hV, rfl, hfz, hnd⟩ := hW
  rw [hvars] at hV
  obtain ⟨rfl, rfl⟩ := trodVars_none hV
  have hwt' : (DataW.weightsEach C.prog fn.params.toList ds).all (· ≤ reachBytes) = true := by
    have e : s.plain.varTypes C.prog = [] := by simp [DataSpec.varTypes, ChangeSpec.plain, hvars]
    simpa [e] using hwt
  simp only [List.append_nil] at hW'
  have hlt : ∀ x ∈ p, x.block < W.heap.size := fun x hx => by simpa using hW'.lt x (by simpa using hx)
  have hlen : ∀ (ts : List TypeId) (vs : List Value) (ds : List (DataW H)) (ps : List MemPlace), DataW.TrodAll enc C.prog W 0 (fun _ => true) true ts vs ds ps → ds.length = ts.length := by
    intro ts
    induction ts with
    | nil => intro vs ds ps h; obtain ⟨_, rfl, _⟩ := trodAll_nil h; rfl
    | cons t ts ih => intro vs ds ps h; obtain ⟨_, _, _, _, _, _, _, rfl, _, _, h2⟩ := trodAll_cons h; simp [ih _ _ _ h2]
  have hsp := hs ds (by simpa using hlen _ _ _ _ hA)
  refine (walk W base args ds p hok hwt' hA hlt).mono fun e W' ⟨he, hb⟩ => ?_
  subst he
  refine ⟨_, rfl, ds, [], p, [], p, [], hW', ?_, ?_, ?_, ?_, fun h => by cases h⟩
  · rw [hsp, hres]
    exact trodAll_mk1 (shut_bool hbt true)
  · rw [hsp]
    exact trodAll_stays hl hb hread hA hlt
  · rw [hsp, hvars]
    rfl
  · exact hb.frame _

section
variable (reg : Reg) (P : Program)

/-- The fields lie one behind the other, and make up the whole. -/
def contB : Nat → List Field → Nat → Bool
  | off, [], n => Nat.beq off n
  | off, f :: fs, n => Nat.beq f.offset off && contB (off + P.cellsOf f.type) fs n

/-- The type, to its bottom, is one that is read here. -/
def chkT : Nat → TypeId → Bool
  | 0, _ => false
  | n + 1, t => (match P.underlying t with
    | some .bool => true
    | some (.int _) => true
    | some .string => true
    | some (.struct fs) => contB P 0 fs.toList (P.cellsOf t) && fs.toList.all fun f => chkT n f.type
    | some (.slice e) => chkT n e && Nat.beq (reg.k e) (P.cellsOf e) && !Nat.beq (P.cellsOf e) 0
    | _ => false)

def wtFields {D : Type} (R : TypeId → List D → Prop) : List Field → List D → Prop
  | [], vs => vs = []
  | f :: fs, vs => ∃ a b, vs = a ++ b ∧ R f.type a ∧ wtFields R fs b

/-- Cells of pure data, of a type. -/
def WT : Nat → TypeId → List (D reg.T) → Prop
  | 0, _, _ => False
  | n + 1, t, vs => (match P.underlying t with
    | some .bool => ∃ b, vs = [.bool b]
    | some (.int k) => ∃ m, vs = [.int k m] ∧ (Lit.int k m).wf = true
    | some .string => ∃ s, vs = [.str s] ∧ s.length ≤ 9223372036854775807
    | some (.struct fs) => wtFields (WT n) fs.toList vs
    | some (.slice e) => ∃ xs : List (reg.T e), vs = [.sl e xs] ∧ xs.length ≤ 9223372036854775807 ∧ ∀ x ∈ xs, WT n e (reg.enc e x)
    | _ => False)

variable {reg P}

theorem list_of {α : Type} {p : Nat → α → Prop} : ∀ n, (∀ i, i < n → ∃ x, p i x) → ∃ xs : List α, xs.length = n ∧ ∀ (i : Nat) (x : α), xs[i]? = some x → p i x := by
  intro n
  induction n with
  | zero => intro _; exact ⟨[], rfl, fun i x h => by simp at h⟩
  | succ n ih =>
    intro h
    obtain ⟨xs, h1, h2⟩ := ih (fun i hi => h i (by omega))
    obtain ⟨x, hx⟩ := h n (by omega)
    refine ⟨xs ++ [x], by simp [h1], fun i y hy => ?_⟩
    rcases Nat.lt_or_ge i xs.length with hlt | hge
    · rw [List.getElem?_append_left hlt] at hy; exact h2 i y hy
    · rw [List.getElem?_append_right hge] at hy
      have : i = n := by
        rcases Nat.eq_zero_or_pos (i - xs.length) with h | h
        · omega
        · rw [List.getElem?_eq_none (by simp; omega)] at hy; simp at hy
      subst this
      have e : i - xs.length = 0 := by omega
      rw [e] at hy
      simp at hy
      subst hy
      exact hx

theorem cells_read {w : World} {base : Nat} {a : Addr} {n : Nat} {row : List Value} (h : w.cells? base a n = some row) : row.length = n ∧ ∀ j, j < n → w.cell? (a.add j) = some (row.getD j undef) := by
  unfold World.cells? at h
  split at h
  · have hl : ∀ (l : List Nat) (r : List Value), l.mapM (fun i => w.cell? (a.add i)) = some r → r.length = l.length ∧ ∀ j, j < l.length → w.cell? (a.add (l.getD j 0)) = some (r.getD j undef) := by
      intro l
      induction l with
      | nil => intro r h; simp at h; subst h; exact ⟨rfl, fun j hj => by simp at hj⟩
      | cons x l ih =>
        intro r h
        rw [List.mapM_cons] at h
        cases h1 : w.cell? (a.add x) with
        | none => simp [h1] at h
        | some v =>
          cases h2 : l.mapM (fun i => w.cell? (a.add i)) with
          | none => simp [h1, h2] at h
          | some r' =>
            simp [h1, h2] at h
            subst h
            obtain ⟨g1, g2⟩ := ih r' h2
            refine ⟨by simp [g1], fun j hj => ?_⟩
            cases j with
            | zero => simpa using h1
            | succ j => simpa using g2 j (by simpa using hj)
    obtain ⟨g1, g2⟩ := hl _ _ h
    simp only [List.length_range] at g1 g2
    refine ⟨g1, fun j hj => ?_⟩
    have := g2 j hj
    rwa [show (List.range n).getD j 0 = j by simp [List.getD, hj]] at this
  · simp at h

theorem mapM_get {α β : Type} {f : α → Option β} : ∀ {l : List α} {r : List β}, l.mapM f = some r → r.length = l.length ∧ ∀ (i : Nat) x, l[i]? = some x → ∃ y, r[i]? = some y ∧ f x = some y := by
  intro l
  induction l with
  | nil => intro r h; simp at h; subst h; exact ⟨rfl, fun i x hx => by simp at hx⟩
  | cons a l ih =>
    intro r h
    rw [List.mapM_cons] at h
    cases h1 : f a with
    | none => simp [h1] at h
    | some v =>
      cases h2 : l.mapM f with
      | none => simp [h1, h2] at h
      | some r' =>
        simp [h1, h2] at h
        subst h
        obtain ⟨g1, g2⟩ := ih h2
        refine ⟨by simp [g1], fun i x hx => ?_⟩
        cases i with
        | zero => simp at hx; subst hx; exact ⟨v, by simp, h1⟩
        | succ i => simpa using g2 i x (by simpa using hx)

theorem contB_le : ∀ (l : List Field) (off n : Nat), contB P off l n = true → off ≤ n := by
  intro l
  induction l with
  | nil => intro off n h; have := Nat.eq_of_beq_eq_true h; omega
  | cons f l ih =>
    intro off n h
    simp only [contB, Bool.and_eq_true] at h
    have := ih _ _ h.2
    omega

theorem trod_D {H : Type} {enc : TypeId × Value → H} {w : World} {F : Nat → Prop} (hF : ∀ b, b < w.heap.size → F b) (htot : ∀ n e vs, reg.k e = P.cellsOf e → P.cellsOf e ≠ 0 → WT reg P n e vs → ∃ x, reg.enc e x = vs) :
    ∀ (n fuel : Nat) (t : TypeId) (cs : List Value) (d : DataW H) (ps : List MemPlace), chkT reg P n t = true → DataW.trod enc P w 0 (fun _ => true) true fuel t cs = some (d, ps) →
      ∃ vs : List (D reg.T), vs.length = cs.length ∧ (∀ j, j < vs.length → DRel reg F w (vs.getD j .nilp) (cs.getD j undef)) ∧ WT reg P n t vs := by
  intro n
  induction n with
  | zero => intro fuel t cs d ps h; simp [chkT] at h
  | succ n ih =>
    intro fuel t cs d ps hc h
    cases fuel with
    | zero => simp [DataW.trod] at h
    | succ fuel =>
      have one : ∀ (x : D reg.T) (v : Value), DRel reg F w x v → ∀ j, j < [x].length → DRel reg F w ([x].getD j .nilp) ([v].getD j undef) := by
        intro x v hx j hj
        have : j = 0 := by simpa using hj
        subst this
        simpa using hx
      simp only [chkT] at hc
      simp only [WT]
      cases hu : P.underlying t with
      | none => rw [hu] at hc; simp at hc
      | some ty =>
        rw [hu] at hc
        cases ty with
        | bool =>
          rcases cs with _ | ⟨c, _ | ⟨c', rest⟩⟩
          · simp [DataW.trod, hu] at h
          · cases c <;> simp [DataW.trod, hu] at h
            rename_i b
            exact ⟨[.bool b], rfl, one _ _ (.bool b), b, rfl⟩
          · simp [DataW.trod, hu] at h
        | int k =>
          rcases cs with _ | ⟨c, _ | ⟨c', rest⟩⟩
          · simp [DataW.trod, hu] at h
          · cases c <;> simp [DataW.trod, hu] at h
            rename_i k' m
            obtain ⟨⟨rfl, hwf⟩, _⟩ := h
            exact ⟨[.int k' m], rfl, one _ _ (.int k' m), m, rfl, hwf⟩
          · simp [DataW.trod, hu] at h
        | string =>
          unfold DataW.trod at h
          rw [hu] at h
          rcases cs with _ | ⟨c, _ | ⟨c', rest⟩⟩
          · cases h
          · cases c with
            | string b =>
              replace h : (if b.size ≤ maxLen then some (DataW.lit (.string b.data.toList), []) else none) = some (d, ps) := h
              split at h
              · rename_i hb
                refine ⟨[.str b.data.toList], rfl, one _ _ (by have := DRel.str (reg := reg) (F := F) (w := w) b.data.toList; rw [Array.toArray_toList] at this; exact this), _, rfl, ?_⟩
                unfold maxLen at hb
                have e : b.data.toList.length = b.size := by rw [Array.length_toList]; rfl
                rw [e]; exact hb
              · cases h
            | _ => cases h
          · simp at h
        | struct fs =>
          simp only [Bool.and_eq_true] at hc
          obtain ⟨hcont, hall⟩ := hc
          have h' : (if cs.length = P.cellsOf t then (fs.toList.mapM fun f => DataW.trod enc P w 0 (fun _ => true) true fuel f.type ((cs.drop f.offset).take (P.cellsOf f.type))).map fun xs => (DataW.agg (xs.map (·.1)), xs.flatMap (·.2)) else none) = some (d, ps) := by
            rw [← h]
            simp only [DataW.trod, hu]
          split at h'
          · rename_i hlen
            cases hm : fs.toList.mapM (fun f => DataW.trod enc P w 0 (fun _ => true) true fuel f.type ((cs.drop f.offset).take (P.cellsOf f.type))) with
            | none => simp [hm] at h'
            | some xs =>
              obtain ⟨_, hget⟩ := mapM_get hm
              -- the fields, one behind the other
              have go : ∀ (l : List Field) (off : Nat), contB P off l (P.cellsOf t) = true → l.all (fun f => chkT reg P n f.type) = true →
                  (∀ f ∈ l, ∃ y, DataW.trod enc P w 0 (fun _ => true) true fuel f.type ((cs.drop f.offset).take (P.cellsOf f.type)) = some y) →
                  ∃ vs : List (D reg.T), vs.length = (cs.drop off).length ∧ (∀ j, j < vs.length → DRel reg F w (vs.getD j .nilp) ((cs.drop off).getD j undef)) ∧ wtFields (WT reg P n) l vs := by
                intro l
                induction l with
                | nil =>
                  intro off hc _ _
                  simp only [contB] at hc
                  have := Nat.eq_of_beq_eq_true hc
                  subst this
                  refine ⟨[], by simp; omega, fun j hj => by simp at hj, rfl⟩
                | cons f l ihl =>
                  intro off hc ha hf
                  simp only [contB, Bool.and_eq_true] at hc
                  have hoff := Nat.eq_of_beq_eq_true hc.1
                  simp only [List.all_cons, Bool.and_eq_true] at ha
                  obtain ⟨y, hy⟩ := hf f (by simp)
                  obtain ⟨d', ps'⟩ := y
                  rw [hoff] at hy
                  obtain ⟨va, h1, h2, h3⟩ := ih fuel f.type _ d' ps' ha.1 hy
                  obtain ⟨vb, h4, h5, h6⟩ := ihl (off + P.cellsOf f.type) hc.2 ha.2 (fun f' hf' => hf f' (by simp [hf']))
                  simp only [List.length_take, List.length_drop] at h1 h4
                  have hle := contB_le l _ _ hc.2
                  have e1 : va.length = P.cellsOf f.type := by omega
                  refine ⟨va ++ vb, by simp; omega, fun j hj => ?_, va, vb, rfl, h3, h6⟩
                  rcases Nat.lt_or_ge j va.length with hlt | hge
                  · have g := h2 j hlt
                    have e2 : (va ++ vb).getD j .nilp = va.getD j .nilp := by simp only [List.getD, List.getElem?_append_left hlt]
                    have e3 : ((cs.drop off).take (P.cellsOf f.type)).getD j undef = (cs.drop off).getD j undef := by simp only [List.getD, List.getElem?_take]; rw [if_pos (by omega)]
                    rw [e2, ← e3]
                    exact g
                  · have g := h5 (j - va.length) (by simp at hj; omega)
                    have e2 : (va ++ vb).getD j .nilp = vb.getD (j - va.length) .nilp := by simp only [List.getD, List.getElem?_append_right hge]
                    have e3 : (cs.drop (off + P.cellsOf f.type)).getD (j - va.length) undef = (cs.drop off).getD j undef := by
                      simp only [List.getD, List.getElem?_drop]
                      congr 2
                      omega
                    rw [e2, ← e3]
                    exact g
              obtain ⟨vs, h1, h2, h3⟩ := go fs.toList 0 hcont hall (fun f hf => by
                obtain ⟨i, hi⟩ := List.mem_iff_getElem?.1 hf
                obtain ⟨y, _, hy⟩ := hget i f hi
                exact ⟨y, hy⟩)
              exact ⟨vs, by simpa using h1, by simpa using h2, h3⟩
          · simp at h'
        | slice e =>
          simp only [Bool.and_eq_true, Bool.not_eq_true'] at hc
          obtain ⟨⟨hce, hk⟩, hk0⟩ := hc
          have hk := Nat.eq_of_beq_eq_true hk
          have hk0 : P.cellsOf e ≠ 0 := fun e' => by rw [e'] at hk0; simp [Nat.beq_refl] at hk0
          rcases cs with _ | ⟨c, _ | ⟨c', rest⟩⟩
          · simp [DataW.trod, hu] at h
          · cases c <;> (try (simp [DataW.trod, hu] at h; done))
            rename_i base len cap
            cases base with
            | none =>
              have : len = 0 := by
                cases len with
                | zero => rfl
                | succ n => simp [DataW.trod, hu] at h
              subst this
              exact ⟨[.sl e []], rfl, one _ _ (.emp (.sl e []) rfl rfl none cap), [], rfl, by simp, fun x hx => by simp at hx⟩
            | some a =>
              simp only [DataW.trod, hu] at h
              split at h
              · rename_i hb
                obtain ⟨_, hlc, hcm⟩ := hb
                cases hm : (List.range len).mapM (fun i => (w.cells? 0 (a.add (i * P.cellsOf e)) (P.cellsOf e)).bind (DataW.trod enc P w 0 (fun _ => true) true fuel e)) with
                | none => rw [hm] at h; simp at h
                | some elems =>
                  obtain ⟨_, hget⟩ := mapM_get hm
                  unfold maxLen at hcm
                  -- each row, and what it says
                  have hrow : ∀ i, i < len → ∃ x : reg.T e, ∃ row : List Value, row.length = P.cellsOf e ∧ (∀ j, j < P.cellsOf e → w.cell? ((a.add (i * P.cellsOf e)).add j) = some (row.getD j undef)) ∧
                      (∀ j, j < (reg.enc e x).length → DRel reg F w ((reg.enc e x).getD j .nilp) (row.getD j undef)) ∧ (reg.enc e x).length = row.length ∧ WT reg P n e (reg.enc e x) := by
                    intro i hi
                    obtain ⟨y, _, hy⟩ := hget i i (by simp [hi])
                    cases hcl : w.cells? 0 (a.add (i * P.cellsOf e)) (P.cellsOf e) with
                    | none => rw [hcl] at hy; simp at hy
                    | some row =>
                      rw [hcl] at hy
                      simp only [Option.bind_some] at hy
                      obtain ⟨g1, g2⟩ := cells_read hcl
                      obtain ⟨d', ps'⟩ := y
                      obtain ⟨vs, h1, h2, h3⟩ := ih fuel e row d' ps' hce hy
                      obtain ⟨x, rfl⟩ := htot n e vs hk hk0 h3
                      exact ⟨x, row, g1, g2, h2, h1, h3⟩
                  obtain ⟨xs, hxl, hxs⟩ := list_of len hrow
                  refine ⟨[.sl e xs], rfl, one _ _ ?_, xs, rfl, by omega, fun x hx => ?_⟩
                  · cases hln : len with
                    | zero =>
                      have : xs = [] := List.length_eq_zero_iff.1 (by omega)
                      subst this
                      exact .emp (.sl e []) rfl rfl _ _
                    | succ m =>
                      -- the block
                      have hcell : ∀ i, i < len → ∀ j, j < P.cellsOf e → ∃ v, w.cell? ((a.add (i * P.cellsOf e)).add j) = some v := by
                        intro i hi j hj
                        obtain ⟨x, row, _, g2, _⟩ := hrow i hi
                        exact ⟨_, g2 j hj⟩
                      obtain ⟨v0, hv0⟩ := hcell 0 (by omega) 0 (by omega)
                      have ha0 : (a.add (0 * P.cellsOf e)).add 0 = a := by simp [Addr.add]
                      rw [ha0] at hv0
                      obtain ⟨blk, off, spot⟩ := a
                      unfold World.cell? at hv0
                      split at hv0
                      · rename_i C ty fz hblk
                        simp only at hblk hv0
                        cases spot with
                        | some _ => simp at hv0
                        | none =>
                          have hadd : ∀ i j, ((⟨blk, off, none⟩ : Addr).add (i * P.cellsOf e)).add j = ⟨blk, off + i * P.cellsOf e + j, none⟩ := by intro i j; rw [addr_add, addr_add]
                          have hC : ∀ i, i < len → ∀ j, j < P.cellsOf e → off + i * P.cellsOf e + j < C.size := by
                            intro i hi j hj
                            obtain ⟨v, hv⟩ := hcell i hi j hj
                            rw [hadd, cell_of_heap hblk] at hv
                            exact (Array.getElem?_eq_some_iff.1 hv).1
                          have hlt : blk < w.heap.size := (Array.getElem?_eq_some_iff.1 hblk).1
                          rw [← hln]
                          have hk' : (D.sl (T := reg.T) e xs).k reg 0 = P.cellsOf e := hk
                          have hrow' : ∀ r, r < len → ∃ row : List Value, row.length = P.cellsOf e ∧ (∀ j, j < P.cellsOf e → w.cell? (((⟨blk, off, none⟩ : Addr).add (r * P.cellsOf e)).add j) = some (row.getD j undef)) ∧
                              (∀ j, j < ((D.sl (T := reg.T) e xs).row reg r).length → DRel reg F w (((D.sl (T := reg.T) e xs).row reg r).getD j .nilp) (row.getD j undef)) ∧ ((D.sl (T := reg.T) e xs).row reg r).length = row.length := by
                            intro r hr
                            have hr' : r < xs.length := by omega
                            obtain ⟨row, g1, g2, g3, g4, _⟩ := hxs r xs[r] (List.getElem?_eq_getElem hr')
                            have e1 : (D.sl (T := reg.T) e xs).row reg r = reg.enc e xs[r] := by simp [D.row, List.getD, hr']
                            rw [e1]
                            exact ⟨row, g1, g2, g3, g4⟩
                          refine .sl (.sl e xs) len ⟨blk, off, none⟩ cap C ty fz rfl (by simp [D.len?, hxl]) (hF _ hlt) hblk rfl (by omega) (by omega) ?_ (fun r hr => ?_) (fun r j hr hj => ?_)
                          · rw [hk']
                            have := hC (len - 1) (by omega) (P.cellsOf e - 1) (by omega)
                            have e1 : len * P.cellsOf e = (len - 1) * P.cellsOf e + P.cellsOf e := by
                              rw [hln]
                              simp [Nat.succ_mul]
                            simp only
                            omega
                          · rw [hk']
                            obtain ⟨row, g1, _, _, g4⟩ := hrow' r hr
                            omega
                          · rw [hk'] at hj ⊢
                            obtain ⟨row, g1, g2, g3, g4⟩ := hrow' r hr
                            have g := g2 j hj
                            rw [hadd, cell_of_heap hblk] at g
                            have e2 : C.getD (off + r * P.cellsOf e + j) undef = row.getD j undef := by simp [Array.getD_eq_getD_getElem?, g]
                            simp only
                            rw [e2]
                            exact g3 j (by omega)
                      · simp at hv0
                  · obtain ⟨i, hi⟩ := List.mem_iff_getElem?.1 hx
                    obtain ⟨row, _, _, _, _, g5⟩ := hxs i x hi
                    exact g5
              · simp at h
          · simp [DataW.trod, hu] at h
        | _ => simp at hc
end

section
variable (reg : Reg) (P : Program)

/-- Cells of pure data as the value of a parameter. -/
def typV (t : TypeId) (vs : List (D reg.T)) : V reg.T := match isAggT P t with | true => .agg (vs.map .d) | false => .d (vs.getD 0 .nilp)

def TypedArgs (n : Nat) : List TypeId → List (V reg.T) → Prop
  | [], vs => vs = []
  | t :: ts, vs => ∃ ds rest, vs = typV reg P t ds :: rest ∧ WT reg P n t ds ∧ TypedArgs n ts rest

/-- What a cell of pure data is. -/
inductive Sh where
  | b
  | i (k : IntKind)
  | s
  | l (e : TypeId)

/-- The cells of a type, one behind the other. -/
def shOf : Nat → TypeId → List Sh
  | 0, _ => []
  | n + 1, t => (match P.underlying t with
    | some .bool => [.b]
    | some (.int k) => [.i k]
    | some .string => [.s]
    | some (.struct fs) => fs.toList.flatMap fun f => shOf n f.type
    | some (.slice e) => [.l e]
    | _ => [])

def WS : List Sh → List (D reg.T) → Prop
  | [], vs => vs = []
  | .b :: r, vs => ∃ x t, vs = .bool x :: t ∧ WS r t
  | .i k :: r, vs => ∃ x t, vs = .int k x :: t ∧ (Lit.int k x).wf = true ∧ WS r t
  | .s :: r, vs => ∃ x t, vs = .str x :: t ∧ x.length ≤ 9223372036854775807 ∧ WS r t
  | .l e :: r, vs => ∃ (x : List (reg.T e)) (t : List (D reg.T)), vs = .sl e x :: t ∧ x.length ≤ 9223372036854775807 ∧ (∃ n, ∀ y ∈ x, WT reg P n e (reg.enc e y)) ∧ WS r t

variable {reg P}

theorem WS.append : ∀ {a b : List Sh} {vs us : List (D reg.T)}, WS reg P a vs → WS reg P b us → WS reg P (a ++ b) (vs ++ us) := by
  intro a
  induction a with
  | nil => intro b vs us h h'; cases h; exact h'
  | cons x a ih =>
    intro b vs us h h'
    cases x with
    | b => obtain ⟨y, t, rfl, h2⟩ := h; exact ⟨y, t ++ us, rfl, ih h2 h'⟩
    | i k => obtain ⟨y, t, rfl, h1, h2⟩ := h; exact ⟨y, t ++ us, rfl, h1, ih h2 h'⟩
    | s => obtain ⟨y, t, rfl, h1, h2⟩ := h; exact ⟨y, t ++ us, rfl, h1, ih h2 h'⟩
    | l e => obtain ⟨y, t, rfl, h1, h3, h2⟩ := h; exact ⟨y, t ++ us, rfl, h1, h3, ih h2 h'⟩

theorem WT.flat : ∀ {n : Nat} {t : TypeId} {vs : List (D reg.T)}, WT reg P n t vs → WS reg P (shOf P n t) vs := by
  intro n
  induction n with
  | zero => intro t vs h; exact h.elim
  | succ n ih =>
    intro t vs h
    simp only [WT] at h
    simp only [shOf]
    cases hu : P.underlying t with
    | none => rw [hu] at h; exact h.elim
    | some ty =>
      rw [hu] at h
      cases ty with
      | bool => obtain ⟨b, rfl⟩ := h; exact ⟨b, [], rfl, rfl⟩
      | int k => obtain ⟨m, rfl, h1⟩ := h; exact ⟨m, [], rfl, h1, rfl⟩
      | string => obtain ⟨m, rfl, h1⟩ := h; exact ⟨m, [], rfl, h1, rfl⟩
      | slice e => obtain ⟨m, rfl, h1, h2⟩ := h; exact ⟨m, [], rfl, h1, ⟨n, h2⟩, rfl⟩
      | struct fs =>
        simp only at h ⊢
        generalize fs.toList = l at h
        induction l generalizing vs with
        | nil => cases h; exact rfl
        | cons f l ihl =>
          obtain ⟨a, b, rfl, h1, h2⟩ := h
          rw [List.flatMap_cons]
          exact WS.append (ih h1) (ihl h2)
      | _ => exact h.elim

theorem okWide_flat {w : World} {r : Reach} {base : Nat} {n : Nat} {t : TypeId} {v : Value} (hc : chkT reg P n t = true) (h : Value.okWide P w r base t v) :
    (isAggT P t = true ∧ ∃ cs, v = .agg cs) ∨ (isAggT P t = false ∧ v.cells = #[v]) := by
  cases n with
  | zero => simp [chkT] at hc
  | succ n =>
    simp only [chkT] at hc
    cases hu : P.underlying t with
    | none => rw [hu] at hc; simp at hc
    | some ty =>
      rw [hu] at hc
      cases ty with
      | struct fs =>
        obtain ⟨cs, h1, _⟩ := okWide_struct hu h
        exact .inl ⟨by simp [isAggT, hu], cs, h1⟩
      | bool =>
        refine .inr ⟨by simp [isAggT, hu], ?_⟩
        simp only [Value.okWide, hu, Cell.okWide] at h
        cases v <;> simp_all [Cell.ok, Value.cells]
      | int k =>
        refine .inr ⟨by simp [isAggT, hu], ?_⟩
        simp only [Value.okWide, hu, Cell.okWide] at h
        cases v <;> simp_all [Cell.ok, Value.cells]
      | string =>
        refine .inr ⟨by simp [isAggT, hu], ?_⟩
        simp only [Value.okWide, hu, Cell.okWide] at h
        cases v <;> simp_all [Cell.ok, Value.cells]
      | slice e =>
        refine .inr ⟨by simp [isAggT, hu], ?_⟩
        simp only [Value.okWide, hu, Cell.okWide] at h
        cases v <;> simp_all [Cell.ok, Value.cells]
      | _ => simp at hc

theorem VRel.of_cells {F : Nat → Prop} {w : World} {φ : Phi} {t : TypeId} {v : Value} {vs : List (D reg.T)} (hf : (isAggT P t = true ∧ ∃ cs, v = .agg cs) ∨ (isAggT P t = false ∧ v.cells = #[v]))
    (hl : vs.length = v.cells.toList.length) (h : ∀ j, j < vs.length → DRel reg F w (vs.getD j .nilp) (v.cells.toList.getD j Go.undef)) : VRel reg F w φ (typV reg P t vs) v := by
  rcases hf with ⟨ha, cs, rfl⟩ | ⟨ha, hv⟩
  · simp only [typV, ha]
    simp only [Value.cells] at hl h
    refine .agg _ cs (by simpa using hl) (fun j hj => ?_)
    have hj' : j < vs.length := by simpa using hj
    have e : (vs.map V.d).getD j .any = .d (vs.getD j .nilp) := by simp [List.getD, List.getElem?_map, List.getElem?_eq_getElem hj']
    rw [e, ← toList_getD]
    exact .d _ _ (h j hj')
  · simp only [typV, ha]
    rw [hv] at hl h
    exact .d _ _ (by simpa using h 0 (by simp at hl; omega))

theorem args_rel {H : Type} {enc : TypeId × Value → H} {w : World} {base : Nat} {F : Nat → Prop} {φ : Phi} (hF : ∀ b, b < w.heap.size → F b) (htot : ∀ n e vs, reg.k e = P.cellsOf e → P.cellsOf e ≠ 0 → WT reg P n e vs → ∃ x, reg.enc e x = vs) {n : Nat} :
    ∀ {ts : List TypeId} {args : List Value} {ds : List (DataW H)} {ps : List MemPlace}, (∀ t ∈ ts, chkT reg P n t = true) → (∀ (j : Nat) t v, ts[j]? = some t → args[j]? = some v → Value.okWide P w .any base t v) →
      DataW.TrodAll enc P w 0 (fun _ => true) true ts args ds ps →
      ∃ vs : List (V reg.T), TypedArgs reg P n ts vs ∧ vs.length = args.length ∧ ∀ j, j < vs.length → VRel reg F w φ (vs.getD j .any) (args.getD j undef) := by
  intro ts
  induction ts with
  | nil =>
    intro args ds ps _ _ h
    obtain ⟨rfl, _, _⟩ := trodAll_nil h
    exact ⟨[], rfl, rfl, fun j hj => by simp at hj⟩
  | cons t ts ih =>
    intro args ds ps hc hok h
    obtain ⟨v, vs', d, ds', p, q, rfl, rfl, rfl, h1, h2⟩ := trodAll_cons h
    obtain ⟨us, g1, g2, g4⟩ := ih (fun t' ht' => hc t' (by simp [ht'])) (fun j t' v' ht hv => hok (j + 1) t' v' (by simpa using ht) (by simpa using hv)) h2
    obtain ⟨fuel, hf⟩ := h1
    obtain ⟨xs, k1, k2, k3⟩ := trod_D hF htot n fuel t _ d p (hc t (by simp)) hf
    have hfl := okWide_flat (hc t (by simp)) (hok 0 t v (by simp) (by simp))
    refine ⟨typV reg P t xs :: us, ⟨xs, us, rfl, k3, g1⟩, by simp [g2], fun j hj => ?_⟩
    cases j with
    | zero => exact VRel.of_cells hfl k1 k2
    | succ j => simpa using g4 j (by simpa using hj)

/-- The answer true. -/
def yes {T : Nat → Type} (v : V T) : Prop := match v with
  | .d (.bool b) => b = true
  | _ => False
theorem yes_eq {T : Nat → Type} {v : V T} (h : yes v) : v = .d (.bool true) := by
  unfold yes at h
  split at h
  · rw [h]
  · exact h.elim

theorem law_row {H : Type} {enc : TypeId × Value → H} {C : Checked} {os : Os} {f : FuncId} {fn : Func} {s : ChangeSpec} {bt : TypeId} (own : ownKnob C.prog.godebug = none) (started : os.Started)
    (hl : laidOutB C.prog = true) (noInit : C.prog.inits.idxOf? f = none) (hfn : C.prog.funcs[f]? = some fn) (hread : ∀ t ∈ fn.params.toList, C.prog.readableRec t = true ∧ t < C.prog.types.size)
    (hres : fn.resultTypes = #[bt]) (hbt : C.prog.underlying bt = some .bool) (hvars : s.vars = [])
    (hs : ∀ ds : List (DataW H), ds.length = fn.params.size → s.fn H (ds ++ []) = { results := [.lit (.bool true)], args := ds })
    (witness : ∃ (w : World) (tape : Tape) (i : Input), w.os = os ∧ (w.forCall tape i).Shaped C.prog ∧ i.vars = [] ∧ Input.okWide C.prog (w.forCall tape i) .any w.heap.size f i ∧
      s.pre6 enc C.prog fn [] false (w.forCall tape i).memory i.args ∧ ({} : Assume).holds C.prog (lone (Frame.enter C.prog f i.args .normal) [] (w.forCall tape i)))
    (n : Nat) (hchk : ∀ t ∈ fn.params.toList, chkT reg C.prog n t = true) (htot : ∀ n e vs, reg.k e = C.prog.cellsOf e → C.prog.cellsOf e ≠ 0 → WT reg C.prog n e vs → ∃ x, reg.enc e x = vs)
    (hTab : ∀ w, reg.Tab w) (hm : C.prog.follows .mixedOrders = true) {hd : Hd reg.T} (hHd : HdSound C.prog hd) {fuel : Nat} (h : ∀ vs, TypedArgs reg C.prog n fn.params.toList vs → ∃ (G : Type) (g : G) (A : _) (L : _) (J : _), awpFun reg C.prog hd fuel A L J g fn vs (fun r => yes r.1)) :
    ReturnsInHanded {} C os f .any (s.pre6 enc C.prog fn [] false) (s.post enc C.prog fn false true false false) := by
  refine law_lifted own started hl noInit hfn hread hres hbt hvars hs witness ?_
  intro W base args ds ps hok _ hA _
  obtain ⟨vs, h1, h2, h4⟩ := args_rel (reg := reg) (P := C.prog) (F := fun b => b < W.heap.size) (φ := fun _ => none) (fun b hb => hb) htot hchk
    (fun j t v ht hv => hok j t v (by simpa using ht) (by simpa using hv)) hA
  obtain ⟨G, g, A, L, J, hL⟩ := h vs h1
  refine (awpFun_sound hm hHd hfn hL (F := fun b => b < W.heap.size) (w := W) (fun b hb => hb) ⟨W, hTab W, fun b hb => ⟨hb, rfl⟩⟩ (cargs := args) ⟨by simpa using h2, fun j hj => by rw [← toList_getD]; exact h4 j hj⟩).mono fun e W' he => ?_
  obtain ⟨v, h', F', φ', cv, hq, rfl, hv, _, _, h5, h6, h7, h8, h9⟩ := he
  have hq : v = .d (.bool true) := yes_eq hq
  subst hq
  refine ⟨?_, ⟨h5, h6, h7, h8, h9⟩⟩
  cases hv with
  | d _ _ hd =>
    cases hd with
    | bool => rfl
    | emp _ hx => cases hx
    | sl _ _ _ _ _ _ _ hx => cases hx
end
end Go.W
