/- Behind a call: new slices become data, what is not reached is dropped, ways that come to the same form become one. No conditions. -/
import Derived.Test.YtmnkbfflpgmkmaaGreatDoorWX
namespace Go.W
open Go Go.RowKit

/-! ### Definitions -/
section
variable (reg : Reg)

/-- An object of data, as data. -/
def O.toD : O reg.T → Option (D reg.T)
  | .trows e xs => some (.sl e xs)
  | .rows k xs => (match dataRows xs with | some ys => some (.usl k ys) | none => none)
  | .map _ _ => none
  | .sit _ _ => none

/-- A slice of an object, by value. -/
def V.frz (i : Nat) (d : D reg.T) : V reg.T → V reg.T
  | .sl j off len cap => (match Nat.beq j i with | true => .d (d.sub reg off (off + len)) | false => .sl j off len cap)
  | .fn f vs us => .fn f (goL i d vs) (goL i d us)
  | .ifc t v => .ifc t (V.frz i d v)
  | .agg vs => .agg (goL i d vs)
  | .tup vs => .tup (goL i d vs)
  | v => v
where goL (i : Nat) (d : D reg.T) : List (V reg.T) → List (V reg.T)
  | [] => []
  | v :: vs => V.frz i d v :: goL i d vs

/-- The slices lie in the rows. -/
def V.okFrz {T : Nat → Type} (i n : Nat) : V T → Bool
  | .sl j off len _ => (match Nat.beq j i with | true => Nat.ble (off + len) n | false => true)
  | .fn _ vs us => okL i n vs && okL i n us
  | .ifc _ v => V.okFrz i n v
  | .agg vs => okL i n vs
  | .tup vs => okL i n vs
  | _ => true
where okL {T : Nat → Type} (i n : Nat) : List (V T) → Bool
  | [] => true
  | v :: vs => V.okFrz i n v && okL i n vs

def frzObjs (i : Nat) (d : D reg.T) (n : Nat) : List Nat → Hp reg.T → Out (Hp reg.T)
  | [], h => .ret h
  | j :: l, h => (match h.get j with
    | some (.rows k xs) => (match xs.any fun r => memN (V.names.goL r []) i with
      | true => .need (xs.all fun r => V.okFrz.okL i n r) (frzObjs i d n l (h.set j (some (.rows k (xs.map (V.frz.goL reg i d))))))
      | false => frzObjs i d n l h)
    | _ => frzObjs i d n l h)

/-- The names that were written since. -/
def dirty {T : Nat → Type} (h0 h : Hp T) : List Nat := (h.wr.take (h.wr.length - h0.wr.length) ++ List.range' h0.nx (h.nx - h0.nx)).foldl addN []

/-- One new object is made data. -/
def frz1 (l : List Nat) (i : Nat) (r : V reg.T × Hp reg.T) : Out (V reg.T × Hp reg.T) :=
  match r.2.get i with
  | some ob => (match ob.toD reg with
    | some d => .need (V.okFrz i (ob.len reg) r.1) ((frzObjs reg i d (ob.len reg) l (r.2.set i none)).bind fun h => .ret (V.frz reg i d r.1, h))
    | none => .ret r)
  | none => .ret r

def frzAll (l : List Nat) : List Nat → V reg.T × Hp reg.T → Out (V reg.T × Hp reg.T)
  | [], r => .ret r
  | i :: is, r => (frz1 reg l i r).bind (frzAll l is)

/-- What a pointer points to stays. -/
def ptrs {T : Nat → Type} : V T → List Nat → List Nat
  | .ptr i _ _, l => addN l i
  | .fn _ vs us, l => goL us (goL vs l)
  | .ifc _ v, l => ptrs v l
  | .agg vs, l => goL vs l
  | .tup vs, l => goL vs l
  | _, l => l
where goL {T : Nat → Type} : List (V T) → List Nat → List Nat
  | [], l => l
  | v :: vs, l => goL vs (ptrs v l)

def optNames {T : Nat → Type} (o : Option (O T)) (l : List Nat) : List Nat := match o with
  | some o => o.names l
  | none => l
def optPtrs {T : Nat → Type} (o : Option (O T)) (l : List Nat) : List Nat := match o with
  | some (.rows _ xs) => xs.foldl (fun l r => ptrs.goL r l) l
  | _ => l

def dropNew {T : Nat → Type} (keep : List Nat) : List Nat → Hp T → Hp T
  | [], h => h
  | i :: l, h => (match memN keep i with
    | true => dropNew keep l h
    | false => (match h.get i with | some _ => dropNew keep l (h.set i none) | none => dropNew keep l h))

def tidyLeaf (h0 : Hp reg.T) (r : V reg.T × Hp reg.T) : Out (V reg.T × Hp reg.T) :=
  let l := dirty h0 r.2
  let new := List.range' h0.nx (r.2.nx - h0.nx)
  let p := l.foldl (fun a j => optPtrs (r.2.get j) a) (ptrs r.1 [])
  (frzAll reg l (new.filter fun i => !memN p i) r).bind fun r =>
    let roots := (l.filter fun i => Nat.blt i h0.nx).foldl (fun a j => optNames (r.2.get j) a) (V.names r.1 [])
    .ret (r.1, dropNew (reach r.2.get 1000 0 roots) new r.2)

/-! #### Two ways, one -/
def joinD (b : Bool) : D reg.T → D reg.T → Option (D reg.T)
  | .bool x, .bool y => some (.bool (bif b then x else y))
  | .int k x, .int k' y => (match sameKind k k' with | true => some (.int k (bif b then x else y)) | false => none)
  | .str x, .str y => some (.str (bif b then x else y))
  | .nilp, .nilp => some .nilp
  | .nilm, .nilm => some .nilm
  | .nilf, .nilf => some .nilf
  | .nili, .nili => some .nili
  | .nils, .nils => some .nils
  | .sl e xs, .sl _ ys => (match castT ys e with | some zs => some (.sl e (bif b then xs else zs)) | none => none)
  | .nils, .sl e ys => some (.sl e (bif b then [] else ys))
  | .sl e xs, .nils => some (.sl e (bif b then xs else []))
  | .usl k xs, .usl k' ys => (match Nat.beq k k' with | true => some (.usl k (bif b then xs else ys)) | false => none)
  | .nils, .usl k ys => some (.usl k (bif b then [] else ys))
  | .usl k xs, .nils => some (.usl k (bif b then xs else []))
  | _, _ => none

def joinV (b : Bool) : V reg.T → V reg.T → Option (V reg.T)
  | .d x, .d y => (match joinD reg b x y with | some z => some (.d z) | none => none)
  | .ptr i r o, .ptr i' r' o' => (match Nat.beq i i' && Nat.beq r r' && Nat.beq o o' with | true => some (.ptr i r o) | false => none)
  | .undef, .undef => some .undef
  | .any, .any => some .any
  | .agg vs, .agg us => (match goL b vs us with | some l => some (.agg l) | none => none)
  | .tup vs, .tup us => (match goL b vs us with | some l => some (.tup l) | none => none)
  | _, _ => none
where goL (b : Bool) : List (V reg.T) → List (V reg.T) → Option (List (V reg.T))
  | [], [] => some []
  | v :: vs, u :: us => (match joinV b v u, goL b vs us with | some x, some l => some (x :: l) | _, _ => none)
  | _, _ => none

def joinRows (b : Bool) : List (List (V reg.T)) → List (List (V reg.T)) → Option (List (List (V reg.T)))
  | [], [] => some []
  | r :: rs, s :: ss => (match joinV.goL reg b r s, joinRows b rs ss with | some x, some l => some (x :: l) | _, _ => none)
  | _, _ => none

def joinO (b : Bool) : O reg.T → O reg.T → Option (O reg.T)
  | .rows k xs, .rows k' ys => (match Nat.beq k k', joinRows reg b xs ys with | true, some zs => some (.rows k zs) | _, _ => none)
  | .trows e xs, .trows _ ys => (match castT ys e with | some zs => some (.trows e (bif b then xs else zs)) | none => none)
  | _, _ => none

def joinObjs (b : Bool) (h h' : Hp reg.T) : List Nat → Tr (O reg.T) → Option (Tr (O reg.T))
  | [], t => some t
  | i :: l, t => (match Tr.ok i, h.get i, h'.get i with
    | true, none, none => joinObjs b h h' l (t.set i none)
    | true, some o, some o' => (match joinO reg b o o' with | some z => joinObjs b h h' l (t.set i (some z)) | none => none)
    | _, _, _ => none)

def joinLeaf (h0 : Hp reg.T) (b : Bool) (r r' : V reg.T × Hp reg.T) : Option (V reg.T × Hp reg.T) :=
  let l1 := r.2.wr.take (r.2.wr.length - h0.wr.length)
  let l2 := r'.2.wr.take (r'.2.wr.length - h0.wr.length)
  let nx := Nat.add r.2.nx (Nat.sub r'.2.nx r.2.nx)
  let l := (l1 ++ l2 ++ List.range' h0.nx (nx - h0.nx)).foldl addN []
  match joinV reg b r.1 r'.1, joinObjs reg b r.2 r'.2 l h0.h with
  | some v, some t => some (v, ⟨t, nx, (l1 ++ l2) ++ h0.wr⟩)
  | _, _ => none
end

inductive Fl (α : Type) : Type
  | bad
  | one (p : Bool) (a : α)
  | many

def flat {α : Type} (J : Bool → α → α → Option α) : Out α → Fl α
  | .ret a => .one true a
  | .need b o => (match flat J o with | .one p a => .one (b && p) a | x => x)
  | .br b x y => (match flat J x, flat J y with
    | .bad, .bad => .bad
    | .bad, .one q c => .one (!b && q) c
    | .one p a, .bad => .one (b && p) a
    | .one p a, .one q c => (match J b a c with | some l => .one (bif b then p else q) l | none => .many)
    | _, _ => .many)
  | .bad => .bad

def mergeO {α : Type} (J : Bool → α → α → Option α) (o : Out α) : Out α :=
  match flat J o with
  | .bad => .bad
  | .one p a => .need p (.ret a)
  | .many => (match o with
    | .br b x y => .br b (mergeO J x) (mergeO J y)
    | .need b o => .need b (mergeO J o)
    | o => o)

def tidyOut (reg : Reg) (h0 : Hp reg.T) (o : Out (V reg.T × Hp reg.T)) : Out (V reg.T × Hp reg.T) := mergeO (joinLeaf reg h0) (o.bind (tidyLeaf reg h0))

/-- Calls: by contract, or by the callee's code, the ways joined where 'tid' says so. -/
def hdT (reg : Reg) (P : Program) (C : Con reg.T) (tid : FuncId → Bool) (fuel : Nat) : Nat → Hd reg.T
  | 0 => fun f args h => (match C f with | some S => S args h | none => .bad)
  | n + 1 => fun f args h => (match C f with
    | some S => S args h
    | none => (match tid f with | true => tidyOut reg h (exFun P (hdT reg P C tid fuel n) fuel f args h) | false => exFun P (hdT reg P C tid fuel n) fuel f args h))

/-! ### Soundness -/
section
variable {reg : Reg} {P : Program}

/-- What an answer with its heap may be turned into. -/
def Turns (h0 : Hp reg.T) (r r' : V reg.T × Hp reg.T) : Prop :=
  r.2.nx ≤ r'.2.nx ∧ ∀ N F φ w cv w', Res N F φ h0 w (· = r) cv w' → Res N F φ h0 w (· = r') cv w'

theorem Turns.refl (h0 : Hp reg.T) (r : V reg.T × Hp reg.T) : Turns h0 r r := ⟨Nat.le_refl _, fun _ _ _ _ _ _ h => h⟩
theorem Turns.trans {h0 : Hp reg.T} {a b c : V reg.T × Hp reg.T} (h : Turns h0 a b) (k : Turns h0 b c) : Turns h0 a c := ⟨Nat.le_trans h.1 k.1, fun N F φ w cv w' x => k.2 N F φ w cv w' (h.2 N F φ w cv w' x)⟩

/-- From what holds at the answer's heap. -/
theorem Turns.of {h0 : Hp reg.T} {r r' : V reg.T × Hp reg.T} (hn : r.2.nx ≤ r'.2.nx) (h : ∀ N F φ w cv, HR N F φ r.2 w → VRel reg F w φ r.1 cv → Res N F φ r.2 w (· = r') cv w) : Turns h0 r r' := by
  refine ⟨hn, fun N F φ w cv w' hR => ?_⟩
  obtain ⟨v, h', N', F', φ', hq, hv, hH, hG⟩ := hR
  subst hq
  obtain ⟨v2, h2, N2, F2, φ2, hq2, hv2, hH2, hG2⟩ := h N' F' φ' w' cv hH hv
  exact ⟨v2, h2, N2, F2, φ2, hq2, hv2, hH2, hG.trans hG2⟩

theorem goL_map (i : Nat) (d : D reg.T) : ∀ vs : List (V reg.T), V.frz.goL reg i d vs = vs.map (V.frz reg i d)
  | [] => rfl
  | v :: vs => by simp [V.frz.goL, goL_map i d vs]
theorem okL_all {T : Nat → Type} (i n : Nat) : ∀ vs : List (V T), V.okFrz.okL i n vs = vs.all (V.okFrz i n)
  | [] => rfl
  | v :: vs => by simp [V.okFrz.okL, okL_all i n vs]

theorem frz_solid {i : Nat} {d : D reg.T} {v : V reg.T} (h : v.solid = true) : (V.frz reg i d v).solid = true := by
  cases v <;> simp only [V.solid, Bool.false_eq_true] at h <;> simp only [V.frz] <;> (try rfl)
  rename_i j off len cap
  cases Nat.beq j i <;> rfl

theorem getD_frz {i : Nat} {d : D reg.T} {vs : List (V reg.T)} {j : Nat} (hj : j < vs.length) : (V.frz.goL reg i d vs).getD j .any = V.frz reg i d (vs.getD j .any) := by
  rw [goL_map, getD_map_lt _ _ _ _ .any hj]
theorem len_frz {i : Nat} {d : D reg.T} {vs : List (V reg.T)} : (V.frz.goL reg i d vs).length = vs.length := by rw [goL_map, List.length_map]
theorem okL_get {T : Nat → Type} {i n : Nat} {vs : List (V T)} (h : V.okFrz.okL i n vs = true) {j : Nat} (hj : j < vs.length) : V.okFrz i n (vs.getD j .any) = true := by
  rw [okL_all, List.all_eq_true] at h
  have e : vs.getD j .any = vs[j] := by simp [List.getD, hj]
  rw [e]
  exact h _ (List.getElem_mem hj)

theorem frz_rel {F F' : Nat → Prop} {w : World} {φ : Phi} {i n : Nat} {d : D reg.T} (hF : ∀ b, F b → F' b) (hfz : ∀ off len cap cv, VRel reg F w φ (.sl i off len cap) cv → off + len ≤ n → DRel reg F' w (d.sub reg off (off + len)) cv)
    {v : V reg.T} {cv : Value} (h : VRel reg F w φ v cv) (hok : V.okFrz i n v = true) : VRel reg F' w φ (V.frz reg i d v) cv := by
  have hm : ∀ b, F b → F' b ∧ w.heap[b]? = w.heap[b]? := fun b hb => ⟨hF b hb, rfl⟩
  have lists : ∀ {vs : List (V reg.T)} {cs : Array Value}, V.okFrz.okL i n vs = true → (∀ j, j < vs.length → V.okFrz i n (vs.getD j .any) = true → VRel reg F' w φ (V.frz reg i d (vs.getD j .any)) (cs.getD j undef)) →
      ∀ j, j < (V.frz.goL reg i d vs).length → VRel reg F' w φ ((V.frz.goL reg i d vs).getD j .any) (cs.getD j undef) := by
    intro vs cs hok ih j hj
    rw [len_frz] at hj
    rw [getD_frz hj]
    exact ih j hj (okL_get hok hj)
  induction h with
  | d x v hd => exact .d x v (hd.mono reg hm)
  | ptr i r o b s k z hp => exact .ptr i r o b s k z hp
  | fp row o a C t fz hFa hb hz hr => exact .fp row o a C t fz (hF _ hFa) hb hz (fun j hj => (hr j hj).mono reg hm)
  | sl j off len cap b s k z cap' hp hc hl hm' hz =>
    simp only [V.frz, V.okFrz] at hok ⊢
    cases hb : Nat.beq j i with
    | true =>
      have : j = i := Nat.eq_of_beq_eq_true hb
      subst this
      simp only [hb] at hok
      exact .d _ _ (hfz off len cap _ (.sl j off len cap b s k z cap' hp hc hl hm' hz) (Nat.le_of_ble_eq_true hok))
    | false => exact .sl j off len cap b s k z cap' hp hc hl hm' hz
  | slz j off cap base hc hnb =>
    simp only [V.frz, V.okFrz] at hok ⊢
    cases hb : Nat.beq j i with
    | true =>
      have : j = i := Nat.eq_of_beq_eq_true hb
      subst this
      simp only [hb] at hok
      exact .d _ _ (hfz off 0 cap _ (.slz j off cap base hc hnb) (Nat.le_of_ble_eq_true hok))
    | false => exact .slz j off cap base hc hnb
  | mp i b s hp => exact .mp i b s hp
  | it i b s hp => exact .it i b s hp
  | fn f caps fst cs fs hz _ hz' _ ih ih' =>
    simp only [V.okFrz, Bool.and_eq_true] at hok
    simp only [V.frz]
    exact .fn f _ _ cs fs (by rw [len_frz]; exact hz) (lists hok.1 ih) (by rw [len_frz]; exact hz') (lists hok.2 ih')
  | agg vs cs hz _ ih => simp only [V.okFrz] at hok; exact .agg _ cs (by rw [len_frz]; exact hz) (lists hok ih)
  | tup vs cs hz _ ih => simp only [V.okFrz] at hok; exact .tup _ cs (by rw [len_frz]; exact hz) (lists hok ih)
  | ifc t v cv _ ih => simp only [V.okFrz] at hok; exact .ifc t _ cv (ih hok)
  | undef => exact .undef
  | any v => exact .any v

/-- An object as data. -/
theorem dataRows_spec {T : Nat → Type} : ∀ {xs : List (List (V T))} {ys : List (List (D T))}, dataRows xs = some ys → xs = ys.map fun r => r.map .d := by
  intro xs
  induction xs with
  | nil => intro ys h; simp only [dataRows, Option.some.injEq] at h; subst h; rfl
  | cons x xs ih =>
    intro ys h
    simp only [dataRows] at h
    split at h
    · rename_i a b ha hb
      cases h
      rw [dataOf_spec ha, ih hb]
      rfl
    · cases h

theorem toD_spec {o : O reg.T} {d : D reg.T} (h : o.toD reg = some d) : o.isRows reg = true ∧ d.isSl = true ∧ d.len? reg = some (o.len reg) ∧ d.k reg 0 = o.k reg ∧ ∀ r, r < o.len reg → o.row reg r = (d.row reg r).map .d := by
  cases o with
  | rows k xs =>
    simp only [O.toD] at h
    split at h
    · rename_i ys hys
      cases h
      have e := dataRows_spec hys
      refine ⟨rfl, rfl, by rw [e]; simp [D.len?, O.len], rfl, fun r hr => ?_⟩
      rw [e] at hr ⊢
      simp only [O.len, List.length_map] at hr
      simp only [O.row, D.row]
      rw [getD_map_lt _ _ _ _ [] hr]
    · cases h
  | trows e xs => simp only [O.toD, Option.some.injEq] at h; subst h; exact ⟨rfl, rfl, rfl, rfl, fun r _ => rfl⟩
  | map c es => simp [O.toD] at h
  | sit s p => simp [O.toD] at h

theorem VRel.d_inv {F : Nat → Prop} {w : World} {φ : Phi} {x : D reg.T} {cv : Value} (h : VRel reg F w φ (.d x) cv) : DRel reg F w x cv := by cases h with | d _ _ h => exact h

/-- A slice of an object that is data now. -/
theorem sl_data {F F' : Nat → Prop} {w : World} {φ : Phi} {i : Nat} {o : O reg.T} {d : D reg.T} (hF : ∀ b, F b → F' b) (ho : ORel reg F w φ i o) (hd : o.toD reg = some d) (hb : ∀ b s k z, φ i = some (b, s, k, z) → F' b)
    (off len : Nat) (cap : Cap) (cv : Value) (hv : VRel reg F w φ (.sl i off len cap) cv) (hle : off + len ≤ o.len reg) : DRel reg F' w (d.sub reg off (off + len)) cv := by
  obtain ⟨_, h2, h3, h4, h5⟩ := toD_spec hd
  have hm : ∀ b, F b → F' b ∧ w.heap[b]? = w.heap[b]? := fun b hb => ⟨hF b hb, rfl⟩
  have hlen := sub_len h3 (Nat.le_add_right off len) hle h2
  rw [Nat.add_sub_cancel_left] at hlen
  cases hv with
  | slz _ _ _ base hc => exact .emp _ (sub_k (k0 := 0) h2).2 hlen base 0
  | sl _ _ _ _ b s k z cap' hp hc hl hm' hz =>
    obtain ⟨_, ho⟩ := ho.rows reg (by cases o <;> first | rfl | simp [O.toD] at hd)
    rcases ho with ⟨_, h⟩ | ⟨b', s', C, t, fz, h6, h7, h8, h9⟩
    · rw [hp] at h; cases h
    · rw [hp] at h6
      cases h6
      have hk : (d.sub reg off (off + len)).k reg 0 = o.k reg := (sub_k (k0 := 0) h2).1.trans h4
      refine .sl _ len ⟨b, s + off * o.k reg, none⟩ cap' C t fz (sub_k (k0 := 0) h2).2 hlen (hb _ _ _ _ hp) h7 rfl hl (by omega) ?_ (fun r hr => ?_) (fun r j hr hj => ?_)
      · rw [hk]
        have h1 := h9.size
        have h2 : (off + len) * o.k reg ≤ o.len reg * o.k reg := Nat.mul_le_mul_right _ hle
        rw [Nat.add_mul] at h2
        show s + off * o.k reg + len * o.k reg ≤ C.size
        omega
      · rw [hk, sub_row h3 h2 r (by omega)]
        have := h9.at_.wid (off + r) (by omega)
        rw [h5 (off + r) (by omega), List.length_map] at this
        exact this
      · rw [hk] at hj ⊢
        rw [sub_row h3 h2 r (by omega)]
        have hw := h9.at_.wid (off + r) (by omega)
        have := h9.at_.rel (off + r) j (by omega) hj
        rw [h5 (off + r) (by omega)] at this hw
        rw [List.length_map] at hw
        rw [getD_map_d _ _ (by omega)] at this
        have h10 := this.d_inv.mono reg hm
        rw [show s + ((off + r) * o.k reg + j) = s + off * o.k reg + r * o.k reg + j by rw [Nat.add_mul]; omega] at h10
        exact h10

/-- Heaps, object by object. -/
theorem HRel.turn {N F : Nat → Prop} {φ : Phi} {H H' : Nat → Option (O reg.T)} {w : World} (hH : HRel reg F φ N H w) (h : ∀ i o', H' i = some o' → ∃ o, H i = some o ∧ (ORel reg F w φ i o → ORel reg F w φ i o')) : HRel reg F φ N H' w := by
  refine ⟨fun i o' ho => ?_, fun i o' b s k ho hp => ?_, fun i j oi oj b s k s' k' hi hj => ?_, hH.dom, fun i o' ho => ?_, hH.ok, hH.frz, hH.lay⟩
  · obtain ⟨o, h1, h2⟩ := h i o' ho; exact h2 (hH.obj i o h1)
  · obtain ⟨o, h1, _⟩ := h i o' ho; exact hH.own i o b s k h1 hp
  · obtain ⟨a, h1, _⟩ := h i oi hi
    obtain ⟨c, h2, _⟩ := h j oj hj
    exact hH.inj i j a c b s k s' k' h1 h2
  · obtain ⟨o, h1, _⟩ := h i o' ho; exact hH.lt i o h1

theorem Goes.turn {N F N' F' : Nat → Prop} {φ φ' : Phi} {H H' H'' : Nat → Option (O reg.T)} {w w' : World} (h : Goes reg F φ N H w F' φ' N' H' w') (hs : ∀ i o', H'' i = some o' → ∃ o, H' i = some o) : Goes reg F φ N H w F' φ' N' H'' w' :=
  ⟨h.os, h.tape, h.output, h.size, h.block, h.fsub, h.fnew, h.phi, h.names, fun b ⟨i, o, s, k, ho, hp⟩ => by obtain ⟨o', ho'⟩ := hs i o ho; exact h.dom b ⟨i, o', s, k, ho', hp⟩, h.new⟩

theorem frzObjs_ok {i n : Nat} {d : D reg.T} : ∀ {l : List Nat} {h h' : Hp reg.T}, (frzObjs reg i d n l h).K (· = h') → h'.nx = h.nx ∧
    ∀ {N F0 F : Nat → Prop} {φ : Phi} {w : World}, (∀ b, F0 b → F b) → (∀ v cv, VRel reg F w φ v cv → V.okFrz i n v = true → VRel reg F w φ (V.frz reg i d v) cv) → HR N F φ h w → HR N F φ h' w ∧ GO N F φ h w N F φ h' w := by
  intro l
  induction l with
  | nil => intro h h' hK; cases hK; exact ⟨rfl, fun _ _ hH => ⟨hH, GO.refl hH⟩⟩
  | cons j l ih =>
    intro h h' hK
    simp only [frzObjs] at hK
    split at hK
    · rename_i k xs hj
      split at hK
      · obtain ⟨hok, hK⟩ := Out.K_need.1 hK
        obtain ⟨e, h1⟩ := ih hK
        refine ⟨e, fun {N F0 F φ w} hF hfz hH => ?_⟩
        have hkj := hH.ok j (hH.lt j _ hj)
        have hget : ∀ m, (h.set j (some (.rows k (xs.map (V.frz.goL reg i d))))).get m = if m = j then some (.rows k (xs.map (V.frz.goL reg i d))) else h.get m := get_setH hkj
        have hH' : HR N F φ (h.set j (some (.rows k (xs.map (V.frz.goL reg i d))))) w := by
          refine hH.turn (fun m o' hm => ?_)
          rw [hget] at hm
          by_cases hmj : m = j
          · subst hmj
            rw [if_pos rfl] at hm
            cases hm
            refine ⟨_, hj, fun ho => ?_⟩
            refine .inl ⟨rfl, ?_⟩
            rcases (ho.rows reg rfl).2 with ⟨h2, h3⟩ | ⟨b, s, C, t, fz, h2, h3, h4, h5⟩
            · exact .inl ⟨by simpa [O.len] using h2, h3⟩
            · have hrow : ∀ r, r < xs.length → (O.rows k (xs.map (V.frz.goL reg i d))).row reg r = V.frz.goL reg i d (xs.getD r []) := fun r hr => by
                simp only [O.row]; rw [getD_map_lt _ _ _ _ [] hr]
              refine .inr ⟨b, s, C, t, fz, h2, h3, h4, ⟨by simpa [O.len, O.k] using h5.size, by simpa [O.len] using h5.len, ⟨fun r hr => ?_, fun r c hr hc => ?_, fun r c hr hc => ?_⟩⟩⟩
              · have hr : r < xs.length := by simpa [O.len] using hr
                rw [hrow r hr, len_frz]
                exact h5.at_.wid r hr
              · have hr : r < xs.length := by simpa [O.len] using hr
                have hw : (xs.getD r []).length = k := h5.at_.wid r hr
                rw [hrow r hr, getD_frz (by rw [hw]; exact hc)]
                exact frz_solid (h5.at_.solid r c hr hc)
              · have hr : r < xs.length := by simpa [O.len] using hr
                have hw : (xs.getD r []).length = k := h5.at_.wid r hr
                rw [hrow r hr, getD_frz (by rw [hw]; exact hc)]
                refine hfz _ _ (h5.at_.rel r c hr hc) (okL_get ?_ (by rw [hw]; exact hc))
                have e : xs.getD r [] = xs[r] := by simp [List.getD, hr]
                rw [e]
                exact List.all_eq_true.1 hok _ (List.getElem_mem hr)
          · rw [if_neg hmj] at hm
            exact ⟨o', hm, id⟩
        obtain ⟨h6, h7⟩ := h1 (F0 := F0) hF hfz hH'
        refine ⟨h6, GO.trans (h' := h.set j _) ⟨(Goes.refl reg hH).turn (fun m o' hm => ?_), Grow.set hkj, fun _ hx => .inl hx⟩ h7⟩
        rw [hget] at hm
        by_cases hmj : m = j
        · subst hmj; exact ⟨_, hj⟩
        · rw [if_neg hmj] at hm; exact ⟨_, hm⟩
      · exact ih hK
    · exact ih hK

theorem frz1_ok {h0 : Hp reg.T} {l : List Nat} {i : Nat} {r r' : V reg.T × Hp reg.T} (hK : (frz1 reg l i r).K (· = r')) : Turns h0 r r' := by
  unfold frz1 at hK
  split at hK
  · rename_i ob hi
    split at hK
    · rename_i d hd
      obtain ⟨hok, hK⟩ := Out.K_need.1 hK
      rw [Out.K_bind] at hK
      obtain ⟨h', h1, h2⟩ := (Out.K_iff _ _).1 hK
      have h2 : (V.frz reg i d r.1, h') = r' := h2
      subst h2
      obtain ⟨hnx, hfo⟩ := frzObjs_ok h1
      refine Turns.of (by simp only [hnx]; exact Nat.le_refl _) (fun N F φ w cv hH hv => ?_)
      -- the object's block is shut
      let F' : Nat → Prop := fun b => F b ∨ ∃ s k z, φ i = some (b, s, k, z)
      have hFF : ∀ b, F b → F' b := fun b hb => .inl hb
      have hfz : ∀ v cv, VRel reg F w φ v cv → V.okFrz i (ob.len reg) v = true → VRel reg F' w φ (V.frz reg i d v) cv := fun v cv hv hok =>
        frz_rel hFF (fun off len cap cv hv hle => sl_data hFF (hH.obj i ob hi) hd (fun b s k z hp => .inr ⟨s, k, z, hp⟩) off len cap cv hv hle) hv hok
      have hrem := remove_ok hH hi
      have hk := hH.ok i (hH.lt i ob hi)
      have hm : ∀ b, F b → F' b ∧ w.heap[b]? = w.heap[b]? := fun b hb => ⟨.inl hb, rfl⟩
      have hget : ∀ m, (r.2.set i none).get m = if m = i then none else r.2.get m := get_setH hk
      have hH' : HR N F' φ (r.2.set i none) w := by
        refine ⟨fun j o ho => (hrem.1.obj j o ho).mono reg hm (fun _ _ e => e) (fun e => e) (fun _ _ _ _ => rfl), fun j o b s k ho hp => ⟨?_, (hrem.1.own j o b s k ho hp).2⟩, hrem.1.inj, hrem.1.dom, hrem.1.lt, hrem.1.ok, fun b hb => ?_, hrem.1.lay.mono reg hm⟩
        · rintro (hb | ⟨s', k', z', hp'⟩)
          · exact (hrem.1.own j o b s k ho hp).1 hb
          · rw [hget] at ho
            by_cases hji : j = i
            · rw [if_pos hji] at ho; cases ho
            · rw [if_neg hji] at ho
              exact hji (hH.inj j i o ob b s k s' (k', z') ho hi hp hp')
        · rcases hb with hb | ⟨s', k', z', hp'⟩
          · exact hH.frz b hb
          · exact (hH.own i ob b s' (k', z') hi hp').2
      have hfz' : ∀ v cv, VRel reg F' w φ v cv → V.okFrz i (ob.len reg) v = true → VRel reg F' w φ (V.frz reg i d v) cv := by
        refine fun v cv hv hok => frz_rel (fun _ h => h) (fun off len cap cv hv hle => ?_) hv hok
        have hv' : VRel reg F w φ (.sl i off len cap) cv := by
          cases hv with
          | sl _ _ _ _ b s k z cap' hp hc hl hm' hz => exact .sl i off len cap b s k z cap' hp hc hl hm' hz
          | slz _ _ _ base hc hnb => exact .slz i off cap base hc hnb
        exact sl_data hFF (hH.obj i ob hi) hd (fun b s k z hp => .inr ⟨s, k, z, hp⟩) off len cap cv hv' hle
      obtain ⟨h3, h4⟩ := hfo (F0 := F) hFF hfz' hH'
      refine ⟨_, h', N, F', φ, rfl, hfz _ _ hv hok, h3, GO.trans (h' := r.2.set i none) ?_ h4⟩
      refine ⟨⟨rfl, rfl, rfl, Nat.le_refl _, fun _ _ _ => rfl, hFF, fun b hb => ?_, fun _ _ => rfl, fun _ h => h, hrem.2.goes.dom, fun j p hp => .inl (hH.dom j p hp)⟩, hrem.2.grow, fun _ h => .inl h⟩
      rcases hb with hb | ⟨s', k', z', hp'⟩
      · exact .inl hb
      · exact .inr (.inr ⟨i, ob, s', (k', z'), hi, hp'⟩)
    · cases hK; exact Turns.refl _ _
  · cases hK; exact Turns.refl _ _

theorem frzAll_ok {h0 : Hp reg.T} {l : List Nat} : ∀ {is : List Nat} {r r' : V reg.T × Hp reg.T}, (frzAll reg l is r).K (· = r') → Turns h0 r r' := by
  intro is
  induction is with
  | nil => intro r r' h; cases h; exact Turns.refl _ _
  | cons i is ih =>
    intro r r' h
    simp only [frzAll] at h
    rw [Out.K_bind] at h
    obtain ⟨r1, h1, h2⟩ := (Out.K_iff _ _).1 h
    exact (frz1_ok h1).trans (ih h2)

theorem dropNew_ok {N F : Nat → Prop} {φ : Phi} {w : World} {keep : List Nat} : ∀ {l : List Nat} {h : Hp reg.T}, HR N F φ h w → HR N F φ (dropNew keep l h) w ∧ GO N F φ h w N F φ (dropNew keep l h) w := by
  intro l
  induction l with
  | nil => intro h hH; exact ⟨hH, GO.refl hH⟩
  | cons i l ih =>
    intro h hH
    simp only [dropNew]
    split
    · exact ih hH
    · split
      · rename_i o ho
        obtain ⟨h1, h2⟩ := remove_ok hH ho
        obtain ⟨h3, h4⟩ := ih h1
        exact ⟨h3, h2.trans h4⟩
      · exact ih hH

theorem dropNew_nx {keep : List Nat} : ∀ {l : List Nat} {h : Hp reg.T}, (dropNew keep l h).nx = h.nx := by
  intro l
  induction l with
  | nil => intro h; rfl
  | cons i l ih =>
    intro h
    simp only [dropNew]
    split
    · exact ih
    · split
      · rw [ih]; rfl
      · exact ih

theorem tidyLeaf_ok {h0 : Hp reg.T} {r r' : V reg.T × Hp reg.T} (hK : (tidyLeaf reg h0 r).K (· = r')) : Turns h0 r r' := by
  unfold tidyLeaf at hK
  simp only at hK
  rw [Out.K_bind] at hK
  obtain ⟨r1, h1, h2⟩ := (Out.K_iff _ _).1 hK
  have h2 := h2.symm
  subst h2
  refine (frzAll_ok h1).trans (Turns.of (by simp only [dropNew_nx]; exact Nat.le_refl _) (fun N F φ w cv hH hv => ?_))
  obtain ⟨h3, h4⟩ := dropNew_ok (l := List.range' h0.nx (r.2.nx - h0.nx)) (keep := reach r1.2.get 1000 0 (((dirty h0 r.2).filter fun i => Nat.blt i h0.nx).foldl (fun a j => optNames (r1.2.get j) a) (V.names r1.1 []))) hH
  exact ⟨_, _, N, F, φ, rfl, hv, h3, h4⟩
/-! #### Joins -/
def DTo (x z : D reg.T) : Prop := ∀ F w cv, DRel reg F w x cv → DRel reg F w z cv
def VTo (v u : V reg.T) : Prop := (v.solid = true → u.solid = true) ∧ ∀ F w φ cv, VRel reg F w φ v cv → VRel reg F w φ u cv
def Sel {α : Type} (R : α → α → Prop) (b : Bool) (x y z : α) : Prop := (b = true → R x z) ∧ (b = false → R y z)

theorem nils_to {z : D reg.T} (hz : z.isSl = true) (hl : z.len? reg = some 0) : DTo (reg := reg) .nils z := by
  intro F w cv h
  cases h with
  | nils => exact .emp z hz hl none 0
  | emp _ hx => simp [D.isSl] at hx
  | sl _ _ _ _ _ _ _ hx => simp [D.isSl] at hx

theorem joinD_ok {b : Bool} {x y z : D reg.T} (h : joinD reg b x y = some z) : Sel DTo b x y z := by
  unfold joinD at h
  split at h
  case h_2 =>
    split at h
    · rename_i hk
      have := sameKind_eq hk
      subst this
      cases h
      constructor <;> (rintro rfl; exact fun F w cv h => h)
    · cases h
  case h_9 =>
    split at h
    · rename_i zs hzs
      obtain ⟨he, hz⟩ := castT_eq hzs
      subst he
      cases h
      subst hz
      constructor <;> (rintro rfl; exact fun F w cv h => h)
    · cases h
  case h_10 =>
    cases h
    exact ⟨by rintro rfl; exact nils_to rfl rfl, by rintro rfl; exact fun F w cv h => h⟩
  case h_11 =>
    cases h
    exact ⟨by rintro rfl; exact fun F w cv h => h, by rintro rfl; exact nils_to rfl rfl⟩
  case h_12 =>
    split at h
    · rename_i hk
      have := Nat.eq_of_beq_eq_true hk
      subst this
      cases h
      constructor <;> (rintro rfl; exact fun F w cv h => h)
    · cases h
  case h_13 =>
    cases h
    exact ⟨by rintro rfl; exact nils_to rfl rfl, by rintro rfl; exact fun F w cv h => h⟩
  case h_14 =>
    cases h
    exact ⟨by rintro rfl; exact fun F w cv h => h, by rintro rfl; exact nils_to rfl rfl⟩
  all_goals first | (cases h; done) | (cases h; constructor <;> (rintro rfl; exact fun F w cv h => h))

theorem VTo.refl (v : V reg.T) : VTo v v := ⟨id, fun _ _ _ _ h => h⟩

theorem list_to {vs us : List (V reg.T)} (hl : us.length = vs.length) (h : ∀ j, j < vs.length → VTo (vs.getD j .any) (us.getD j .any)) {F : Nat → Prop} {w : World} {φ : Phi} {c : Nat → Value}
    (hr : ∀ j, j < vs.length → VRel reg F w φ (vs.getD j .any) (c j)) : ∀ j, j < us.length → VRel reg F w φ (us.getD j .any) (c j) := fun j hj => (h j (by omega)).2 F w φ _ (hr j (by omega))

theorem joinV_ok {b : Bool} : ∀ (v u x : V reg.T), joinV reg b v u = some x → Sel VTo b v u x := by
  have key : ∀ (n : Nat) (v u x : V reg.T), SizeOf.sizeOf v < n → joinV reg b v u = some x → Sel VTo b v u x := by
    intro n
    induction n with
    | zero => intro v u x hv; omega
    | succ n ih =>
      have lists : ∀ (vs us xs : List (V reg.T)), SizeOf.sizeOf vs < n + 1 → joinV.goL reg b vs us = some xs → (xs.length = vs.length ∧ xs.length = us.length) ∧ ∀ j, j < xs.length → Sel VTo b (vs.getD j .any) (us.getD j .any) (xs.getD j .any) := by
        intro vs
        induction vs with
        | nil =>
          intro us xs _ h
          cases us with
          | nil => simp only [joinV.goL, Option.some.injEq] at h; subst h; exact ⟨⟨rfl, rfl⟩, fun j hj => by simp at hj⟩
          | cons u us => simp [joinV.goL] at h
        | cons v vs ihv =>
          intro us xs hs h
          simp only [List.cons.sizeOf_spec] at hs
          cases us with
          | nil => simp [joinV.goL] at h
          | cons u us =>
            simp only [joinV.goL] at h
            split at h
            · rename_i x l hx hl
              cases h
              obtain ⟨⟨h1, h2⟩, h3⟩ := ihv us l (by omega) hl
              refine ⟨⟨by simp [h1], by simp [h2]⟩, fun j hj => ?_⟩
              cases j with
              | zero => exact ih v u x (by omega) hx
              | succ j => exact h3 j (by simpa using hj)
            · cases h
      intro v u x hv h
      have wrap : ∀ {vs us xs : List (V reg.T)}, ((xs.length = vs.length ∧ xs.length = us.length) ∧ ∀ j, j < xs.length → Sel VTo b (vs.getD j .any) (us.getD j .any) (xs.getD j .any)) →
          (b = true → ∀ F w φ (cs : Array Value), vs.length = cs.size → (∀ j, j < vs.length → VRel reg F w φ (vs.getD j .any) (cs.getD j undef)) → xs.length = cs.size ∧ ∀ j, j < xs.length → VRel reg F w φ (xs.getD j .any) (cs.getD j undef)) ∧
          (b = false → ∀ F w φ (cs : Array Value), us.length = cs.size → (∀ j, j < us.length → VRel reg F w φ (us.getD j .any) (cs.getD j undef)) → xs.length = cs.size ∧ ∀ j, j < xs.length → VRel reg F w φ (xs.getD j .any) (cs.getD j undef)) := by
        rintro vs us xs ⟨⟨h1, h2⟩, h3⟩
        exact ⟨fun hb F w φ cs hz hr => ⟨by omega, list_to h1 (fun j hj => (h3 j (by omega)).1 hb) hr⟩, fun hb F w φ cs hz hr => ⟨by omega, list_to h2 (fun j hj => (h3 j (by omega)).2 hb) hr⟩⟩
      unfold joinV at h
      split at h
      case h_1 =>
        split at h
        · rename_i z hz
          cases h
          have := joinD_ok hz
          exact ⟨fun hb => ⟨fun _ => rfl, fun F w φ cv hv => .d _ _ (this.1 hb F w cv hv.d_inv)⟩, fun hb => ⟨fun _ => rfl, fun F w φ cv hv => .d _ _ (this.2 hb F w cv hv.d_inv)⟩⟩
        · cases h
      case h_2 =>
        split at h
        · rename_i hk
          simp only [Bool.and_eq_true] at hk
          have e1 := Nat.eq_of_beq_eq_true hk.1.1
          have e2 := Nat.eq_of_beq_eq_true hk.1.2
          have e3 := Nat.eq_of_beq_eq_true hk.2
          subst e1 e2 e3
          cases h
          exact ⟨fun _ => VTo.refl _, fun _ => VTo.refl _⟩
        · cases h
      case h_3 => cases h; exact ⟨fun _ => VTo.refl _, fun _ => VTo.refl _⟩
      case h_4 => cases h; exact ⟨fun _ => VTo.refl _, fun _ => VTo.refl _⟩
      case h_5 =>
        split at h
        · rename_i l hl
          cases h
          simp only [V.agg.sizeOf_spec] at hv
          obtain ⟨w1, w2⟩ := wrap (lists _ _ _ (by omega) hl)
          refine ⟨fun hb => ⟨fun h => by simp [V.solid] at h, fun F w φ cv hv => ?_⟩, fun hb => ⟨fun h => by simp [V.solid] at h, fun F w φ cv hv => ?_⟩⟩
          · cases hv with | agg _ cs hz hr => obtain ⟨a1, a2⟩ := w1 hb F w φ cs hz hr; exact .agg _ cs a1 a2
          · cases hv with | agg _ cs hz hr => obtain ⟨a1, a2⟩ := w2 hb F w φ cs hz hr; exact .agg _ cs a1 a2
        · cases h
      case h_6 =>
        split at h
        · rename_i l hl
          cases h
          simp only [V.tup.sizeOf_spec] at hv
          obtain ⟨w1, w2⟩ := wrap (lists _ _ _ (by omega) hl)
          refine ⟨fun hb => ⟨fun h => by simp [V.solid] at h, fun F w φ cv hv => ?_⟩, fun hb => ⟨fun h => by simp [V.solid] at h, fun F w φ cv hv => ?_⟩⟩
          · cases hv with | tup _ cs hz hr => obtain ⟨a1, a2⟩ := w1 hb F w φ cs hz hr; exact .tup _ cs a1 a2
          · cases hv with | tup _ cs hz hr => obtain ⟨a1, a2⟩ := w2 hb F w φ cs hz hr; exact .tup _ cs a1 a2
        · cases h
      case h_7 => cases h
  intro v u x h
  exact key (SizeOf.sizeOf v + 1) v u x (by omega) h

theorem joinL_ok {b : Bool} : ∀ {vs us xs : List (V reg.T)}, joinV.goL reg b vs us = some xs → (xs.length = vs.length ∧ xs.length = us.length) ∧ ∀ j, j < xs.length → Sel VTo b (vs.getD j .any) (us.getD j .any) (xs.getD j .any) := by
  intro vs
  induction vs with
  | nil =>
    intro us xs h
    cases us with
    | nil => simp only [joinV.goL, Option.some.injEq] at h; subst h; exact ⟨⟨rfl, rfl⟩, fun j hj => by simp at hj⟩
    | cons u us => simp [joinV.goL] at h
  | cons v vs ihv =>
    intro us xs h
    cases us with
    | nil => simp [joinV.goL] at h
    | cons u us =>
      simp only [joinV.goL] at h
      split at h
      · rename_i x l hx hl
        cases h
        obtain ⟨⟨h1, h2⟩, h3⟩ := ihv hl
        refine ⟨⟨by simp [h1], by simp [h2]⟩, fun j hj => ?_⟩
        cases j with
        | zero => exact joinV_ok _ _ _ hx
        | succ j => exact h3 j (by simpa using hj)
      · cases h

theorem joinRows_ok {b : Bool} : ∀ {rs ss ts : List (List (V reg.T))}, joinRows reg b rs ss = some ts → (ts.length = rs.length ∧ ts.length = ss.length) ∧ ∀ r, r < ts.length →
    ((ts.getD r []).length = (rs.getD r []).length ∧ (ts.getD r []).length = (ss.getD r []).length) ∧ ∀ j, j < (ts.getD r []).length → Sel VTo b ((rs.getD r []).getD j .any) ((ss.getD r []).getD j .any) ((ts.getD r []).getD j .any) := by
  intro rs
  induction rs with
  | nil =>
    intro ss ts h
    cases ss with
    | nil => simp only [joinRows, Option.some.injEq] at h; subst h; exact ⟨⟨rfl, rfl⟩, fun r hr => by simp at hr⟩
    | cons s ss => simp [joinRows] at h
  | cons r rs ih =>
    intro ss ts h
    cases ss with
    | nil => simp [joinRows] at h
    | cons s ss =>
      simp only [joinRows] at h
      split at h
      · rename_i x l hx hl
        cases h
        obtain ⟨⟨h1, h2⟩, h3⟩ := ih hl
        refine ⟨⟨by simp [h1], by simp [h2]⟩, fun j hj => ?_⟩
        cases j with
        | zero => exact joinL_ok hx
        | succ j => exact h3 j (by simpa using hj)
      · cases h

def OTo (o o' : O reg.T) : Prop := ∀ F w φ i, ORel reg F w φ i o → ORel reg F w φ i o'

theorem rows_to {k : Nat} {xs zs : List (List (V reg.T))} (hl : zs.length = xs.length) (h : ∀ r, r < zs.length → (zs.getD r []).length = (xs.getD r []).length ∧ ∀ j, j < (zs.getD r []).length → VTo ((xs.getD r []).getD j .any) ((zs.getD r []).getD j .any)) :
    OTo (.rows k xs) (.rows k zs) := by
  rintro F w φ i ho
  obtain ⟨h0, ho⟩ := ho.rows reg rfl
  refine .inl ⟨rfl, ?_⟩
  rcases ho with ⟨h1, h2⟩ | ⟨b, s, C, t, fz, h1, h2, h3, h4⟩
  · exact .inl ⟨by simp only [O.len] at h1 ⊢; omega, h2⟩
  · refine .inr ⟨b, s, C, t, fz, h1, h2, h3, ⟨?_, ?_, ⟨fun r hr => ?_, fun r j hr hj => ?_, fun r j hr hj => ?_⟩⟩⟩
    · have := h4.size; simp only [O.len, O.k, hl] at this ⊢; exact this
    · have := h4.len; simp only [O.len, hl] at this ⊢; exact this
    · simp only [O.len] at hr
      have := h4.at_.wid r (by simp only [O.len]; omega)
      simp only [O.row, O.k] at this ⊢
      rw [(h r hr).1, this]
    · simp only [O.len, O.k] at hr hj
      have hw := h4.at_.wid r (by simp only [O.len]; omega)
      simp only [O.row, O.k] at hw ⊢
      exact ((h r hr).2 j (by rw [(h r hr).1, hw]; exact hj)).1 (h4.at_.solid r j (by simp only [O.len]; omega) hj)
    · simp only [O.len, O.k] at hr hj
      have hw := h4.at_.wid r (by simp only [O.len]; omega)
      simp only [O.row, O.k] at hw ⊢
      exact ((h r hr).2 j (by rw [(h r hr).1, hw]; exact hj)).2 F w φ _ (h4.at_.rel r j (by simp only [O.len]; omega) hj)

theorem joinO_ok {b : Bool} {o o' z : O reg.T} (h : joinO reg b o o' = some z) : Sel OTo b o o' z := by
  unfold joinO at h
  split at h
  · split at h
    · rename_i zs hk hz
      have := Nat.eq_of_beq_eq_true hk
      subst this
      cases h
      obtain ⟨⟨h1, h2⟩, h3⟩ := joinRows_ok hz
      exact ⟨fun hb => rows_to h1 (fun r hr => ⟨(h3 r hr).1.1, fun j hj => ((h3 r hr).2 j hj).1 hb⟩), fun hb => rows_to h2 (fun r hr => ⟨(h3 r hr).1.2, fun j hj => ((h3 r hr).2 j hj).2 hb⟩)⟩
    · cases h
  · split at h
    · rename_i zs hzs
      obtain ⟨he, hz⟩ := castT_eq hzs
      subst he
      cases h
      subst hz
      constructor <;> (rintro rfl; exact fun F w φ i h => h)
    · cases h
  · cases h

theorem addN_mem {l : List Nat} {i j : Nat} : j ∈ addN l i ↔ j ∈ l ∨ j = i := by
  unfold addN
  split
  · rename_i h
    have := memN_iff.1 h
    constructor
    · exact .inl
    · rintro (h | rfl)
      · exact h
      · exact this
  · simp
theorem foldl_addN_mem : ∀ (l a : List Nat) (j : Nat), j ∈ l.foldl addN a ↔ j ∈ a ∨ j ∈ l
  | [], a, j => by simp
  | i :: l, a, j => by
    rw [List.foldl_cons, foldl_addN_mem l _ j, addN_mem]
    simp only [List.mem_cons]
    constructor
    · rintro ((h | h) | h)
      · exact .inl h
      · exact .inr (.inl h)
      · exact .inr (.inr h)
    · rintro (h | h | h)
      · exact .inl (.inl h)
      · exact .inl (.inr h)
      · exact .inr h

theorem joinObjs_ok {b : Bool} {h h' : Hp reg.T} : ∀ {l : List Nat} {t t' : Tr (O reg.T)}, joinObjs reg b h h' l t = some t' → ∀ j, (j ∉ l ∧ t'.get j = t.get j) ∨ (j ∈ l ∧
    ((h.get j = none ∧ h'.get j = none ∧ t'.get j = none) ∨ ∃ o o' z, h.get j = some o ∧ h'.get j = some o' ∧ t'.get j = some z ∧ Sel OTo b o o' z)) := by
  intro l
  induction l with
  | nil => intro t t' hj j; simp only [joinObjs, Option.some.injEq] at hj; subst hj; exact .inl ⟨by simp, rfl⟩
  | cons i l ih =>
    intro t t' hj j
    simp only [joinObjs] at hj
    split at hj
    · rename_i hok h1 h2
      rcases ih hj j with ⟨h3, h4⟩ | ⟨h3, h4⟩
      · rw [Tr.get_set hok] at h4
        by_cases hji : j = i
        · subst hji
          rw [if_pos rfl] at h4
          exact .inr ⟨by simp, .inl ⟨h1, h2, h4⟩⟩
        · rw [if_neg hji] at h4
          exact .inl ⟨by simp [hji, h3], h4⟩
      · exact .inr ⟨by simp [h3], h4⟩
    · rename_i o o' hok h1 h2
      split at hj
      · rename_i z hz
        rcases ih hj j with ⟨h3, h4⟩ | ⟨h3, h4⟩
        · rw [Tr.get_set hok] at h4
          by_cases hji : j = i
          · subst hji
            rw [if_pos rfl] at h4
            exact .inr ⟨by simp, .inr ⟨o, o', z, h1, h2, h4, joinO_ok hz⟩⟩
          · rw [if_neg hji] at h4
            exact .inl ⟨by simp [hji, h3], h4⟩
        · exact .inr ⟨by simp [h3], h4⟩
      · cases hj
    · cases hj

/-- One of the ways, in the joined form. -/
theorem join_turn {h0 : Hp reg.T} {r : V reg.T × Hp reg.T} {v : V reg.T} {t : Tr (O reg.T)} {nx : Nat} {L l : List Nat} (hv : VTo r.1 v) (hn : r.2.nx ≤ nx) (hL : ∀ i ∈ r.2.wr.take (r.2.wr.length - h0.wr.length), i ∈ L) (hl : ∀ i, i ∈ L → i ∈ l)
    (hll : ∀ i, i ∈ l → i ∈ L ∨ (h0.nx ≤ i ∧ i < nx)) (hln : ∀ i, h0.nx ≤ i → i < nx → i ∈ l)
    (ht : ∀ j, (j ∉ l ∧ t.get j = h0.h.get j) ∨ (j ∈ l ∧ ((r.2.get j = none ∧ t.get j = none) ∨ ∃ o z, r.2.get j = some o ∧ t.get j = some z ∧ OTo o z))) : Turns h0 r (v, ⟨t, nx, L ++ h0.wr⟩) := by
  refine ⟨hn, fun N F φ w cv w' hR => ?_⟩
  obtain ⟨v1, h1, N', F', φ', hq, hv1, hH, hG⟩ := hR
  subst hq
  simp only at hn hL ht hv
  have hgr := hG.grow
  obtain ⟨g1, M, g2, g3⟩ := hgr
  have hM : ∀ i, i ∈ M → i ∈ L := by
    intro i hi
    refine hL i ?_
    rw [g2]
    simpa using hi
  have hpt : ∀ j, (h1.get j = none ∧ t.get j = none) ∨ ∃ o z, h1.get j = some o ∧ t.get j = some z ∧ OTo o z := by
    intro j
    rcases ht j with ⟨a, b⟩ | ⟨a, b⟩
    · have e : h1.get j = h0.get j := g3 j (fun hj => a (hl j (hM j hj))) (fun ⟨x, y⟩ => a (hln j x (by omega)))
      have e' : t.get j = h0.get j := b
      rw [e, e']
      cases hj : h0.get j with
      | none => exact .inl ⟨rfl, rfl⟩
      | some o => exact .inr ⟨o, o, rfl, rfl, fun _ _ _ _ h => h⟩
    · exact b
  have hback : ∀ i o', t.get i = some o' → ∃ o, h1.get i = some o ∧ OTo o o' := by
    intro i o' hi
    rcases hpt i with ⟨_, b⟩ | ⟨o, z, a, b, c⟩
    · rw [hi] at b; cases b
    · rw [hi] at b; cases b; exact ⟨o, a, c⟩
  refine ⟨v, ⟨t, nx, L ++ h0.wr⟩, N', F', φ', rfl, hv.2 _ _ _ _ hv1, hH.turn (fun i o' hi => ?_), hG.goes.turn (fun i o' hi => ?_), ⟨Nat.le_trans g1 hn, L, rfl, fun i hi hni => ?_⟩, fun i hi => ?_⟩
  · obtain ⟨o, h2, h3⟩ := hback i o' hi
    exact ⟨o, h2, fun h => h3 _ _ _ _ h⟩
  · obtain ⟨o, h2, _⟩ := hback i o' hi
    exact ⟨o, h2⟩
  · rcases ht i with ⟨_, b⟩ | ⟨a, _⟩
    · exact b
    · rcases hll i a with h | h
      · exact (hi h).elim
      · exact (hni h).elim
  · rcases hG.names i hi with h | h
    · exact .inl h
    · exact .inr ⟨h.1, Nat.lt_of_lt_of_le h.2 hn⟩

theorem joinLeaf_ok {h0 : Hp reg.T} {b : Bool} {r r' z : V reg.T × Hp reg.T} (h : joinLeaf reg h0 b r r' = some z) : Sel (Turns h0) b r r' z := by
  unfold joinLeaf at h
  simp only at h
  split at h
  · rename_i v t hv ht
    cases h
    have hj := joinV_ok _ _ _ hv
    have hobj := joinObjs_ok ht
    have hmem : ∀ i, i ∈ (r.2.wr.take (r.2.wr.length - h0.wr.length) ++ r'.2.wr.take (r'.2.wr.length - h0.wr.length) ++ List.range' h0.nx (Nat.add r.2.nx (Nat.sub r'.2.nx r.2.nx) - h0.nx)).foldl addN [] ↔
        i ∈ r.2.wr.take (r.2.wr.length - h0.wr.length) ++ r'.2.wr.take (r'.2.wr.length - h0.wr.length) ∨ (h0.nx ≤ i ∧ i < Nat.add r.2.nx (Nat.sub r'.2.nx r.2.nx)) := by
      intro i
      rw [foldl_addN_mem, List.mem_append (t := List.range' _ _), List.mem_range'_1]
      simp only [List.not_mem_nil, false_or]
      constructor
      · rintro (h | h)
        · exact .inl h
        · exact .inr (by omega)
      · rintro (h | h)
        · exact .inl h
        · exact .inr (by omega)
    have hnx : r.2.nx ≤ Nat.add r.2.nx (Nat.sub r'.2.nx r.2.nx) ∧ r'.2.nx ≤ Nat.add r.2.nx (Nat.sub r'.2.nx r.2.nx) := by
      have : Nat.add r.2.nx (Nat.sub r'.2.nx r.2.nx) = r.2.nx + (r'.2.nx - r.2.nx) := rfl
      omega
    constructor
    · intro hb
      refine join_turn (hj.1 hb) hnx.1 (fun i hi => List.mem_append_left _ hi) (fun i hi => (hmem i).2 (.inl hi)) (fun i hi => (hmem i).1 hi) (fun i h1 h2 => (hmem i).2 (.inr ⟨h1, h2⟩)) (fun j => ?_)
      rcases hobj j with h | ⟨h1, h2⟩
      · exact .inl h
      · refine .inr ⟨h1, ?_⟩
        rcases h2 with ⟨a, _, c⟩ | ⟨o, o', z, a, _, c, d⟩
        · exact .inl ⟨a, c⟩
        · exact .inr ⟨o, z, a, c, d.1 hb⟩
    · intro hb
      refine join_turn (hj.2 hb) hnx.2 (fun i hi => List.mem_append_right _ hi) (fun i hi => (hmem i).2 (.inl hi)) (fun i hi => (hmem i).1 hi) (fun i h1 h2 => (hmem i).2 (.inr ⟨h1, h2⟩)) (fun j => ?_)
      rcases hobj j with h | ⟨h1, h2⟩
      · exact .inl h
      · refine .inr ⟨h1, ?_⟩
        rcases h2 with ⟨_, b, c⟩ | ⟨o, o', z, _, b, c, d⟩
        · exact .inl ⟨b, c⟩
        · exact .inr ⟨o', z, b, c, d.2 hb⟩
  · cases h

/-! #### Trees -/
theorem flat_ok {α : Type} {J : Bool → α → α → Option α} {R : α → α → Prop} (hr : ∀ a, R a a) (ht : ∀ a b c, R a b → R b c → R a c) (hJ : ∀ b x y z, J b x y = some z → Sel R b x y z) :
    ∀ (o : Out α) (p : Bool) (a : α), flat J o = .one p a → p = true → o.K fun r => R r a := by
  intro o
  induction o with
  | ret a => intro p x h _; simp only [flat, Fl.one.injEq] at h; rw [← h.2]; exact hr a
  | need b o ih =>
    intro p x h hp
    simp only [flat] at h
    split at h
    · rename_i q y hq
      cases h
      simp only [Bool.and_eq_true] at hp
      exact Out.K_need.2 ⟨hp.1, ih q _ hq hp.2⟩
    · rename_i hne; exact (hne _ _ h).elim
  | br b x y ihx ihy =>
    intro p a h hp
    simp only [flat] at h
    simp only [Out.K, branch_iff]
    split at h
    · cases h
    · rename_i q c _ hq
      cases h
      simp only [Bool.and_eq_true, Bool.not_eq_true'] at hp
      exact ⟨fun hb => by rw [hb] at hp; simp at hp, fun _ => ihy q _ hq hp.2⟩
    · rename_i q c hq _
      cases h
      simp only [Bool.and_eq_true] at hp
      exact ⟨fun _ => ihx q _ hq hp.2, fun hb => by rw [hb] at hp; simp at hp⟩
    · rename_i q c q' c' hq hq'
      split at h
      · rename_i l hl
        cases h
        have := hJ _ _ _ _ hl
        refine ⟨fun hb => ?_, fun hb => ?_⟩
        · subst hb
          exact Out.K_mono (ihx q c hq hp) (fun r hr' => ht _ _ _ hr' (this.1 rfl))
        · subst hb
          exact Out.K_mono (ihy q' c' hq' hp) (fun r hr' => ht _ _ _ hr' (this.2 rfl))
      · cases h
    · cases h
  | bad => intro p a h; simp [flat] at h

theorem mergeO_ok {α : Type} {J : Bool → α → α → Option α} {R : α → α → Prop} (hr : ∀ a, R a a) (ht : ∀ a b c, R a b → R b c → R a c) (hJ : ∀ b x y z, J b x y = some z → Sel R b x y z) :
    ∀ (o : Out α) (Q : α → Prop), (mergeO J o).K Q → o.K fun r => ∃ r', Q r' ∧ R r r' := by
  intro o
  induction o with
  | ret a => intro Q h; unfold mergeO at h; simp only [flat] at h; exact ⟨a, (Out.K_need.1 h).2, hr a⟩
  | need b o ih =>
    intro Q h
    unfold mergeO at h
    split at h
    · exact h.elim
    · rename_i p a hf
      obtain ⟨hp, hq⟩ := Out.K_need.1 h
      exact Out.K_mono (flat_ok hr ht hJ _ p a hf hp) (fun r h' => ⟨a, hq, h'⟩)
    · obtain ⟨h1, h2⟩ := Out.K_need.1 h
      exact Out.K_need.2 ⟨h1, ih Q h2⟩
  | br b x y ihx ihy =>
    intro Q h
    unfold mergeO at h
    split at h
    · exact h.elim
    · rename_i p a hf
      obtain ⟨hp, hq⟩ := Out.K_need.1 h
      exact Out.K_mono (flat_ok hr ht hJ _ p a hf hp) (fun r h' => ⟨a, hq, h'⟩)
    · simp only [Out.K, branch_iff] at h ⊢
      exact ⟨fun hb => ihx Q (h.1 hb), fun hb => ihy Q (h.2 hb)⟩
  | bad => intro Q h; unfold mergeO at h; simp only [flat] at h; exact h.elim

theorem tidyOut_ok {h0 : Hp reg.T} {o : Out (V reg.T × Hp reg.T)} {Q : V reg.T × Hp reg.T → Prop} (h : (tidyOut reg h0 o).K Q) : o.K fun r => ∃ r', Q r' ∧ Turns h0 r r' := by
  have h1 := mergeO_ok (R := Turns h0) (Turns.refl h0) (fun _ _ _ => Turns.trans) (fun _ _ _ _ => joinLeaf_ok) _ Q h
  rw [Out.K_bind] at h1
  refine Out.K_mono h1 (fun r h2 => ?_)
  obtain ⟨r1, h3, r2, h4, h5⟩ := (Out.K_iff _ _).1 h2
  exact ⟨r2, h4, (tidyLeaf_ok h3).trans h5⟩

theorem hdT_sound (hm : P.follows .mixedOrders = true) (hno : ∀ (f : FuncId) fn, P.funcs[f]? = some fn → fn.body.isNone = false → (fn.name == "runtime.NumGoroutine") = false) {C : Con reg.T} (hC : ConOk P C) (tid : FuncId → Bool) (fuel : Nat) :
    ∀ n, HdSound P (hdT reg P C tid fuel n) := by
  intro n
  induction n with
  | zero =>
    intro f args h Q hq
    simp only [hdT] at hq
    split at hq
    · rename_i S hS; exact hC f S hS args h Q hq
    · exact hq.elim
  | succ n ih =>
    intro f args h Q hq
    simp only [hdT] at hq
    split at hq
    · rename_i S hS; exact hC f S hS args h Q hq
    · split at hq
      · obtain ⟨h1, h2⟩ := exFun_sound hm ih hno fuel f args h _ (tidyOut_ok hq)
        refine ⟨h1, fun N F φ w cargs hfr hH hl => ?_⟩
        refine (h2 N F φ w cargs ?_ hH hl).mono (fun e w' he => ?_)
        · rintro r ⟨r', hq', ht⟩ i hi1 hi2
          exact hfr r' hq' i hi1 (Nat.lt_of_lt_of_le hi2 ht.1)
        · obtain ⟨cv, he, v, h', N', F', φ', ⟨r', hq', ht⟩, hv, hH', hG⟩ := he
          obtain ⟨v2, h2', N2, F2, φ2, e2, a, b, c⟩ := ht.2 N F φ w cv w' ⟨v, h', N', F', φ', rfl, hv, hH', hG⟩
          exact ⟨cv, he, v2, h2', N2, F2, φ2, e2 ▸ hq', a, b, c⟩
      · exact exFun_sound hm ih hno fuel f args h Q hq
end
end Go.W
